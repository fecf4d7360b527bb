/- CodeK: CodeL1 CodeND CodeDI CodeBU CodeBX CodeBO. -/
import Derived.Test.YtiibohocdbaekaaAmKB4
import Derived.Test.YtiibohocdbaekaaAmKB1
import Derived.KernelRfl
import Derived.Test.YtiibohocdbaekaaRows
set_option linter.unusedVariables false
set_option maxRecDepth 100000
namespace Go.Am
abbrev y8:Nat:=38
abbrev DI:Nat:=75
abbrev vk:Nat:=89
abbrev xI:Nat:=73
abbrev wV:Nat:=104
abbrev vr:Nat:=44
abbrev BG:Nat:=42
abbrev Cq:Nat:=78
abbrev BN:Nat:=43
abbrev Be:Nat:=45
abbrev sD:Nat:=88
abbrev Db:Nat:=84
abbrev yk:Nat:=109
abbrev wq:Nat:=86
abbrev zD:Nat:=118
abbrev Du:Nat:=111
abbrev yu:Nat:=122
abbrev AF:Nat:=87
abbrev Ek:Nat:=34
abbrev qql:Nat:=20
abbrev qu:Nat:=43
abbrev jf:Nat:=36
abbrev cJ:Nat:=3
abbrev Iv:Nat:=146
abbrev jk:Nat:=153
abbrev vx:Nat:=94
noncomputable section
open Go.Proofs Go.Proofs.Ytiibohocdbaekaa
class MK (M:aM):Prop where
 ok:∀ n,bO n [9,20]=false->M.func n=(aj Try.prog).func n
theorem MK.at {M:aM} [h:MK M] {n:Nat} {F:aq} (hn:bO n [9,20]=false) (hF:(aj Try.prog).func n=some F):M.func n=some F:=(h.ok n hn).trans hF
theorem aG {M:aM} [h:MK M] {n:Nat} {F:aq} (hn:bO n [9,20]=false) {rs:List cS} (hF:(aj Try.prog).func n=some F/\F.results=rs) {ks:Kp} {vs:List AV} (hk:mb 0 vs.length ks.ae=true) {H:AHeap} {Q:bu->AHeap->Prop} (hw:W M ⟨none,n⟩ (ks,part F.body 0) true (aL M rs Q) (qT 0 vs) [] H):kt M n vs H Q:=It (MK.at hn hF.1) hk (hF.2 ▸ hw)
variable {M:aM} [MK M] {H:AHeap} {Q:bu->AHeap->Prop} {a0 a1 a2 a3:AV}
def Le:aq:=funcAt Try.prog Ek
def q6m:Kp:=⟨[0,1,4,5],false,[0,2,10]⟩
def Cn (k:Nat):Kp × ah:=(q6m,part Le.body k)
theorem tO (M:aM) (c:Ctx):(WE M c (Cn 0) λ Q E D H=>W M c (Cn 2) true Q ((5,(.int .i64 0))::(4,.nilp)::E) D H) /\
 (WE M c (Cn 2) λ Q E D H=>Lz E 0 λ g i=>Bn g .lss i (.int .i64 1) λ g j=>JN (λ (k:Bool->AV->AV->AHeap->Prop)=>B3 g (aA false (some j)) λ g w=>cd g w (λ g=>Bn g .gtr i (.int .i64 8) λ g l=>k g l i H) (λ g=>k g uu uu H)) (λ g b _ H1=>B3 g (Op.pick [j,(.bool true),b]) λ g f=>JN (λ (k:Bool->AV->AV->AHeap->Prop)=>B3 g (aA false (some f)) λ g w=>cd g w (λ g=>Ly g E 1 λ g m=>Bn g .lss m (.int .i64 1) λ g n=>k g n m H1) (λ g=>k g uu uu H1)) (λ g d _ H2=>B3 g (Op.pick [f,(.bool true),d]) λ g h=>JN (λ (k:Bool->AV->AV->AHeap->Prop)=>B3 g (aA false (some h)) λ g w=>cd g w (λ g=>Ly g E 1 λ g a=>Bn g .gtr a (.int .i64 4) λ g p=>k g p a H2) (λ g=>k g uu uu H2)) (λ g e _ H3=>B3 g (Op.pick [h,(.bool true),e]) λ g q=>br g q (λ g=>aw g (ak (W M c (Cn 10)) Q) .ret ((5,(.int .i64 2))::(4,.nilp)::E) D H3) (λ g=>Gt g M c (Cn 10) Q E D H3))))) /\
 (WE M c (Cn 10) λ Q E D H=>Lz E 0 λ g b=>Ly g E 1 λ g d=>Bn g .mul b d λ g a=>aZ g ((Op.mkSlice qu 160 [(.int .i64 0),(.int .i64 0),(.bool false),(.bool false),(.int .u64 0),(.int .u64 0),(.int .u64 0),(.int .u64 0),(.int .u64 0),(.int .u64 0),(.int .u64 0),(.int .u64 0),(.int .u64 0),(.int .u64 0),(.int .u64 0),(.int .u64 0),(.int .u64 0),(.int .u64 0),(.int .u64 0),(.int .u64 0),(.int .i64 0)]) [a,a]) λ g o1 k1=>B3 g ((Op.build [(.int .i64 0),(.int .i64 0),.nils,(.int .i64 0)] [(0,1),(1,1),(2,1)]) [b,d,(k1 H.next)]) λ g e=>A3 g Iv (AV.cells e) (H.alloc o1) λ g f H2=>aw g Q .ret ((5,(.int .i64 0))::(4,f)::E) D H2):=by (repeat' apply And.intro)<;>(intro _ _ _ _;refine aF ?_;kernel_rfl)
theorem rQ:(aj Try.prog).func Ek=some Le/\Le.results=[.tmp 4,.tmp 5]:=xw (by kernel_rfl)
theorem sA (h:W M ⟨none,Ek⟩ (Cn 0) true (aL M [.tmp 4,.tmp 5] Q) [(0,a0),(1,a1)] [] H):kt M Ek [a0,a1] H Q:=aG (by decide) rQ (ks:=q6m) (by kernel_rfl) h
def Dn:aq:=funcAt Try.prog y8
def DR:Kp:=⟨[0,2,3,7,8],false,[0,2,10,15]⟩
def wx (k:Nat):Kp × ah:=(DR,part Dn.body k)
def D9:dq:=i5 Dn 0
def qju (k:Nat):Kp × ah:=(⟨DR.ae,DR.cj,[0]⟩,part D9.assign k)
def qjv (k:Nat):Kp × ah:=(⟨DR.ae,DR.cj,[0]⟩,part D9.body k)
theorem qi6:nth Dn.loops 0=some D9/\D9.params=[8]:=⟨by kernel_rfl,by kernel_rfl⟩
theorem qla (M:aM) (c:Ctx):(WE M c (wx 0) λ Q E D H=>W M c (wx 2) true Q ((2,(.int .i64 0))::E) D H) /\
 (WE M c (qju 0) λ Q E D H=>Lz E 8 λ g a=>aw g Q .normal ((3,a)::E) D H) /\
 (WE M c (qjv 0) λ Q E D H=>Lz E 3 λ g a=>B3 g ((Op.build [(.int .u64 0),(.int .u64 0),(.int .u64 0),(.int .u64 0),(.int .u64 0),(.int .u64 0),(.int .u64 0),(.int .u64 0)] []) []) λ g b=>Ns g 2 a (.bool false) H λ g u H1=>Ns g 3 a (.bool false) H1 λ g u_1 H2=>B3 g (Op.nilCheck [a]) λ g d=>B3 g ((Op.fieldAddr 12) [d]) λ g e=>aZ g ((Op.store 8) [e,b] H2) λ g u_2 H3=>aw g (aI 1 Q) .normal E D H3) /\
 (WE M c (wx 2) λ Q E D H=>Lz E 0 λ g a=>B3 g ((Op.eq .ptr false) [a,.nilp] H) λ g b=>br g b (λ g=>aw g (ak (W M c (wx 10)) Q) .ret ((2,(.int .i64 1))::E) D H) (λ g=>Gt g M c (wx 10) Q E D H)) /\
 (WE M c (wx 10) λ Q E D H=>Lz E 0 λ g b=>C3 M g (.func Db) [b] H λ g a H1=>eS M DR.ae c 0 ((7,a)::E) D H1 (aI 0 (ak (W M c (wx 15)) Q)) a) /\
 (WE M c (wx 15) λ Q E D H=>aw true Q .ret ((2,(.int .i64 0))::E) D H):=by (repeat' apply And.intro)<;>(intro _ _ _ _;refine aF ?_;kernel_rfl)
theorem qk9:(aj Try.prog).func y8=some Dn/\Dn.results=[.tmp 2]:=xw (by kernel_rfl)
theorem qq7:M.func y8=some Dn:=MK.at (by decide) qk9.1
theorem qss (h:W M ⟨none,y8⟩ (wx 0) true (aL M [.tmp 2] Q) [(0,a0)] [] H):kt M y8 [a0] H Q:=aG (by decide) qk9 (ks:=DR) (by kernel_rfl) h
def CQ:aq:=funcAt Try.prog vk
def Dp:Kp:=⟨[0,2,3,7,8],false,[0,2,10,15]⟩
def vl (k:Nat):Kp × ah:=(Dp,part CQ.body k)
def C1:dq:=i5 CQ 0
def qi7 (k:Nat):Kp × ah:=(⟨Dp.ae,Dp.cj,[0]⟩,part C1.assign k)
def qi8 (k:Nat):Kp × ah:=(⟨Dp.ae,Dp.cj,[0]⟩,part C1.body k)
theorem qib:nth CQ.loops 0=some C1/\C1.params=[8]:=⟨by kernel_rfl,by kernel_rfl⟩
theorem qjx (M:aM) (c:Ctx):(WE M c (vl 0) λ Q E D H=>W M c (vl 2) true Q ((2,(.int .i64 0))::E) D H) /\
 (WE M c (qi7 0) λ Q E D H=>Lz E 8 λ g a=>aw g Q .normal ((3,a)::E) D H) /\
 (WE M c (qi8 0) λ Q E D H=>Lz E 3 λ g j=>Nf g 3 j H λ g b=>br g b (λ g=>Ly g E 3 λ g a=>B3 g (Op.nilCheck [a]) λ g d=>B3 g ((Op.fieldAddr 12) [d]) λ g e=>B3 g ((Op.ao 8) [e] H) λ g f=>B3 g (Op.nilCheck [a]) λ g h=>B3 g ((Op.fieldAddr 4) [h]) λ g i=>aZ g ((Op.store 8) [i,f] H) λ g u H1=>aw g (aI 1 Q) .normal E D H1) (λ g=>aw g (aI 1 Q) .normal E D H)) /\
 (WE M c (vl 2) λ Q E D H=>Lz E 0 λ g a=>B3 g ((Op.eq .ptr false) [a,.nilp] H) λ g b=>br g b (λ g=>aw g (ak (W M c (vl 10)) Q) .ret ((2,(.int .i64 1))::E) D H) (λ g=>Gt g M c (vl 10) Q E D H)) /\
 (WE M c (vl 10) λ Q E D H=>Lz E 0 λ g b=>C3 M g (.func Db) [b] H λ g a H1=>eS M Dp.ae c 0 ((7,a)::E) D H1 (aI 0 (ak (W M c (vl 15)) Q)) a) /\
 (WE M c (vl 15) λ Q E D H=>Lz E 0 λ g b=>C3 M g (.func y8) [b] H λ g a H1=>aw g Q .ret ((2,a)::E) D H1):=by (repeat' apply And.intro)<;>(intro _ _ _ _;refine aF ?_;kernel_rfl)
theorem qjw:(aj Try.prog).func vk=some CQ/\CQ.results=[.tmp 2]:=xw (by kernel_rfl)
theorem qqd:M.func vk=some CQ:=MK.at (by decide) qjw.1
theorem qq8 (h:W M ⟨none,vk⟩ (vl 0) true (aL M [.tmp 2] Q) [(0,a0)] [] H):kt M vk [a0] H Q:=aG (by decide) qjw (ks:=Dp) (by kernel_rfl) h
def L5:aq:=funcAt Try.prog BG
def qn9:Kp:=⟨[0,1,2,6,7,8,9,10],false,[0,2,8,14,18,20,26]⟩
def j3 (k:Nat):Kp × ah:=(qn9,part L5.body k)
theorem qw0 (M:aM) (c:Ctx):(WE M c (j3 0) λ Q E D H=>W M c (j3 2) true Q ((6,(.int .i64 0))::E) D H) /\
 (WE M c (j3 2) λ Q E D H=>Lz E 2 λ g f=>B3 g ((Op.un .not) [f]) λ g b=>br g b (λ g=>Ly g E 0 λ g h=>Ly g E 1 λ g i=>C3 M g (.func wq) [h,i,(.int .i64 0)] H λ g a H1=>B3 g ((Op.extract 0) [a]) λ g d=>B3 g ((Op.extract 1) [a]) λ g e=>W M c (j3 8) g (ak (W M c (j3 18)) Q) ((8,e)::(7,d)::E) D H1) (λ g=>Gt g M c (j3 18) Q E D H)) /\
 (WE M c (j3 18) λ Q E D H=>Lz E 0 λ g e=>Ly g E 1 λ g f=>C3 M g (.func wq) [e,f,(.int .i64 2)] H λ g a H1=>B3 g ((Op.extract 0) [a]) λ g b=>B3 g ((Op.extract 1) [a]) λ g d=>W M c (j3 20) g Q ((10,d)::(9,b)::E) D H1) /\
 (WE M c (j3 8) λ Q E D H=>Lz E 8 λ g a=>Cb g .eql a (.int .i64 0) (λ g=>Ly g E 7 λ g b=>Ns g 2 b (.bool true) H λ g u H1=>Gt g M c (j3 14) Q E D H1) (λ g=>Gt g M c (j3 14) Q E D H)) /\
 (WE M c (j3 20) λ Q E D H=>Lz E 10 λ g i=>Bn g .eql i (.int .i64 0) λ g d=>JN (λ (k:Bool->AV->AV->AV->AV->AV->AHeap->Prop)=>B3 g (aA true (some d)) λ g w=>cd g w (λ g=>Ly g E 9 λ g j=>B3 g (Op.nilCheck [j]) λ g e=>B3 g ((Op.fieldAddr 3) [e]) λ g f=>B3 g (Op.aa [f] H) λ g h=>B3 g ((Op.un .not) [h]) λ g l=>k g l h f e j H) (λ g=>k g uu uu uu uu uu H)) (λ g b _ _ _ _ H1=>B3 g (Op.pick [d,b,(.bool false)]) λ g m=>br g m (λ g=>Ly g E 9 λ g a=>B3 g (Op.nilCheck [a]) λ g n=>B3 g ((Op.fieldAddr 4) [n]) λ g p=>B3 g ((Op.ao 8) [p] H1) λ g q=>Ns g 3 a (.bool true) H1 λ g u H2=>B3 g (Op.nilCheck [a]) λ g r=>B3 g ((Op.fieldAddr 12) [r]) λ g s=>aZ g ((Op.store 8) [s,q] H2) λ g u_1 H3=>Gt g M c (j3 26) Q E D H3) (λ g=>Gt g M c (j3 26) Q E D H1))) /\
 (WE M c (j3 14) λ Q E D H=>Lz E 8 λ g a=>aw g Q .ret ((6,a)::E) D H) /\
 (WE M c (j3 26) λ Q E D H=>Lz E 10 λ g a=>aw g Q .ret ((6,a)::E) D H):=by (repeat' apply And.intro)<;>(intro _ _ _ _;refine aF ?_;kernel_rfl)
theorem qwy:(aj Try.prog).func BG=some L5/\L5.results=[.tmp 6]:=xw (by kernel_rfl)
theorem qwz (h:W M ⟨none,BG⟩ (j3 0) true (aL M [.tmp 6] Q) [(0,a0),(1,a1),(2,a2)] [] H):kt M BG [a0,a1,a2] H Q:=aG (by decide) qwy (ks:=qn9) (by kernel_rfl) h
def Mz:aq:=funcAt Try.prog BN
def qpy:Kp:=⟨[0,1,2,6,7,8],false,[0,2,10,12,20]⟩
def we (k:Nat):Kp × ah:=(qpy,part Mz.body k)
theorem qys (M:aM) (c:Ctx):(WE M c (we 0) λ Q E D H=>W M c (we 2) true Q ((6,(.int .i64 0))::E) D H) /\
 (WE M c (we 2) λ Q E D H=>Lz E 0 λ g h=>B3 g ((Op.eq .ptr true) [h,.nilp] H) λ g b=>JN (λ (k:Bool->AV->AV->AHeap->Prop)=>B3 g (aA true (some b)) λ g w=>cd g w (λ g=>Ly g E 1 λ g d=>Bn g .lss d (.int .i64 0) λ g e=>k g e d H) (λ g=>k g uu uu H)) (λ g a _ H1=>B3 g (Op.pick [b,a,(.bool false)]) λ g f=>br g f (λ g=>aw g (ak (W M c (we 10)) Q) .ret ((6,(.int .i64 2))::E) D H1) (λ g=>Gt g M c (we 10) Q E D H1))) /\
 (WE M c (we 10) λ Q E D H=>Lz E 0 λ g f=>Ly g E 1 λ g h=>Bn g .quo h (.int .i64 8) λ g b=>C3 M g (.func wq) [f,b,(.int .i64 2)] H λ g a H1=>B3 g ((Op.extract 0) [a]) λ g d=>B3 g ((Op.extract 1) [a]) λ g e=>W M c (we 12) g Q ((8,e)::(7,d)::E) D H1) /\
 (WE M c (we 12) λ Q E D H=>Lz E 8 λ g b=>Cb g .neq b (.int .i64 0) (λ g=>Ly g E 8 λ g a=>aw g (ak (W M c (we 20)) Q) .ret ((6,a)::E) D H) (λ g=>Gt g M c (we 20) Q E D H)) /\
 (WE M c (we 20) λ Q E D H=>Lz E 0 λ g h=>Ly g E 7 λ g i=>C3 M g (.func AF) [h,i] H λ g _ H1=>Ly g E 7 λ g a=>Ly g E 1 λ g j=>Bn g .rem j (.int .i64 8) λ g b=>Ly g E 2 λ g l=>B3 g (Op.nilCheck [a]) λ g d=>B3 g ((Op.fieldAddr 4) [d]) λ g e=>B3 g ((Op.aX 8 1) [e,b]) λ g f=>aZ g ((Op.store 1) [f,l] H1) λ g u H2=>aw g Q .ret ((6,(.int .i64 0))::E) D H2):=by (repeat' apply And.intro)<;>(intro _ _ _ _;refine aF ?_;kernel_rfl)
theorem qyq:(aj Try.prog).func BN=some Mz/\Mz.results=[.tmp 6]:=xw (by kernel_rfl)
theorem qyr (h:W M ⟨none,BN⟩ (we 0) true (aL M [.tmp 6] Q) [(0,a0),(1,a1),(2,a2)] [] H):kt M BN [a0,a1,a2] H Q:=aG (by decide) qyq (ks:=qpy) (by kernel_rfl) h
def Mn:aq:=funcAt Try.prog vr
def qn8:Kp:=⟨[0,1,4,5,6,21],false,[0,4,12]⟩
def CN (k:Nat):Kp × ah:=(qn8,part Mn.body k)
theorem qwx (M:aM) (c:Ctx):(WE M c (CN 0) λ Q E D H=>A3 true qu [(.int .i64 0),(.int .i64 0),(.bool false),(.bool false),(.int .u64 0),(.int .u64 0),(.int .u64 0),(.int .u64 0),(.int .u64 0),(.int .u64 0),(.int .u64 0),(.int .u64 0),(.int .u64 0),(.int .u64 0),(.int .u64 0),(.int .u64 0),(.int .u64 0),(.int .u64 0),(.int .u64 0),(.int .u64 0),(.int .i64 0)] H λ g a H1=>Ly g E 0 λ g b=>Ly g E 1 λ g d=>C3 M g (.func sD) [b,d] H1 λ g e H2=>W M c (CN 4) g Q ((6,e)::(5,(.bool false))::(4,a)::E) D H2) /\
 (WE M c (CN 4) λ Q E D H=>Lz E 6 λ g d=>B3 g ((Op.eq .ptr false) [d,.nilp] H) λ g a=>br g a (λ g=>B3 g ((Op.build [(.int .i64 0),(.int .i64 0),(.bool false),(.bool false),(.int .u64 0),(.int .u64 0),(.int .u64 0),(.int .u64 0),(.int .u64 0),(.int .u64 0),(.int .u64 0),(.int .u64 0),(.int .u64 0),(.int .u64 0),(.int .u64 0),(.int .u64 0),(.int .u64 0),(.int .u64 0),(.int .u64 0),(.int .u64 0),(.int .i64 0)] []) []) λ g b=>Ly g E 4 λ g e=>aZ g ((Op.store 21) [e,b] H) λ g u H1=>aw g (ak (W M c (CN 12)) Q) .ret ((5,(.bool false))::E) D H1) (λ g=>Gt g M c (CN 12) Q E D H)) /\
 (WE M c (CN 12) λ Q E D H=>Lz E 6 λ g d=>B3 g (Op.nilCheck [d]) λ g a=>B3 g ((Op.ao 21) [a] H) λ g b=>Ly g E 4 λ g e=>aZ g ((Op.store 21) [e,b] H) λ g u H1=>aw g Q .ret ((5,(.bool true))::E) D H1):=by (repeat' apply And.intro)<;>(intro _ _ _ _;refine aF ?_;kernel_rfl)
theorem qwv:(aj Try.prog).func vr=some Mn/\Mn.results=[.cz 21 4,.tmp 5]:=xw (by kernel_rfl)
theorem qww (h:W M ⟨none,vr⟩ (CN 0) true (aL M [.cz 21 4,.tmp 5] Q) [(0,a0),(1,a1)] [] H):kt M vr [a0,a1] H Q:=aG (by decide) qwv (ks:=qn8) (by kernel_rfl) h
def Me:aq:=funcAt Try.prog Be
def qoa:Kp:=⟨[0,1,4,5,6,7],false,[0,2,10,12,20]⟩
def yv (k:Nat):Kp × ah:=(qoa,part Me.body k)
theorem qw3 (M:aM) (c:Ctx):(WE M c (yv 0) λ Q E D H=>W M c (yv 2) true Q ((5,(.int .i64 0))::(4,(.int .u64 0))::E) D H) /\
 (WE M c (yv 2) λ Q E D H=>Lz E 0 λ g h=>B3 g ((Op.eq .ptr true) [h,.nilp] H) λ g b=>JN (λ (k:Bool->AV->AV->AHeap->Prop)=>B3 g (aA true (some b)) λ g w=>cd g w (λ g=>Ly g E 1 λ g d=>Bn g .lss d (.int .i64 0) λ g e=>k g e d H) (λ g=>k g uu uu H)) (λ g a _ H1=>B3 g (Op.pick [b,a,(.bool false)]) λ g f=>br g f (λ g=>aw g (ak (W M c (yv 10)) Q) .ret ((5,(.int .i64 2))::(4,(.int .u64 0))::E) D H1) (λ g=>Gt g M c (yv 10) Q E D H1))) /\
 (WE M c (yv 10) λ Q E D H=>Lz E 0 λ g f=>Ly g E 1 λ g h=>Bn g .quo h (.int .i64 8) λ g b=>C3 M g (.func wq) [f,b,(.int .i64 0)] H λ g a H1=>B3 g ((Op.extract 0) [a]) λ g d=>B3 g ((Op.extract 1) [a]) λ g e=>W M c (yv 12) g Q ((7,e)::(6,d)::E) D H1) /\
 (WE M c (yv 12) λ Q E D H=>Lz E 7 λ g b=>Cb g .neq b (.int .i64 0) (λ g=>Ly g E 7 λ g a=>aw g (ak (W M c (yv 20)) Q) .ret ((5,a)::(4,(.int .u64 0))::E) D H) (λ g=>Gt g M c (yv 20) Q E D H)) /\
 (WE M c (yv 20) λ Q E D H=>Lz E 0 λ g i=>Ly g E 6 λ g j=>C3 M g (.func AF) [i,j] H λ g _ H1=>Ly g E 6 λ g a=>Ly g E 1 λ g l=>Bn g .rem l (.int .i64 8) λ g b=>B3 g (Op.nilCheck [a]) λ g d=>B3 g ((Op.fieldAddr 4) [d]) λ g e=>B3 g ((Op.aX 8 1) [e,b]) λ g f=>B3 g (Op.aa [f] H1) λ g h=>aw g Q .ret ((5,(.int .i64 0))::(4,h)::E) D H1):=by (repeat' apply And.intro)<;>(intro _ _ _ _;refine aF ?_;kernel_rfl)
theorem qw1:(aj Try.prog).func Be=some Me/\Me.results=[.tmp 4,.tmp 5]:=xw (by kernel_rfl)
theorem qw2 (h:W M ⟨none,Be⟩ (yv 0) true (aL M [.tmp 4,.tmp 5] Q) [(0,a0),(1,a1)] [] H):kt M Be [a0,a1] H Q:=aG (by decide) qw1 (ks:=qoa) (by kernel_rfl) h
def NL:aq:=funcAt Try.prog xI
def qn6:Kp:=⟨[0,1,4,5,6,7,8,21],false,[0,4,12]⟩
def DM (k:Nat):Kp × ah:=(qn6,part NL.body k)
theorem qwr (M:aM) (c:Ctx):(WE M c (DM 0) λ Q E D H=>A3 true qu [(.int .i64 0),(.int .i64 0),(.bool false),(.bool false),(.int .u64 0),(.int .u64 0),(.int .u64 0),(.int .u64 0),(.int .u64 0),(.int .u64 0),(.int .u64 0),(.int .u64 0),(.int .u64 0),(.int .u64 0),(.int .u64 0),(.int .u64 0),(.int .u64 0),(.int .u64 0),(.int .u64 0),(.int .u64 0),(.int .i64 0)] H λ g e H1=>Ly g E 0 λ g f=>Ly g E 1 λ g h=>C3 M g (.func wq) [f,h,(.int .i64 0)] H1 λ g a H2=>B3 g ((Op.extract 0) [a]) λ g b=>B3 g ((Op.extract 1) [a]) λ g d=>W M c (DM 4) g Q ((7,d)::(6,b)::(5,(.int .i64 0))::(4,e)::E) D H2) /\
 (WE M c (DM 4) λ Q E D H=>Lz E 7 λ g d=>Cb g .neq d (.int .i64 0) (λ g=>B3 g ((Op.build [(.int .i64 0),(.int .i64 0),(.bool false),(.bool false),(.int .u64 0),(.int .u64 0),(.int .u64 0),(.int .u64 0),(.int .u64 0),(.int .u64 0),(.int .u64 0),(.int .u64 0),(.int .u64 0),(.int .u64 0),(.int .u64 0),(.int .u64 0),(.int .u64 0),(.int .u64 0),(.int .u64 0),(.int .u64 0),(.int .i64 0)] []) []) λ g b=>Ly g E 7 λ g a=>Ly g E 4 λ g e=>aZ g ((Op.store 21) [e,b] H) λ g u H1=>aw g (ak (W M c (DM 12)) Q) .ret ((5,a)::E) D H1) (λ g=>Gt g M c (DM 12) Q E D H)) /\
 (WE M c (DM 12) λ Q E D H=>Lz E 6 λ g j=>B3 g (Op.nilCheck [j]) λ g e=>B3 g ((Op.ao 21) [e] H) λ g a=>A3 g qu [(.int .i64 0),(.int .i64 0),(.bool false),(.bool false),(.int .u64 0),(.int .u64 0),(.int .u64 0),(.int .u64 0),(.int .u64 0),(.int .u64 0),(.int .u64 0),(.int .u64 0),(.int .u64 0),(.int .u64 0),(.int .u64 0),(.int .u64 0),(.int .u64 0),(.int .u64 0),(.int .u64 0),(.int .u64 0),(.int .i64 0)] H λ g b H1=>aZ g ((Op.store 21) [b,a] H1) λ g u H2=>Ly g E 6 λ g d=>B3 g ((Op.build [(.int .i64 0),(.int .i64 0),(.bool false),(.bool false),(.int .u64 0),(.int .u64 0),(.int .u64 0),(.int .u64 0),(.int .u64 0),(.int .u64 0),(.int .u64 0),(.int .u64 0),(.int .u64 0),(.int .u64 0),(.int .u64 0),(.int .u64 0),(.int .u64 0),(.int .u64 0),(.int .u64 0),(.int .u64 0),(.int .i64 0)] []) []) λ g f=>B3 g (Op.nilCheck [d]) λ g h=>aZ g ((Op.store 21) [h,f] H2) λ g u_1 H3=>B3 g ((Op.ao 21) [b] H3) λ g i=>Ly g E 4 λ g l=>aZ g ((Op.store 21) [l,i] H3) λ g u_2 H4=>aw g Q .ret ((5,(.int .i64 0))::(8,b)::(21,a)::E) D H4):=by (repeat' apply And.intro)<;>(intro _ _ _ _;refine aF ?_;kernel_rfl)
theorem qwp:(aj Try.prog).func xI=some NL/\NL.results=[.cz 21 4,.tmp 5]:=xw (by kernel_rfl)
theorem qwq (h:W M ⟨none,xI⟩ (DM 0) true (aL M [.cz 21 4,.tmp 5] Q) [(0,a0),(1,a1)] [] H):kt M xI [a0,a1] H Q:=aG (by decide) qwp (ks:=qn6) (by kernel_rfl) h
def Mc:aq:=funcAt Try.prog DI
def qlb:Kp:=⟨[0,1,4,5,6,7,8],false,[0,4,12]⟩
def Dy (k:Nat):Kp × ah:=(qlb,part Mc.body k)
theorem qsv (M:aM) (c:Ctx):(WE M c (Dy 0) λ Q E D H=>A3 true jf [(.int .u64 0),(.int .u64 0),(.int .u64 0),(.int .u64 0),(.int .u64 0),(.int .u64 0),(.int .u64 0),(.int .u64 0)] H λ g e H1=>Ly g E 0 λ g f=>Ly g E 1 λ g h=>C3 M g (.func wq) [f,h,(.int .i64 2)] H1 λ g a H2=>B3 g ((Op.extract 0) [a]) λ g b=>B3 g ((Op.extract 1) [a]) λ g d=>W M c (Dy 4) g Q ((7,d)::(6,b)::(8,a)::(5,(.int .i64 0))::(4,e)::E) D H2) /\
 (WE M c (Dy 4) λ Q E D H=>Lz E 7 λ g d=>Cb g .neq d (.int .i64 0) (λ g=>B3 g ((Op.build [(.int .u64 0),(.int .u64 0),(.int .u64 0),(.int .u64 0),(.int .u64 0),(.int .u64 0),(.int .u64 0),(.int .u64 0)] []) []) λ g b=>Ly g E 7 λ g a=>Ly g E 4 λ g e=>aZ g ((Op.store 8) [e,b] H) λ g u H1=>aw g (ak (W M c (Dy 12)) Q) .ret ((5,a)::E) D H1) (λ g=>Gt g M c (Dy 12) Q E D H)) /\
 (WE M c (Dy 12) λ Q E D H=>Lz E 6 λ g f=>Ns g 1 f (.int .i64 1) H λ g u H1=>Ly g E 6 λ g a=>B3 g (Op.nilCheck [a]) λ g b=>B3 g ((Op.fieldAddr 4) [b]) λ g d=>B3 g ((Op.ao 8) [d] H1) λ g e=>Ly g E 4 λ g h=>aZ g ((Op.store 8) [h,e] H1) λ g u_1 H2=>aw g Q .ret ((5,(.int .i64 0))::E) D H2):=by (repeat' apply And.intro)<;>(intro _ _ _ _;refine aF ?_;kernel_rfl)
theorem qst:(aj Try.prog).func DI=some Mc/\Mc.results=[.cz 8 4,.tmp 5]:=xw (by kernel_rfl)
theorem qsu (h:W M ⟨none,DI⟩ (Dy 0) true (aL M [.cz 8 4,.tmp 5] Q) [(0,a0),(1,a1)] [] H):kt M DI [a0,a1] H Q:=aG (by decide) qst (ks:=qlb) (by kernel_rfl) h
def KI:aq:=funcAt Try.prog Cq
def qjy:Kp:=⟨[0,1,2,5,6,7,8],false,[0,4,10]⟩
def Cz (k:Nat):Kp × ah:=(qjy,part KI.body k)
theorem qrb (M:aM) (c:Ctx):(WE M c (Cz 0) λ Q E D H=>Lz E 2 λ g e=>A3 g jf (AV.cells e) H λ g f H1=>Ly g E 0 λ g h=>Ly g E 1 λ g i=>C3 M g (.func wq) [h,i,(.int .i64 1)] H1 λ g a H2=>B3 g ((Op.extract 0) [a]) λ g b=>B3 g ((Op.extract 1) [a]) λ g d=>W M c (Cz 4) g Q ((8,d)::(7,b)::(6,(.int .i64 0))::(5,f)::E) D H2) /\
 (WE M c (Cz 4) λ Q E D H=>Lz E 8 λ g h=>Cb g .eql h (.int .i64 0) (λ g=>Ly g E 7 λ g b=>Ly g E 5 λ g d=>B3 g ((Op.ao 8) [d] H) λ g a=>Ns g 1 b (.int .i64 2) H λ g u H1=>uG g ((Op.ao 8) [d] H1) (some a) λ g=>B3 g (Op.nilCheck [b]) λ g e=>B3 g ((Op.fieldAddr 4) [e]) λ g f=>aZ g ((Op.store 8) [f,a] H1) λ g u_1 H2=>Gt g M c (Cz 10) Q E D H2) (λ g=>Gt g M c (Cz 10) Q E D H)) /\
 (WE M c (Cz 10) λ Q E D H=>Lz E 8 λ g a=>aw g Q .ret ((6,a)::E) D H):=by (repeat' apply And.intro)<;>(intro _ _ _ _;refine aF ?_;kernel_rfl)
theorem qq9:(aj Try.prog).func Cq=some KI/\KI.results=[.tmp 6]:=xw (by kernel_rfl)
theorem qra (h:W M ⟨none,Cq⟩ (Cz 0) true (aL M [.tmp 6] Q) [(0,a0),(1,a1),(2,a2)] [] H):kt M Cq [a0,a1,a2] H Q:=aG (by decide) qq9 (ks:=qjy) (by kernel_rfl) h
def J8:aq:=funcAt Try.prog wV
def qn7:Kp:=⟨[0,1,2,3,7,8,9,10,11,12,21],false,[0,2,16,23,25,33]⟩
def j2 (k:Nat):Kp × ah:=(qn7,part J8.body k)
theorem qwu (M:aM) (c:Ctx):(WE M c (j2 0) λ Q E D H=>Lz E 3 λ g a=>A3 g jf (AV.cells a) H λ g b H1=>A3 g qu [(.int .i64 0),(.int .i64 0),(.bool false),(.bool false),(.int .u64 0),(.int .u64 0),(.int .u64 0),(.int .u64 0),(.int .u64 0),(.int .u64 0),(.int .u64 0),(.int .u64 0),(.int .u64 0),(.int .u64 0),(.int .u64 0),(.int .u64 0),(.int .u64 0),(.int .u64 0),(.int .u64 0),(.int .u64 0),(.int .i64 0)] H1 λ g d H2=>W M c (j2 2) g Q ((10,(.int .i64 0))::(9,(.bool false))::(8,d)::(7,b)::E) D H2) /\
 (WE M c (j2 2) λ Q E D H=>Lz E 0 λ g v=>B3 g ((Op.eq .ptr false) [v,.nilp] H) λ g l=>br g l (λ g=>B3 g ((Op.build [(.int .i64 0),(.int .i64 0),(.bool false),(.bool false),(.int .u64 0),(.int .u64 0),(.int .u64 0),(.int .u64 0),(.int .u64 0),(.int .u64 0),(.int .u64 0),(.int .u64 0),(.int .u64 0),(.int .u64 0),(.int .u64 0),(.int .u64 0),(.int .u64 0),(.int .u64 0),(.int .u64 0),(.int .u64 0),(.int .i64 0)] []) []) λ g m=>Ly g E 8 λ g j=>aZ g ((Op.store 21) [j,m] H) λ g u H1=>aw g (aI 0 (ak (W M c (j2 23)) Q)) .ret ((10,(.int .i64 1))::(9,(.bool false))::E) D H1) (λ g=>Ly g E 1 λ g x=>Bn g .lss x (.int .i64 0) λ g d=>JN (λ (k:Bool->AV->AV->AV->AHeap->Prop)=>B3 g (aA false (some d)) λ g w=>cd g w (λ g=>Ly g E 2 λ g n=>Bn g .neq n (.int .i64 1) λ g i=>k g i i n H) (λ g=>k g uu uu uu H)) (λ g a _ b H1=>JN (λ (k:Bool->AV->AV->AHeap->Prop)=>B3 g (aA true (some a)) λ g w=>cd g w (λ g=>Ly g E 2 λ g e=>Bn g .neq e (.int .i64 2) λ g p=>k g p e H1) (λ g=>k g uu uu H1)) (λ g f _ H2=>JN (λ (k:Bool->AV->AHeap->Prop)=>B3 g (aA false (some d)) λ g w=>cd g w (λ g=>B3 g (Op.pick [a,f,(.bool false)]) λ g q=>k g q H2) (λ g=>k g uu H2)) (λ g h H3=>B3 g (Op.pick [d,(.bool true),h]) λ g r=>br g r (λ g=>B3 g ((Op.build [(.int .i64 0),(.int .i64 0),(.bool false),(.bool false),(.int .u64 0),(.int .u64 0),(.int .u64 0),(.int .u64 0),(.int .u64 0),(.int .u64 0),(.int .u64 0),(.int .u64 0),(.int .u64 0),(.int .u64 0),(.int .u64 0),(.int .u64 0),(.int .u64 0),(.int .u64 0),(.int .u64 0),(.int .u64 0),(.int .i64 0)] []) []) λ g s=>Ly g E 8 λ g j=>aZ g ((Op.store 21) [j,s] H3) λ g u H4=>aw g (aI 0 (ak (W M c (j2 23)) Q)) .ret ((10,(.int .i64 2))::(9,(.bool false))::(21,b)::E) D H4) (λ g=>W M c (j2 16) g (aI 0 (ak (W M c (j2 23)) Q)) ((21,b)::E) D H3)))))) /\
 (WE M c (j2 23) λ Q E D H=>Lz E 0 λ g b=>Ly g E 1 λ g d=>C3 M g (.func zD) [b,d] H λ g a H1=>W M c (j2 25) g Q ((11,a)::E) D H1) /\
 (WE M c (j2 16) λ Q E D H=>Lz E 0 λ g e=>Ly g E 1 λ g f=>C3 M g (.func sD) [e,f] H λ g a H1=>B3 g ((Op.eq .ptr true) [a,.nilp] H1) λ g b=>br g b (λ g=>B3 g ((Op.build [(.int .i64 0),(.int .i64 0),(.bool false),(.bool false),(.int .u64 0),(.int .u64 0),(.int .u64 0),(.int .u64 0),(.int .u64 0),(.int .u64 0),(.int .u64 0),(.int .u64 0),(.int .u64 0),(.int .u64 0),(.int .u64 0),(.int .u64 0),(.int .u64 0),(.int .u64 0),(.int .u64 0),(.int .u64 0),(.int .i64 0)] []) []) λ g d=>Ly g E 8 λ g h=>aZ g ((Op.store 21) [h,d] H1) λ g u H2=>aw g Q .ret ((10,(.int .i64 21))::(9,(.bool false))::E) D H2) (λ g=>aw g Q .normal E D H1)) /\
 (WE M c (j2 25) λ Q E D H=>Lz E 11 λ g a=>B3 g ((Op.eq .ptr false) [a,.nilp] H) λ g b=>br g b (λ g=>B3 g ((Op.build [(.int .i64 0),(.int .i64 0),(.bool false),(.bool false),(.int .u64 0),(.int .u64 0),(.int .u64 0),(.int .u64 0),(.int .u64 0),(.int .u64 0),(.int .u64 0),(.int .u64 0),(.int .u64 0),(.int .u64 0),(.int .u64 0),(.int .u64 0),(.int .u64 0),(.int .u64 0),(.int .u64 0),(.int .u64 0),(.int .i64 0)] []) []) λ g d=>Ly g E 8 λ g e=>aZ g ((Op.store 21) [e,d] H) λ g u H1=>aw g (ak (W M c (j2 33)) Q) .ret ((10,(.int .i64 22))::(9,(.bool false))::E) D H1) (λ g=>Gt g M c (j2 33) Q E D H)) /\
 (WE M c (j2 33) λ Q E D H=>Lz E 11 λ g h=>B3 g (Op.nilCheck [h]) λ g i=>B3 g ((Op.ao 21) [i] H) λ g j=>A3 g qu [(.int .i64 0),(.int .i64 0),(.bool false),(.bool false),(.int .u64 0),(.int .u64 0),(.int .u64 0),(.int .u64 0),(.int .u64 0),(.int .u64 0),(.int .u64 0),(.int .u64 0),(.int .u64 0),(.int .u64 0),(.int .u64 0),(.int .u64 0),(.int .u64 0),(.int .u64 0),(.int .u64 0),(.int .u64 0),(.int .i64 0)] H λ g a H1=>aZ g ((Op.store 21) [a,j] H1) λ g u H2=>Ly g E 11 λ g b=>Ly g E 1 λ g r=>Ly g E 2 λ g s=>Ly g E 7 λ g v=>B3 g ((Op.ao 8) [v] H2) λ g l=>B3 g ((Op.build [(.int .i64 0),(.int .i64 0),(.bool false),(.bool false),(.int .u64 0),(.int .u64 0),(.int .u64 0),(.int .u64 0),(.int .u64 0),(.int .u64 0),(.int .u64 0),(.int .u64 0),(.int .u64 0),(.int .u64 0),(.int .u64 0),(.int .u64 0),(.int .u64 0),(.int .u64 0),(.int .u64 0),(.int .u64 0),(.int .i64 0)] [(0,1),(1,1),(4,8)]) [r,s,l]) λ g m=>B3 g (Op.nilCheck [b]) λ g n=>aZ g ((Op.store 21) [n,m] H2) λ g u_1 H3=>Ly g E 0 λ g x=>Ly g E 11 λ g d=>C3 M g (.func AF) [x,d] H3 λ g _ H4=>B3 g ((Op.ao 21) [a] H4) λ g p=>B3 g ((Op.fieldAddr 1) [a]) λ g e=>B3 g (Op.aa [e] H4) λ g f=>Bn g .neq f (.int .i64 0) λ g q=>Ly g E 8 λ g y=>aZ g ((Op.store 21) [y,p] H4) λ g u_2 H5=>uG g (Op.aa [e] H5) (some f) λ g=>aw g Q .ret ((10,(.int .i64 0))::(9,q)::(12,a)::E) D H5):=by (repeat' apply And.intro)<;>(intro _ _ _ _;refine aF ?_;kernel_rfl)
theorem qws:(aj Try.prog).func wV=some J8/\J8.results=[.cz 21 8,.tmp 9,.tmp 10]:=xw (by kernel_rfl)
theorem qwt (h:W M ⟨none,wV⟩ (j2 0) true (aL M [.cz 21 8,.tmp 9,.tmp 10] Q) [(0,a0),(1,a1),(2,a2),(3,a3)] [] H):kt M wV [a0,a1,a2,a3] H Q:=aG (by decide) qws (ks:=qn7) (by kernel_rfl) h
def LP:aq:=funcAt Try.prog Db
def qoc:Kp:=⟨[0,1,2],false,[0]⟩
def qod (k:Nat):Kp × ah:=(qoc,part LP.body k)
theorem qw6 (M:aM) (c:Ctx):(WE M c (qod 0) λ Q E D H=>Lz E 0 λ g b=>A3 g vx (AV.cells b) H λ g a H1=>B3 g ((Op.cu yk 0) [a]) λ g d=>aw g Q .ret ((2,d)::(2,.nilf)::(1,a)::E) D H1):=by intro _ _ _ _;refine aF ?_;kernel_rfl
theorem qw4:(aj Try.prog).func Db=some LP/\LP.results=[.tmp 2]:=xw (by kernel_rfl)
theorem qw5 (h:W M ⟨none,Db⟩ (qod 0) true (aL M [.tmp 2] Q) [(0,a0)] [] H):kt M Db [a0] H Q:=aG (by decide) qw4 (ks:=qoc) (by kernel_rfl) h
def Li:aq:=funcAt Try.prog wq
def qre:Kp:=⟨[0,1,2,6,7,8],false,[0,2,10,12,20]⟩
def rB (k:Nat):Kp × ah:=(qre,part Li.body k)
theorem q0z (M:aM) (c:Ctx):(WE M c (rB 0) λ Q E D H=>W M c (rB 2) true Q ((7,(.int .i64 0))::(6,.nilp)::E) D H) /\
 (WE M c (rB 2) λ Q E D H=>Lz E 0 λ g b=>B3 g ((Op.eq .ptr false) [b,.nilp] H) λ g a=>br g a (λ g=>aw g (ak (W M c (rB 10)) Q) .ret ((7,(.int .i64 1))::(6,.nilp)::E) D H) (λ g=>Gt g M c (rB 10) Q E D H)) /\
 (WE M c (rB 10) λ Q E D H=>Lz E 0 λ g b=>Ly g E 1 λ g d=>C3 M g (.func sD) [b,d] H λ g a H1=>W M c (rB 12) g Q ((8,a)::E) D H1) /\
 (WE M c (rB 12) λ Q E D H=>Lz E 8 λ g m=>B3 g ((Op.eq .ptr false) [m,.nilp] H) λ g b=>JN (λ (k:Bool->AV->AV->AV->AHeap->Prop)=>B3 g (aA false (some b)) λ g w=>cd g w (λ g=>Ly g E 2 λ g n=>Bn g .neq n (.int .i64 0) λ g h=>k g h h n H) (λ g=>k g uu uu uu H)) (λ g a _ _ H1=>JN (λ (k:Bool->AV->AV->AV->AV->AV->AV->AHeap->Prop)=>B3 g (aA true (some a)) λ g w=>cd g w (λ g=>B3 g (Op.nilCheck [m]) λ g i=>B3 g ((Op.fieldAddr 1) [i]) λ g j=>B3 g (Op.aa [j] H1) λ g l=>Ly g E 2 λ g d=>Bn g .neq l d λ g p=>k g p d l j i m H1) (λ g=>k g uu uu uu uu uu uu H1)) (λ g e _ _ _ _ _ H2=>JN (λ (k:Bool->AV->AHeap->Prop)=>B3 g (aA false (some b)) λ g w=>cd g w (λ g=>B3 g (Op.pick [a,e,(.bool false)]) λ g q=>k g q H2) (λ g=>k g uu H2)) (λ g f H3=>B3 g (Op.pick [b,(.bool true),f]) λ g r=>br g r (λ g=>aw g (ak (W M c (rB 20)) Q) .ret ((7,(.int .i64 20))::(6,.nilp)::E) D H3) (λ g=>Gt g M c (rB 20) Q E D H3))))) /\
 (WE M c (rB 20) λ Q E D H=>Lz E 8 λ g a=>aw g Q .ret ((7,(.int .i64 0))::(6,a)::E) D H):=by (repeat' apply And.intro)<;>(intro _ _ _ _;refine aF ?_;kernel_rfl)
theorem q0x:(aj Try.prog).func wq=some Li/\Li.results=[.tmp 6,.tmp 7]:=xw (by kernel_rfl)
theorem q0y (h:W M ⟨none,wq⟩ (rB 0) true (aL M [.tmp 6,.tmp 7] Q) [(0,a0),(1,a1),(2,a2)] [] H):kt M wq [a0,a1,a2] H Q:=aG (by decide) q0x (ks:=qre) (by kernel_rfl) h
def Np:aq:=funcAt Try.prog AF
def qp3:Kp:=⟨[0,1],false,[0]⟩
def qp4 (k:Nat):Kp × ah:=(qp3,part Np.body k)
theorem qyz (M:aM) (c:Ctx):(WE M c (qp4 0) λ Q E D H=>Lz E 0 λ g b=>Nf g 3 b H λ g e=>Bn g .add e (.int .i64 1) λ g f=>Ns g 3 b f H λ g u H1=>Ly g E 1 λ g h=>Ly g E 0 λ g a=>Nf g 3 a H1 λ g d=>Ns g 20 h d H1 λ g u_1 H2=>aw g Q .normal E D H2):=by intro _ _ _ _;refine aF ?_;kernel_rfl
theorem qyx:(aj Try.prog).func AF=some Np/\Np.results=[]:=xw (by kernel_rfl)
theorem qyy (h:W M ⟨none,AF⟩ (qp4 0) true (aL M [] Q) [(0,a0),(1,a1)] [] H):kt M AF [a0,a1] H Q:=aG (by decide) qyx (ks:=qp3) (by kernel_rfl) h
def DD:aq:=funcAt Try.prog sD
def ET:Kp:=⟨[0,1,3,4,5,8,9],false,[0,2,7]⟩
def Ge (k:Nat):Kp × ah:=(ET,part DD.body k)
def Cd:dq:=i5 DD 0
def qpz (k:Nat):Kp × ah:=(⟨ET.ae,ET.cj,[0]⟩,part Cd.assign k)
def qp0 (k:Nat):Kp × ah:=(⟨ET.ae,ET.cj,[0]⟩,part Cd.body k)
theorem qob:nth DD.loops 0=some Cd/\Cd.params=[9]:=⟨by kernel_rfl,by kernel_rfl⟩
theorem qrd (M:aM) (c:Ctx):(WE M c (Ge 0) λ Q E D H=>Lz E 1 λ g a=>A3 g cJ (AV.cells a) H λ g b H1=>A3 g jk [.nilp] H1 λ g d H2=>W M c (Ge 2) g Q ((4,d)::(3,b)::E) D H2) /\
 (WE M c (qpz 0) λ Q E D H=>Lz E 9 λ g a=>aw g Q .normal ((5,a)::E) D H) /\
 (WE M c (qp0 0) λ Q E D H=>Lz E 5 λ g i=>Nf g 1 i H λ g l=>Bn g .neq l (.int .i64 0) λ g b=>JN (λ (k:Bool->AV->AV->AV->AV->AV->AV->AHeap->Prop)=>B3 g (aA true (some b)) λ g w=>cd g w (λ g=>B3 g (Op.nilCheck [i]) λ g d=>B3 g ((Op.fieldAddr 0) [d]) λ g e=>B3 g (Op.aa [e] H) λ g f=>Ly g E 3 λ g p=>B3 g (Op.aa [p] H) λ g h=>Bn g .eql f h λ g m=>k g m h f e d i H) (λ g=>k g uu uu uu uu uu uu H)) (λ g a _ _ _ _ _ H1=>B3 g (Op.pick [b,a,(.bool false)]) λ g n=>br g n (λ g=>Ly g E 5 λ g j=>Ly g E 4 λ g q=>aZ g ((Op.store 1) [q,j] H1) λ g u H2=>aw g (aI 1 Q) .ret E D H2) (λ g=>aw g (aI 1 Q) .normal E D H1))) /\
 (WE M c (Ge 2) λ Q E D H=>Lz E 0 λ g b=>Ly g E 3 λ g d=>B3 g (Op.aa [d] H) λ g e=>C3 M g (.func Du) [b,e] H λ g a H1=>eS M ET.ae c 0 ((8,a)::E) D H1 (aI 0 (ak (W M c (Ge 7)) Q)) a) /\
 (WE M c (Ge 7) λ Q E D H=>Lz E 4 λ g a=>aZ g ((Op.store 1) [a,.nilp] H) λ g u H1=>aw g Q .ret E D H1):=by (repeat' apply And.intro)<;>(intro _ _ _ _;refine aF ?_;kernel_rfl)
theorem qrc:(aj Try.prog).func sD=some DD/\DD.results=[.gA 4]:=xw (by kernel_rfl)
theorem qyt:M.func sD=some DD:=MK.at (by decide) qrc.1
theorem q0w (h:W M ⟨none,sD⟩ (Ge 0) true (aL M [.gA 4] Q) [(0,a0),(1,a1)] [] H):kt M sD [a0,a1] H Q:=aG (by decide) qrc (ks:=ET) (by kernel_rfl) h
def B0:aq:=funcAt Try.prog zD
def Ds:Kp:=⟨[0,1,4,5,6,9,10],false,[0,2,3,5,7,12]⟩
def yl (k:Nat):Kp × ah:=(Ds,part B0.body k)
def Ch:dq:=i5 B0 0
def qmr (k:Nat):Kp × ah:=(⟨Ds.ae,Ds.cj,[0]⟩,part Ch.assign k)
def A0 (k:Nat):Kp × ah:=(⟨Ds.ae,Ds.cj,[0,9,15]⟩,part Ch.body k)
theorem qld:nth B0.loops 0=some Ch/\Ch.params=[10]:=⟨by kernel_rfl,by kernel_rfl⟩
theorem qof (M:aM) (c:Ctx):(WE M c (yl 0) λ Q E D H=>A3 true jk [.nilp] H λ g a H1=>W M c (yl 2) g Q ((4,a)::E) D H1) /\
 (WE M c (qmr 0) λ Q E D H=>Lz E 10 λ g a=>aw g Q .normal ((6,a)::E) D H) /\
 (WE M c (A0 0) λ Q E D H=>Lz E 6 λ g d=>Nf g 1 d H λ g b=>Cb g .eql b (.int .i64 0) (λ g=>Ly g E 6 λ g a=>Ly g E 4 λ g e=>aZ g ((Op.store 1) [e,a] H) λ g u H1=>aw g (ak (W M c (A0 9)) (aI 1 Q)) .ret E D H1) (λ g=>Gt g M c (A0 9) (aI 1 Q) E D H)) /\
 (WE M c (yl 2) λ Q E D H=>W M c (yl 3) true (o9 (yl 3).2 Q) E D H) /\
 (WE M c (A0 9) λ Q E D H=>Lz E 6 λ g f=>Nf g 2 f H λ g b=>JN (λ (k:Bool->AV->AV->AV->AV->AHeap->Prop)=>B3 g (aA false (some b)) λ g w=>cd g w (λ g=>B3 g (Op.nilCheck [f]) λ g d=>B3 g ((Op.fieldAddr 3) [d]) λ g e=>B3 g (Op.aa [e] H) λ g h=>k g h e d f H) (λ g=>k g uu uu uu uu H)) (λ g a _ _ _ H1=>B3 g (Op.pick [b,(.bool true),a]) λ g i=>br g i (λ g=>aw g (ak (W M c (A0 15)) Q) (.exit 1) E D H1) (λ g=>Gt g M c (A0 15) Q E D H1))) /\
 (WE M c (yl 3) λ Q E D H=>A3 true jk [.nilp] H λ g a H1=>W M c (yl 5) g Q ((5,a)::E) D H1) /\
 (WE M c (A0 15) λ Q E D H=>Lz E 5 λ g p=>B3 g (Op.aa [p] H) λ g q=>B3 g ((Op.eq .ptr false) [q,.nilp] H) λ g b=>JN (λ (k:Bool->AV->AV->AV->AV->AV->AV->AV->AV->AV->AHeap->Prop)=>B3 g (aA false (some b)) λ g w=>cd g w (λ g=>Ly g E 6 λ g r=>B3 g (Op.nilCheck [r]) λ g d=>B3 g ((Op.fieldAddr 20) [d]) λ g e=>B3 g (Op.aa [e] H) λ g f=>B3 g (Op.aa [p] H) λ g h=>B3 g (Op.nilCheck [h]) λ g i=>B3 g ((Op.fieldAddr 20) [i]) λ g j=>B3 g (Op.aa [j] H) λ g l=>Bn g .lss f l λ g s=>k g s l j i h f e d r H) (λ g=>k g uu uu uu uu uu uu uu uu uu H)) (λ g a _ _ _ _ _ _ _ _ H1=>B3 g (Op.pick [b,(.bool true),a]) λ g v=>br g v (λ g=>Ly g E 6 λ g m=>Ly g E 5 λ g n=>aZ g ((Op.store 1) [n,m] H1) λ g u H2=>aw g Q .normal E D H2) (λ g=>aw g Q .normal E D H1))) /\
 (WE M c (yl 5) λ Q E D H=>Gt true M c (yl 7) Q E D H) /\
 (WE M c (yl 7) λ Q E D H=>Lz E 0 λ g b=>Ly g E 1 λ g d=>C3 M g (.func Du) [b,d] H λ g a H1=>eS M Ds.ae c 0 ((9,a)::E) D H1 (aI 0 (ak (W M c (yl 12)) Q)) a) /\
 (WE M c (yl 12) λ Q E D H=>Lz E 5 λ g b=>B3 g (Op.aa [b] H) λ g a=>Ly g E 4 λ g d=>aZ g ((Op.store 1) [d,a] H) λ g u H1=>aw g Q .ret E D H1):=by (repeat' apply And.intro)<;>(intro _ _ _ _;refine aF ?_;kernel_rfl)
theorem qoe:(aj Try.prog).func zD=some B0/\B0.results=[.gA 4]:=xw (by kernel_rfl)
theorem qud:M.func zD=some B0:=MK.at (by decide) qoe.1
theorem qw7 (h:W M ⟨none,zD⟩ (yl 0) true (aL M [.gA 4] Q) [(0,a0),(1,a1)] [] H):kt M zD [a0,a1] H Q:=aG (by decide) qoe (ks:=Ds) (by kernel_rfl) h
def Mm:aq:=funcAt Try.prog yk
def qlc:Kp:=⟨[0,1,3,10,11],false,[0,1,7,9,13,19,23,29,34]⟩
def zr (k:Nat):Kp × ah:=(qlc,part Mm.body k)
theorem qsy (M:aM) (c:Ctx):(WE M c (zr 0) λ Q E D H=>W M c (zr 1) true (o9 (zr 1).2 Q) E D H) /\
 (WE M c (zr 1) λ Q E D H=>Lz E 1 λ g a=>B3 g (Op.aa [a] H) λ g b=>B3 g ((Op.eq .ptr false) [b,.nilp] H) λ g d=>br g d (λ g=>aw g (ak (W M c (zr 7)) Q) .ret E D H) (λ g=>Gt g M c (zr 7) Q E D H)) /\
 (WE M c (zr 7) λ Q E D H=>Gt true M c (zr 9) Q E D H) /\
 (WE M c (zr 9) λ Q E D H=>Lz E 1 λ g b=>B3 g (Op.aa [b] H) λ g d=>Nf g 2 d H λ g e=>B3 g (Op.bP [e]) λ g a=>bq (W M c (zr 13)) (aI 0 Q) ((11,(.int .i64 0))::(10,a)::E) D H) /\
 (WE M c (zr 13) λ Q E D H=>Lz E 11 λ g a=>Ly g E 10 λ g b=>Cb g .lss a b (λ g=>Gt g M c (zr 19) Q E D H) (λ g=>aw g (ak (W M c (zr 19)) Q) (.exit 0) E D H)) /\
 (WE M c (zr 19) λ Q E D H=>Lz E 11 λ g a=>W M c (zr 23) g (aI 1 (ak (W M c (zr 34)) Q)) ((3,a)::E) D H) /\
 (WE M c (zr 34) λ Q E D H=>Lz E 11 λ g a=>Bn g .add a (.int .i64 1) λ g b=>aw g Q .normal ((11,b)::E) D H) /\
 (WE M c (zr 23) λ Q E D H=>Lz E 1 λ g f=>B3 g (Op.aa [f] H) λ g a=>Nf g 2 a H λ g b=>Ly g E 3 λ g h=>B3 g ((Op.aP 21) [b,h]) λ g d=>Fl g 1 d H λ g e=>Cb g .eql e (.int .i64 0) (λ g=>aw g (ak (W M c (zr 29)) Q) (.exit 1) E D H) (λ g=>Gt g M c (zr 29) Q E D H)) /\
 (WE M c (zr 29) λ Q E D H=>Lz E 0 λ g i=>Ly g E 1 λ g j=>B3 g (Op.aa [j] H) λ g a=>Nf g 2 a H λ g b=>Ly g E 3 λ g l=>B3 g ((Op.aP 21) [b,l]) λ g d=>V3 g [i,d] λ g f vs=>C3 M g f vs H λ g e H1=>B3 g ((Op.un .not) [e]) λ g h=>br g h (λ g=>aw g Q .ret E D H1) (λ g=>aw g Q .normal E D H1)):=by (repeat' apply And.intro)<;>(intro _ _ _ _;refine aF ?_;kernel_rfl)
theorem qsw:(aj Try.prog).func yk=some Mm/\Mm.results=[]:=xw (by kernel_rfl)
theorem qsx (h:W M ⟨none,yk⟩ (zr 0) true (aL M [] Q) [(0,a0),(1,a1)] [] H):kt M yk [a0,a1] H Q:=aG (by decide) qsw (ks:=qlc) (by kernel_rfl) h
def MF:aq:=funcAt Try.prog Du
def qp1:Kp:=⟨[0,1,2,3,4],false,[0]⟩
def qp2 (k:Nat):Kp × ah:=(qp1,part MF.body k)
theorem qyw (M:aM) (c:Ctx):(WE M c (qp2 0) λ Q E D H=>Lz E 0 λ g d=>A3 g vx (AV.cells d) H λ g a H1=>Ly g E 1 λ g e=>A3 g cJ (AV.cells e) H1 λ g b H2=>B3 g ((Op.cu yu 0) [a,b]) λ g f=>aw g Q .ret ((4,f)::(4,.nilf)::(3,b)::(2,a)::E) D H2):=by intro _ _ _ _;refine aF ?_;kernel_rfl
theorem qyu:(aj Try.prog).func Du=some MF/\MF.results=[.tmp 4]:=xw (by kernel_rfl)
theorem qyv (h:W M ⟨none,Du⟩ (qp2 0) true (aL M [.tmp 4] Q) [(0,a0),(1,a1)] [] H):kt M Du [a0,a1] H Q:=aG (by decide) qyu (ks:=qp1) (by kernel_rfl) h
def N0:aq:=funcAt Try.prog yu
def qms:Kp:=⟨[0,1,2,4,5,26,27],false,[0,6,12,18,27]⟩
def kz (k:Nat):Kp × ah:=(qms,part N0.body k)
theorem qug (M:aM) (c:Ctx):(WE M c (kz 0) λ Q E D H=>Lz E 1 λ g h=>B3 g (Op.aa [h] H) λ g i=>B3 g ((Op.eq .ptr false) [i,.nilp] H) λ g b=>JN (λ (k:Bool->AV->AV->AHeap->Prop)=>B3 g (aA false (some b)) λ g w=>cd g w (λ g=>Ly g E 2 λ g j=>B3 g (Op.aa [j] H) λ g d=>Bn g .lss d (.int .i64 0) λ g e=>k g e d H) (λ g=>k g uu uu H)) (λ g a _ H1=>B3 g (Op.pick [b,(.bool true),a]) λ g f=>br g f (λ g=>aw g (ak (W M c (kz 6)) Q) .ret E D H1) (λ g=>Gt g M c (kz 6) Q E D H1))) /\
 (WE M c (kz 6) λ Q E D H=>Lz E 2 λ g p=>B3 g (Op.aa [p] H) λ g b=>Ly g E 1 λ g d=>B3 g (Op.aa [d] H) λ g e=>Nf g 0 e H λ g f=>Bn g .rem b f λ g h=>B3 g (Op.aa [d] H) λ g i=>Nf g 1 i H λ g j=>Bn g .mul h j λ g l=>Ly g E 1 λ g a=>B3 g (Op.aa [a] H) λ g m=>Nf g 1 m H λ g n=>bq (W M c (kz 12)) (aI 0 Q) ((27,(.int .i64 0))::(26,n)::(4,l)::E) D H) /\
 (WE M c (kz 12) λ Q E D H=>Lz E 27 λ g a=>Ly g E 26 λ g b=>Cb g .lss a b (λ g=>Gt g M c (kz 18) Q E D H) (λ g=>aw g (ak (W M c (kz 18)) Q) (.exit 0) E D H)) /\
 (WE M c (kz 18) λ Q E D H=>Lz E 27 λ g a=>Ly g E 0 λ g l=>Ly g E 1 λ g m=>B3 g (Op.aa [m] H) λ g b=>Nf g 2 b H λ g d=>Ly g E 4 λ g n=>Bn g .add n a λ g e=>B3 g ((Op.aP 21) [d,e]) λ g h=>V3 g [l,h] λ g f vs=>C3 M g f vs H λ g i H1=>B3 g ((Op.un .not) [i]) λ g j=>br g j (λ g=>aw g (aI 1 (ak (W M c (kz 27)) Q)) .ret ((5,a)::E) D H1) (λ g=>aw g (aI 1 (ak (W M c (kz 27)) Q)) .normal ((5,a)::E) D H1)) /\
 (WE M c (kz 27) λ Q E D H=>Lz E 27 λ g a=>Bn g .add a (.int .i64 1) λ g b=>aw g Q .normal ((27,b)::E) D H):=by (repeat' apply And.intro)<;>(intro _ _ _ _;refine aF ?_;kernel_rfl)
theorem que:(aj Try.prog).func yu=some N0/\N0.results=[]:=xw (by kernel_rfl)
theorem quf (h:W M ⟨none,yu⟩ (kz 0) true (aL M [] Q) [(0,a0),(1,a1),(2,a2)] [] H):kt M yu [a0,a1,a2] H Q:=aG (by decide) que (ks:=qms) (by kernel_rfl) h
end
end Go.Am
namespace Go.Am
abbrev EA:Nat:=10
abbrev Df:Nat:=19
abbrev B8:Nat:=16
abbrev Dm:Nat:=36
abbrev EW:Nat:=15
abbrev A7:Nat:=37
abbrev BX:Nat:=64
abbrev j8:Nat:=32
abbrev C6:Nat:=77
abbrev EK:Nat:=12
abbrev BM:Nat:=18
abbrev Bv:Nat:=17
abbrev y9:Nat:=46
abbrev yN:Nat:=41
abbrev Aq:Nat:=79
abbrev AH:Nat:=83
abbrev CL:Nat:=72
abbrev Ah:Nat:=39
abbrev B6:Nat:=71
abbrev yg:Nat:=74
abbrev Ed:Nat:=40
abbrev vv:Nat:=85
abbrev yp:Nat:=76
abbrev vd:Nat:=103
abbrev Cx:Nat:=110
abbrev qo:Nat:=38
abbrev ve:Nat:=23
abbrev FE:Nat:=99
noncomputable section
open Go.Proofs Go.Proofs.Ytiibohocdbaekaa
variable {M:aM} [MK M] {H:AHeap} {Q:bu->AHeap->Prop} {a0 a1 a2 a3:AV}
def Nc:aq:=funcAt Try.prog EA
def qzu:Kp:=⟨[0,1,3,4,5,6,7],false,[0,4,12]⟩
def EV (k:Nat):Kp × ah:=(qzu,part Nc.body k)
theorem q8f (M:aM) (c:Ctx):(WE M c (EV 0) λ Q E D H=>Lz E 1 λ g i=>A3 g ve (AV.cells i) H λ g b H1=>Fl g 2 b H1 λ g d=>Fl g 3 b H1 λ g e=>C3 M g (.func Ek) [d,e] H1 λ g a H2=>B3 g ((Op.extract 0) [a]) λ g f=>B3 g ((Op.extract 1) [a]) λ g h=>W M c (EV 4) g Q ((7,h)::(6,f)::(5,(.int .i64 0))::(4,.nilp)::(3,b)::E) D H2) /\
 (WE M c (EV 4) λ Q E D H=>Lz E 7 λ g R=>Bn g .neq R (.int .i64 0) λ g i=>JN (λ (k:Bool->AV->AV->AHeap->Prop)=>B3 g (aA false (some i)) λ g w=>cd g w (λ g=>Ly g E 0 λ g F=>Bn g .lss F (.int .i64 0) λ g G=>k g G F H) (λ g=>k g uu uu H)) (λ g b _ H1=>B3 g (Op.pick [i,(.bool true),b]) λ g j=>JN (λ (k:Bool->AV->AV->AV->AV->AHeap->Prop)=>B3 g (aA false (some j)) λ g w=>cd g w (λ g=>Ly g E 0 λ g a=>Ly g E 3 λ g S=>B3 g ((Op.fieldAddr 1) [S]) λ g l=>B3 g (Op.aa [l] H1) λ g m=>Bn g .geq a m λ g I=>k g I m l a H1) (λ g=>k g uu uu uu uu H1)) (λ g d _ _ _ H2=>B3 g (Op.pick [j,(.bool true),d]) λ g n=>JN (λ (k:Bool->AV->AV->AV->AHeap->Prop)=>B3 g (aA false (some n)) λ g w=>cd g w (λ g=>Ly g E 3 λ g A=>B3 g ((Op.fieldAddr 1) [A]) λ g p=>B3 g (Op.aa [p] H2) λ g q=>Bn g .gtr q (.int .i64 4) λ g J=>k g J q p H2) (λ g=>k g uu uu uu H2)) (λ g e _ _ H3=>B3 g (Op.pick [n,(.bool true),e]) λ g r=>JN (λ (k:Bool->AV->AV->AV->AHeap->Prop)=>B3 g (aA false (some r)) λ g w=>cd g w (λ g=>Ly g E 3 λ g B=>B3 g ((Op.fieldAddr 0) [B]) λ g s=>B3 g (Op.aa [s] H3) λ g v=>Bn g .lss v (.int .i64 2) λ g L=>k g L v s H3) (λ g=>k g uu uu uu H3)) (λ g f _ _ H4=>B3 g (Op.pick [r,(.bool true),f]) λ g x=>JN (λ (k:Bool->AV->AV->AV->AHeap->Prop)=>B3 g (aA false (some x)) λ g w=>cd g w (λ g=>Ly g E 3 λ g C=>B3 g ((Op.fieldAddr 0) [C]) λ g y=>B3 g (Op.aa [y] H4) λ g z=>Bn g .gtr z (.int .i64 64) λ g N=>k g N z y H4) (λ g=>k g uu uu uu H4)) (λ g h _ _ H5=>B3 g (Op.pick [x,(.bool true),h]) λ g P=>br g P (λ g=>aw g (ak (W M c (EV 12)) Q) .ret ((5,(.int .i64 2))::(4,.nilp)::E) D H5) (λ g=>Gt g M c (EV 12) Q E D H5))))))) /\
 (WE M c (EV 12) λ Q E D H=>Lz E 0 λ g e=>Ly g E 3 λ g f=>Fl g 0 f H λ g a=>Ly g E 6 λ g h=>B3 g ((Op.build [(.int .i64 0),(.int .i64 0),.nilp,(.int .i64 0),(.int .i64 0),(.int .i64 0),(.int .u64 0),(.int .u64 0),(.int .u64 0),(.int .u64 0),(.int .u64 0),(.int .u64 0),(.int .u64 0),(.int .u64 0),.nils,(.bool false),(.int .i64 0)] [(0,1),(1,1),(2,1)]) [e,a,h]) λ g b=>A3 g FE (AV.cells b) H λ g d H1=>aw g Q .ret ((5,(.int .i64 0))::(4,d)::E) D H1):=by (repeat' apply And.intro)<;>(intro _ _ _ _;refine aF ?_;kernel_rfl)
theorem q8d:(aj Try.prog).func EA=some Nc/\Nc.results=[.tmp 4,.tmp 5]:=xw (by kernel_rfl)
theorem q8e (h:W M ⟨none,EA⟩ (EV 0) true (aL M [.tmp 4,.tmp 5] Q) [(0,a0),(1,a1)] [] H):kt M EA [a0,a1] H Q:=aG (by decide) q8d (ks:=qzu) (by kernel_rfl) h
def Kz:aq:=funcAt Try.prog EK
def qmw:Kp:=⟨[0,2],false,[0]⟩
def qmx (k:Nat):Kp × ah:=(qmw,part Kz.body k)
theorem qmz (M:aM) (c:Ctx):(WE M c (qmx 0) λ Q E D H=>Lz E 0 λ g a=>B3 g ((Op.eq .ptr true) [a,.nilp] H) λ g d=>JN (λ (k:Bool->AV->AV->AV->AV->AHeap->Prop)=>B3 g (aA true (some d)) λ g w=>cd g w (λ g=>B3 g (Op.nilCheck [a]) λ g e=>B3 g ((Op.fieldAddr 15) [e]) λ g f=>B3 g (Op.aa [f] H) λ g i=>k g i f e a H) (λ g=>k g uu uu uu uu H)) (λ g b _ _ _ H1=>B3 g (Op.pick [d,b,(.bool false)]) λ g h=>aw g Q .ret ((2,h)::(2,(.bool false))::E) D H1)):=by intro _ _ _ _;refine aF ?_;kernel_rfl
theorem qur:(aj Try.prog).func EK=some Kz/\Kz.results=[.tmp 2]:=xw (by kernel_rfl)
theorem qmy (h:W M ⟨none,EK⟩ (qmx 0) true (aL M [.tmp 2] Q) [(0,a0)] [] H):kt M EK [a0] H Q:=aG (by decide) qur (ks:=qmw) (by kernel_rfl) h
def MR:aq:=funcAt Try.prog BM
def qm0:Kp:=⟨[0,1,4,5,6,7,8,9,11],false,[0,2,12,14,24,30]⟩
def j0 (k:Nat):Kp × ah:=(qm0,part MR.body k)
theorem quu (M:aM) (c:Ctx):(WE M c (j0 0) λ Q E D H=>W M c (j0 2) true Q ((7,(.int .i64 0))::(6,.nils)::(5,(.bool false))::(4,(.int .u64 0))::E) D H) /\
 (WE M c (j0 2) λ Q E D H=>Lz E 0 λ g b=>Ly g E 1 λ g d=>C3 M g (.func Ah) [b,d] H λ g a H1=>Cb g .neq a (.int .i64 0) (λ g=>aw g (ak (W M c (j0 12)) Q) .ret ((7,a)::(6,.nils)::(5,(.bool false))::(4,(.int .u64 0))::(8,a)::E) D H1) (λ g=>Gt g M c (j0 12) Q ((8,a)::E) D H1)) /\
 (WE M c (j0 12) λ Q E D H=>Lz E 1 λ g b=>Bn g .quo b (.int .i64 8) λ g a=>W M c (j0 14) g Q ((9,a)::E) D H) /\
 (WE M c (j0 14) λ Q E D H=>Lz E 0 λ g m=>Nf g 2 m H λ g f=>Ly g E 9 λ g n=>C3 M g (.func vr) [f,n] H λ g b H1=>B3 g ((Op.extract 0) [b]) λ g h=>B3 g ((Op.extract 1) [b]) λ g a=>A3 g qu [(.int .i64 0),(.int .i64 0),(.bool false),(.bool false),(.int .u64 0),(.int .u64 0),(.int .u64 0),(.int .u64 0),(.int .u64 0),(.int .u64 0),(.int .u64 0),(.int .u64 0),(.int .u64 0),(.int .u64 0),(.int .u64 0),(.int .u64 0),(.int .u64 0),(.int .u64 0),(.int .u64 0),(.int .u64 0),(.int .i64 0)] H1 λ g i H2=>aZ g ((Op.store 21) [i,h] H2) λ g u H3=>B3 g ((Op.un .not) [a]) λ g j=>br g j (λ g=>Ly g E 0 λ g d=>Ly g E 9 λ g e=>C3 M g (.func yN) [d,(.int .i64 1),e] H3 λ g l H4=>aw g (ak (W M c (j0 24)) Q) .ret ((7,(.int .i64 0))::(6,l)::(5,(.bool false))::(4,(.int .u64 0))::(11,a)::E) D H4) (λ g=>Gt g M c (j0 24) Q ((11,a)::E) D H3)) /\
 (WE M c (j0 24) λ Q E D H=>Lz E 0 λ g e=>Nf g 15 e H λ g b=>br g b (λ g=>Ly g E 0 λ g a=>Nf g 2 a H λ g d=>Ly g E 9 λ g f=>C3 M g (.func BG) [d,f,(.bool false)] H λ g _ H1=>Gt g M c (j0 30) Q E D H1) (λ g=>Gt g M c (j0 30) Q E D H)) /\
 (WE M c (j0 30) λ Q E D H=>Lz E 0 λ g e=>Nf g 2 e H λ g d=>Ly g E 1 λ g f=>C3 M g (.func Be) [d,f] H λ g a H1=>B3 g ((Op.extract 0) [a]) λ g b=>B3 g ((Op.extract 1) [a]) λ g _=>aw g Q .ret ((7,(.int .i64 0))::(6,.nils)::(5,(.bool true))::(4,b)::(4,b)::E) D H1):=by (repeat' apply And.intro)<;>(intro _ _ _ _;refine aF ?_;kernel_rfl)
theorem qus:(aj Try.prog).func BM=some MR/\MR.results=[.tmp 4,.tmp 5,.tmp 6,.tmp 7]:=xw (by kernel_rfl)
theorem qut (h:W M ⟨none,BM⟩ (j0 0) true (aL M [.tmp 4,.tmp 5,.tmp 6,.tmp 7] Q) [(0,a0),(1,a1)] [] H):kt M BM [a0,a1] H Q:=aG (by decide) qus (ks:=qm0) (by kernel_rfl) h
def M9:aq:=funcAt Try.prog Bv
def qlj:Kp:=⟨[0,1,2,6,7,8,9,10],false,[0,2,12,14,22,28]⟩
def jn (k:Nat):Kp × ah:=(qlj,part M9.body k)
theorem qs8 (M:aM) (c:Ctx):(WE M c (jn 0) λ Q E D H=>W M c (jn 2) true Q ((8,(.int .i64 0))::(7,.nils)::(6,(.bool false))::E) D H) /\
 (WE M c (jn 2) λ Q E D H=>Lz E 0 λ g b=>Ly g E 1 λ g d=>C3 M g (.func Ah) [b,d] H λ g a H1=>Cb g .neq a (.int .i64 0) (λ g=>aw g (ak (W M c (jn 12)) Q) .ret ((8,a)::(7,.nils)::(6,(.bool false))::(9,a)::E) D H1) (λ g=>Gt g M c (jn 12) Q ((9,a)::E) D H1)) /\
 (WE M c (jn 12) λ Q E D H=>Lz E 1 λ g b=>Bn g .quo b (.int .i64 8) λ g a=>W M c (jn 14) g Q ((10,a)::E) D H) /\
 (WE M c (jn 14) λ Q E D H=>Lz E 0 λ g i=>Ly g E 10 λ g d=>C3 M g (.func Ed) [i,d] H λ g e H1=>B3 g ((Op.un .not) [e]) λ g f=>br g f (λ g=>Ly g E 0 λ g b=>Ly g E 10 λ g a=>C3 M g (.func yN) [b,(.int .i64 2),a] H1 λ g h H2=>aw g (ak (W M c (jn 22)) Q) .ret ((8,(.int .i64 0))::(7,h)::(6,(.bool false))::E) D H2) (λ g=>Gt g M c (jn 22) Q E D H1)) /\
 (WE M c (jn 22) λ Q E D H=>Lz E 0 λ g f=>Nf g 15 f H λ g b=>br g b (λ g=>Ly g E 0 λ g a=>Nf g 2 a H λ g d=>Ly g E 10 λ g e=>C3 M g (.func BG) [d,e,(.bool true)] H λ g _ H1=>Gt g M c (jn 28) Q E D H1) (λ g=>Gt g M c (jn 28) Q E D H)) /\
 (WE M c (jn 28) λ Q E D H=>Lz E 0 λ g b=>Nf g 2 b H λ g a=>Ly g E 1 λ g d=>Ly g E 2 λ g e=>C3 M g (.func BN) [a,d,e] H λ g _ H1=>aw g Q .ret ((8,(.int .i64 0))::(7,.nils)::(6,(.bool true))::E) D H1):=by (repeat' apply And.intro)<;>(intro _ _ _ _;refine aF ?_;kernel_rfl)
theorem qs6:(aj Try.prog).func Bv=some M9/\M9.results=[.tmp 6,.tmp 7,.tmp 8]:=xw (by kernel_rfl)
theorem qs7 (h:W M ⟨none,Bv⟩ (jn 0) true (aL M [.tmp 6,.tmp 7,.tmp 8] Q) [(0,a0),(1,a1),(2,a2)] [] H):kt M Bv [a0,a1,a2] H Q:=aG (by decide) qs6 (ks:=qlj) (by kernel_rfl) h
def MV:aq:=funcAt Try.prog Dm
def qok:Kp:=⟨[0,1,2,3,8,9,10,11,12,13,14],false,[0,2,12,20,22,30,32,38]⟩
def jh (k:Nat):Kp × ah:=(qok,part MV.body k)
theorem qxj (M:aM) (c:Ctx):(WE M c (jh 0) λ Q E D H=>W M c (jh 2) true Q ((11,(.int .i64 0))::(10,.nils)::(9,(.bool false))::(8,(.bool false))::E) D H) /\
 (WE M c (jh 2) λ Q E D H=>Lz E 0 λ g b=>Ly g E 1 λ g d=>C3 M g (.func Ah) [b,d] H λ g a H1=>Cb g .neq a (.int .i64 0) (λ g=>aw g (ak (W M c (jh 12)) Q) .ret ((11,a)::(10,.nils)::(9,(.bool false))::(8,(.bool false))::(12,a)::E) D H1) (λ g=>Gt g M c (jh 12) Q ((12,a)::E) D H1)) /\
 (WE M c (jh 12) λ Q E D H=>Lz E 0 λ g b=>Nf g 15 b H λ g a=>br g a (λ g=>aw g (ak (W M c (jh 20)) Q) .ret ((11,(.int .i64 41))::(10,.nils)::(9,(.bool false))::(8,(.bool false))::E) D H) (λ g=>Gt g M c (jh 20) Q E D H)) /\
 (WE M c (jh 20) λ Q E D H=>Lz E 1 λ g b=>Bn g .quo b (.int .i64 8) λ g a=>W M c (jh 22) g Q ((13,a)::E) D H) /\
 (WE M c (jh 22) λ Q E D H=>Lz E 0 λ g i=>Ly g E 13 λ g d=>C3 M g (.func Ed) [i,d] H λ g e H1=>B3 g ((Op.un .not) [e]) λ g f=>br g f (λ g=>Ly g E 0 λ g b=>Ly g E 13 λ g a=>C3 M g (.func yN) [b,(.int .i64 2),a] H1 λ g h H2=>aw g (ak (W M c (jh 30)) Q) .ret ((11,(.int .i64 0))::(10,h)::(9,(.bool false))::(8,(.bool false))::E) D H2) (λ g=>Gt g M c (jh 30) Q E D H1)) /\
 (WE M c (jh 30) λ Q E D H=>Lz E 0 λ g e=>Nf g 2 e H λ g b=>Ly g E 1 λ g f=>C3 M g (.func Be) [b,f] H λ g a H1=>B3 g ((Op.extract 0) [a]) λ g d=>B3 g ((Op.extract 1) [a]) λ g _=>W M c (jh 32) g Q ((14,d)::E) D H1) /\
 (WE M c (jh 32) λ Q E D H=>Lz E 14 λ g a=>Ly g E 2 λ g d=>Cb g .eql a d (λ g=>Ly g E 0 λ g e=>Nf g 2 e H λ g b=>Ly g E 1 λ g f=>Ly g E 3 λ g h=>C3 M g (.func BN) [b,f,h] H λ g _ H1=>Gt g M c (jh 38) Q E D H1) (λ g=>Gt g M c (jh 38) Q E D H)) /\
 (WE M c (jh 38) λ Q E D H=>Lz E 14 λ g a=>Ly g E 2 λ g d=>Bn g .eql a d λ g b=>aw g Q .ret ((11,(.int .i64 0))::(10,.nils)::(9,(.bool true))::(8,b)::E) D H):=by (repeat' apply And.intro)<;>(intro _ _ _ _;refine aF ?_;kernel_rfl)
theorem qxh:(aj Try.prog).func Dm=some MV/\MV.results=[.tmp 8,.tmp 9,.tmp 10,.tmp 11]:=xw (by kernel_rfl)
theorem qxi (h:W M ⟨none,Dm⟩ (jh 0) true (aL M [.tmp 8,.tmp 9,.tmp 10,.tmp 11] Q) [(0,a0),(1,a1),(2,a2),(3,a3)] [] H):kt M Dm [a0,a1,a2,a3] H Q:=aG (by decide) qxh (ks:=qok) (by kernel_rfl) h
def Nj:aq:=funcAt Try.prog B8
def qli:Kp:=⟨[0,2],false,[0,2,17]⟩
def A5 (k:Nat):Kp × ah:=(qli,part Nj.body k)
theorem qs5 (M:aM) (c:Ctx):(WE M c (A5 0) λ Q E D H=>W M c (A5 2) true Q ((2,(.int .i64 0))::E) D H) /\
 (WE M c (A5 2) λ Q E D H=>Lz E 0 λ g d=>B3 g ((Op.eq .ptr false) [d,.nilp] H) λ g e=>br g e (λ g=>aw g (aI 0 (ak (W M c (A5 17)) Q)) .ret ((2,(.int .i64 1))::E) D H) (λ g=>Ly g E 0 λ g a=>Nf g 15 a H λ g b=>br g b (λ g=>aw g (aI 0 (ak (W M c (A5 17)) Q)) .ret ((2,(.int .i64 41))::E) D H) (λ g=>aw g (aI 0 (ak (W M c (A5 17)) Q)) .normal E D H))) /\
 (WE M c (A5 17) λ Q E D H=>Lz E 0 λ g a=>Ns g 15 a (.bool true) H λ g u H1=>Ns g 16 a (.int .i64 0) H1 λ g u_1 H2=>aw g Q .ret ((2,(.int .i64 0))::E) D H2):=by (repeat' apply And.intro)<;>(intro _ _ _ _;refine aF ?_;kernel_rfl)
theorem qs3:(aj Try.prog).func B8=some Nj/\Nj.results=[.tmp 2]:=xw (by kernel_rfl)
theorem qs4 (h:W M ⟨none,B8⟩ (A5 0) true (aL M [.tmp 2] Q) [(0,a0)] [] H):kt M B8 [a0] H Q:=aG (by decide) qs3 (ks:=qli) (by kernel_rfl) h
def Lk:aq:=funcAt Try.prog EW
def qj1:Kp:=⟨[0,2],false,[0,2,17]⟩
def BF (k:Nat):Kp × ah:=(qj1,part Lk.body k)
theorem qrr (M:aM) (c:Ctx):(WE M c (BF 0) λ Q E D H=>W M c (BF 2) true Q ((2,(.int .i64 0))::E) D H) /\
 (WE M c (BF 2) λ Q E D H=>Lz E 0 λ g e=>B3 g ((Op.eq .ptr false) [e,.nilp] H) λ g f=>br g f (λ g=>aw g (aI 0 (ak (W M c (BF 17)) Q)) .ret ((2,(.int .i64 1))::E) D H) (λ g=>Ly g E 0 λ g a=>Nf g 15 a H λ g b=>B3 g ((Op.un .not) [b]) λ g d=>br g d (λ g=>aw g (aI 0 (ak (W M c (BF 17)) Q)) .ret ((2,(.int .i64 40))::E) D H) (λ g=>aw g (aI 0 (ak (W M c (BF 17)) Q)) .normal E D H))) /\
 (WE M c (BF 17) λ Q E D H=>Lz E 0 λ g d=>Nf g 2 d H λ g b=>C3 M g (.func y8) [b] H λ g _ H1=>Ly g E 0 λ g a=>Ns g 15 a (.bool false) H1 λ g u H2=>aw g Q .ret ((2,(.int .i64 0))::E) D H2):=by (repeat' apply And.intro)<;>(intro _ _ _ _;refine aF ?_;kernel_rfl)
theorem qrp:(aj Try.prog).func EW=some Lk/\Lk.results=[.tmp 2]:=xw (by kernel_rfl)
theorem qrq (h:W M ⟨none,EW⟩ (BF 0) true (aL M [.tmp 2] Q) [(0,a0)] [] H):kt M EW [a0] H Q:=aG (by decide) qrp (ks:=qj1) (by kernel_rfl) h
def Nu:aq:=funcAt Try.prog Df
def qlh:Kp:=⟨[0,1,4],false,[0,2,16,23]⟩
def va (k:Nat):Kp × ah:=(qlh,part Nu.body k)
theorem qs2 (M:aM) (c:Ctx):(WE M c (va 0) λ Q E D H=>W M c (va 2) true Q ((4,(.int .i64 0))::E) D H) /\
 (WE M c (va 2) λ Q E D H=>Lz E 0 λ g e=>B3 g ((Op.eq .ptr false) [e,.nilp] H) λ g f=>br g f (λ g=>aw g (aI 0 (ak (W M c (va 23)) Q)) .ret ((4,(.int .i64 1))::E) D H) (λ g=>Ly g E 0 λ g a=>Nf g 15 a H λ g b=>B3 g ((Op.un .not) [b]) λ g d=>br g d (λ g=>aw g (aI 0 (ak (W M c (va 23)) Q)) .ret ((4,(.int .i64 40))::E) D H) (λ g=>W M c (va 16) g (aI 0 (ak (W M c (va 23)) Q)) E D H))) /\
 (WE M c (va 23) λ Q E D H=>Lz E 0 λ g a=>Ly g E 1 λ g b=>C3 M g (.func y9) [a,b] H λ g _ H1=>aw g Q .ret ((4,(.int .i64 0))::E) D H1) /\
 (WE M c (va 16) λ Q E D H=>Lz E 1 λ g d=>Bn g .lss d (.int .i64 1) λ g b=>JN (λ (k:Bool->AV->AV->AHeap->Prop)=>B3 g (aA false (some b)) λ g w=>cd g w (λ g=>Bn g .gtr d (.int .i64 7) λ g e=>k g e d H) (λ g=>k g uu uu H)) (λ g a _ H1=>B3 g (Op.pick [b,(.bool true),a]) λ g f=>br g f (λ g=>aw g Q .ret ((4,(.int .i64 2))::E) D H1) (λ g=>aw g Q .normal E D H1))):=by (repeat' apply And.intro)<;>(intro _ _ _ _;refine aF ?_;kernel_rfl)
theorem qs0:(aj Try.prog).func Df=some Nu/\Nu.results=[.tmp 4]:=xw (by kernel_rfl)
theorem qs1 (h:W M ⟨none,Df⟩ (va 0) true (aL M [.tmp 4] Q) [(0,a0),(1,a1)] [] H):kt M Df [a0,a1] H Q:=aG (by decide) qs0 (ks:=qlh) (by kernel_rfl) h
def Nv:aq:=funcAt Try.prog j8
def qmv:Kp:=⟨[0,1,3,4,5,6,7,8,9,51,69],false,[0,2,10,12,20,34,40,41,49,53,61,73,75,85]⟩
def xk (k:Nat):Kp × ah:=(qmv,part Nv.body k)
theorem quq (M:aM) (c:Ctx):(WE M c (xk 0) λ Q E D H=>Lz E 1 λ g a=>A3 g qo (AV.cells a) H λ g b H1=>W M c (xk 2) g Q ((5,(.int .i64 0))::(4,.nils)::(3,b)::E) D H1) /\
 (WE M c (xk 2) λ Q E D H=>Lz E 0 λ g b=>B3 g ((Op.eq .ptr false) [b,.nilp] H) λ g a=>br g a (λ g=>aw g (ak (W M c (xk 10)) Q) .ret ((5,(.int .i64 1))::(4,.nils)::E) D H) (λ g=>Gt g M c (xk 10) Q E D H)) /\
 (WE M c (xk 10) λ Q E D H=>Lz E 0 λ g i=>Nf g 2 i H λ g b=>Ly g E 3 λ g j=>Fl g 2 j H λ g d=>C3 M g (.func vr) [b,d] H λ g a H1=>B3 g ((Op.extract 0) [a]) λ g e=>B3 g ((Op.extract 1) [a]) λ g f=>A3 g qu [(.int .i64 0),(.int .i64 0),(.bool false),(.bool false),(.int .u64 0),(.int .u64 0),(.int .u64 0),(.int .u64 0),(.int .u64 0),(.int .u64 0),(.int .u64 0),(.int .u64 0),(.int .u64 0),(.int .u64 0),(.int .u64 0),(.int .u64 0),(.int .u64 0),(.int .u64 0),(.int .u64 0),(.int .u64 0),(.int .i64 0)] H1 λ g h H2=>aZ g ((Op.store 21) [h,e] H2) λ g u H3=>W M c (xk 12) g Q ((7,f)::(6,h)::E) D H3) /\
 (WE M c (xk 12) λ Q E D H=>Lz E 3 λ g b=>Fl g 1 b H λ g z=>Ly g E 0 λ g a=>Nf g 0 a H λ g A=>Bn g .neq z A λ g h=>JN (λ (k:Bool->AV->AV->AV->AHeap->Prop)=>B3 g (aA false (some h)) λ g w=>cd g w (λ g=>B3 g ((Op.fieldAddr 2) [b]) λ g i=>B3 g (Op.aa [i] H) λ g j=>Bn g .lss j (.int .i64 0) λ g B=>k g B j i H) (λ g=>k g uu uu uu H)) (λ g d _ _ H1=>B3 g (Op.pick [h,(.bool true),d]) λ g l=>JN (λ (k:Bool->AV->AV->AV->AV->AV->AV->AV->AHeap->Prop)=>B3 g (aA false (some l)) λ g w=>cd g w (λ g=>B3 g ((Op.fieldAddr 2) [b]) λ g m=>B3 g (Op.aa [m] H1) λ g n=>B3 g (Op.nilCheck [a]) λ g p=>B3 g ((Op.fieldAddr 1) [p]) λ g q=>B3 g (Op.aa [q] H1) λ g r=>Bn g .geq n r λ g C=>k g C r q p a n m H1) (λ g=>k g uu uu uu uu uu uu uu H1)) (λ g e _ _ _ _ _ _ H2=>B3 g (Op.pick [l,(.bool true),e]) λ g s=>JN (λ (k:Bool->AV->AV->AV->AV->AV->AHeap->Prop)=>B3 g (aA false (some s)) λ g w=>cd g w (λ g=>B3 g ((Op.ao 11) [b] H2) λ g v=>Ly g E 6 λ g I=>B3 g ((Op.ao 21) [I] H2) λ g x=>C3 M g (.func B6) [a,v,x] H2 λ g y H3=>B3 g ((Op.un .not) [y]) λ g F=>k g F y x v a H3) (λ g=>k g uu uu uu uu uu H2)) (λ g f _ _ _ _ H4=>B3 g (Op.pick [s,(.bool true),f]) λ g G=>br g G (λ g=>aw g (ak (W M c (xk 20)) Q) .ret ((5,(.int .i64 30))::(4,.nils)::E) D H4) (λ g=>Gt g M c (xk 20) Q E D H4))))) /\
 (WE M c (xk 20) λ Q E D H=>Lz E 3 λ g n=>Fl g 0 n H λ g a=>Cb g .eql a (.int .i64 11) (λ g=>Ly g E 0 λ g p=>Ly g E 6 λ g q=>B3 g ((Op.ao 21) [q] H) λ g h=>C3 M g (.func CL) [p,h,(.bool true)] H λ g _ H1=>Ly g E 0 λ g b=>Nf g 2 b H1 λ g i=>Ly g E 3 λ g d=>Fl g 2 d H1 λ g j=>C3 M g (.func xI) [i,j] H1 λ g _ H2=>Ly g E 0 λ g e=>Ly g E 3 λ g f=>Fl g 2 f H2 λ g l=>C3 M g (.func yg) [e,(.int .i64 4),l] H2 λ g m H3=>aZ g ((Op.buildSlice qo 1 [(.int .i64 0),(.int .i64 0),(.int .i64 0),(.int .u64 0),(.int .u64 0),(.int .u64 0),(.int .u64 0),(.int .u64 0),(.int .u64 0),(.int .u64 0),(.int .u64 0)] [(0,11)]) [m]) λ g o4 k4=>aw g (aI 0 (ak (W M c (xk 73)) Q)) .ret ((5,(.int .i64 0))::(4,(k4 H3.next))::(51,a)::E) D (H3.alloc o4)) (λ g=>W M c (xk 34) g (aI 0 (ak (W M c (xk 73)) Q)) ((51,a)::E) D H)) /\
 (WE M c (xk 73) λ Q E D H=>Lz E 0 λ g e=>B3 g ((Op.build [(.int .i64 0),(.int .i64 0),(.int .i64 0),(.int .u64 0),(.int .u64 0),(.int .u64 0),(.int .u64 0),(.int .u64 0),(.int .u64 0),(.int .u64 0),(.int .u64 0)] []) []) λ g a=>B3 g (Op.nilCheck [e]) λ g b=>B3 g ((Op.fieldAddr 3) [b]) λ g d=>aZ g ((Op.store 11) [d,a] H) λ g u H1=>W M c (xk 75) g Q E D H1) /\
 (WE M c (xk 34) λ Q E D H=>Lz E 51 λ g d=>Bn g .eql d (.int .i64 12) λ g a=>br g a (λ g=>Gt g M c (xk 40) Q ((69,a)::E) D H) (λ g=>Ly g E 51 λ g b=>Bn g .eql b (.int .i64 13) λ g e=>Gt g M c (xk 40) Q ((69,e)::(69,a)::E) D H)) /\
 (WE M c (xk 75) λ Q E D H=>Lz E 7 λ g m=>br g m (λ g=>Ly g E 0 λ g n=>Nf g 2 n H λ g a=>Ly g E 3 λ g l=>Fl g 2 l H λ g b=>B3 g ((Op.fieldAddr 3) [l]) λ g d=>B3 g ((Op.ao 8) [d] H) λ g e=>C3 M g (.func Cq) [a,b,e] H λ g _ H1=>Ly g E 0 λ g f=>Ly g E 3 λ g h=>Fl g 2 h H1 λ g i=>C3 M g (.func yg) [f,(.int .i64 7),i] H1 λ g j H2=>aZ g ((Op.buildSlice qo 1 [(.int .i64 0),(.int .i64 0),(.int .i64 0),(.int .u64 0),(.int .u64 0),(.int .u64 0),(.int .u64 0),(.int .u64 0),(.int .u64 0),(.int .u64 0),(.int .u64 0)] [(0,11)]) [j]) λ g o3 k3=>aw g (ak (W M c (xk 85)) Q) .ret ((5,(.int .i64 0))::(4,(k3 H2.next))::E) D (H2.alloc o3)) (λ g=>Gt g M c (xk 85) Q E D H)) /\
 (WE M c (xk 40) λ Q E D H=>Lz E 69 λ g e=>br g e (λ g=>W M c (xk 41) g Q E D H) (λ g=>Ly g E 51 λ g f=>Cb g .eql f (.int .i64 16) (λ g=>Ly g E 0 λ g h=>Nf g 14 h H λ g a=>Ly g E 3 λ g i=>B3 g ((Op.cu C6 0) [i]) λ g b=>C3 M g (.func yp) [a,b] H λ g d H1=>Ns g 14 h d H1 λ g u H2=>aw g Q .ret ((5,(.int .i64 0))::(4,.nils)::E) D H2) (λ g=>aw g Q .normal E D H))) /\
 (WE M c (xk 85) λ Q E D H=>Lz E 0 λ g j=>Ly g E 3 λ g l=>B3 g ((Op.ao 11) [l] H) λ g b=>C3 M g (.func Aq) [j,b] H λ g a H1=>Ly g E 0 λ g d=>Ly g E 3 λ g e=>Fl g 2 e H1 λ g f=>C3 M g (.func yg) [d,(.int .i64 7),f] H1 λ g h H2=>aZ g ((Op.buildSlice qo 1 [(.int .i64 0),(.int .i64 0),(.int .i64 0),(.int .u64 0),(.int .u64 0),(.int .u64 0),(.int .u64 0),(.int .u64 0),(.int .u64 0),(.int .u64 0),(.int .u64 0)] [(0,11)]) [h]) λ g o3 k3=>aZ g ((Op.append qo 11 88) [a,(k3 H2.next)] (H2.alloc o3)) λ g i H4=>aw g Q .ret ((5,(.int .i64 0))::(4,i)::(9,a)::E) D H4) /\
 (WE M c (xk 41) λ Q E D H=>Lz E 7 λ g e=>B3 g ((Op.un .not) [e]) λ g a=>br g a (λ g=>Ly g E 0 λ g f=>Ly g E 3 λ g h=>Fl g 2 h H λ g b=>C3 M g (.func yg) [f,(.int .i64 6),b] H λ g d H1=>aZ g ((Op.buildSlice qo 1 [(.int .i64 0),(.int .i64 0),(.int .i64 0),(.int .u64 0),(.int .u64 0),(.int .u64 0),(.int .u64 0),(.int .u64 0),(.int .u64 0),(.int .u64 0),(.int .u64 0)] [(0,11)]) [d]) λ g o2 k2=>aw g (ak (W M c (xk 49)) Q) .ret ((5,(.int .i64 0))::(4,(k2 H1.next))::E) D (H1.alloc o2)) (λ g=>Gt g M c (xk 49) Q E D H)) /\
 (WE M c (xk 49) λ Q E D H=>Lz E 0 λ g l=>Ly g E 6 λ g m=>B3 g ((Op.ao 21) [m] H) λ g d=>Ly g E 3 λ g n=>Fl g 0 n H λ g e=>Bn g .eql e (.int .i64 13) λ g f=>C3 M g (.func CL) [l,d,f] H λ g _ H1=>Ly g E 0 λ g a=>Ly g E 3 λ g b=>Fl g 2 b H1 λ g h=>C3 M g (.func yg) [a,(.int .i64 5),h] H1 λ g i H2=>A3 g qo [(.int .i64 0),(.int .i64 0),(.int .i64 0),(.int .u64 0),(.int .u64 0),(.int .u64 0),(.int .u64 0),(.int .u64 0),(.int .u64 0),(.int .u64 0),(.int .u64 0)] H2 λ g j H3=>aZ g ((Op.store 11) [j,i] H3) λ g u H4=>W M c (xk 53) g Q ((8,j)::E) D H4) /\
 (WE M c (xk 53) λ Q E D H=>Lz E 3 λ g y=>Fl g 0 y H λ g s=>Cb g .eql s (.int .i64 12) (λ g=>Ly g E 0 λ g e=>Nf g 2 e H λ g v=>Ly g E 3 λ g a=>Fl g 2 a H λ g x=>C3 M g (.func DI) [v,x] H λ g d H1=>B3 g ((Op.extract 0) [d]) λ g f=>B3 g ((Op.extract 1) [d]) λ g _=>Ly g E 8 λ g h=>B3 g ((Op.fieldAddr 3) [h]) λ g i=>aZ g ((Op.store 8) [i,f] H1) λ g u H2=>Gt g M c (xk 61) Q E D H2) (λ g=>Ly g E 0 λ g e=>Nf g 2 e H λ g j=>Ly g E 3 λ g a=>Fl g 2 a H λ g l=>C3 M g (.func xI) [j,l] H λ g b H1=>B3 g ((Op.extract 0) [b]) λ g m=>B3 g ((Op.extract 1) [b]) λ g _=>Ly g E 6 λ g z=>aZ g ((Op.store 21) [z,m] H1) λ g u H2=>Ly g E 6 λ g n=>B3 g ((Op.fieldAddr 4) [n]) λ g p=>B3 g ((Op.ao 8) [p] H2) λ g q=>Ly g E 8 λ g h=>B3 g ((Op.fieldAddr 3) [h]) λ g r=>aZ g ((Op.store 8) [r,q] H2) λ g u_1 H3=>Gt g M c (xk 61) Q E D H3)) /\
 (WE M c (xk 61) λ Q E D H=>Lz E 8 λ g b=>B3 g ((Op.ao 11) [b] H) λ g a=>aZ g ((Op.buildSlice qo 1 [(.int .i64 0),(.int .i64 0),(.int .i64 0),(.int .u64 0),(.int .u64 0),(.int .u64 0),(.int .u64 0),(.int .u64 0),(.int .u64 0),(.int .u64 0),(.int .u64 0)] [(0,11)]) [a]) λ g o1 k1=>aw g Q .ret ((5,(.int .i64 0))::(4,(k1 H.next))::E) D (H.alloc o1)):=by (repeat' apply And.intro)<;>(intro _ _ _ _;refine aF ?_;kernel_rfl)
theorem qun:(aj Try.prog).func j8=some Nv/\Nv.results=[.tmp 4,.tmp 5]:=xw (by kernel_rfl)
theorem qup (h:W M ⟨none,j8⟩ (xk 0) true (aL M [.tmp 4,.tmp 5] Q) [(0,a0),(1,a1)] [] H):kt M j8 [a0,a1] H Q:=aG (by decide) qun (ks:=qmv) (by kernel_rfl) h
def KT:aq:=funcAt Try.prog A7
def qmt:Kp:=⟨[0,1,4,5,6,7],false,[0,2,17,19,27,33]⟩
def jo (k:Nat):Kp × ah:=(qmt,part KT.body k)
theorem quj (M:aM) (c:Ctx):(WE M c (jo 0) λ Q E D H=>W M c (jo 2) true Q ((5,(.int .i64 0))::(4,.nils)::E) D H) /\
 (WE M c (jo 2) λ Q E D H=>Lz E 0 λ g n=>B3 g ((Op.eq .ptr false) [n,.nilp] H) λ g j=>br g j (λ g=>aw g (aI 0 (ak (W M c (jo 17)) Q)) .ret ((5,(.int .i64 1))::(4,.nils)::E) D H) (λ g=>Ly g E 1 λ g i=>Bn g .lss i (.int .i64 0) λ g d=>JN (λ (k:Bool->AV->AV->AV->AV->AV->AV->AHeap->Prop)=>B3 g (aA false (some d)) λ g w=>cd g w (λ g=>Ly g E 0 λ g a=>B3 g (Op.nilCheck [a]) λ g e=>B3 g ((Op.fieldAddr 1) [e]) λ g f=>B3 g (Op.aa [f] H) λ g h=>Bn g .geq i h λ g l=>k g l h f e a i H) (λ g=>k g uu uu uu uu uu uu H)) (λ g b _ _ _ _ _ H1=>B3 g (Op.pick [d,(.bool true),b]) λ g m=>br g m (λ g=>aw g (aI 0 (ak (W M c (jo 17)) Q)) .ret ((5,(.int .i64 2))::(4,.nils)::E) D H1) (λ g=>aw g (aI 0 (ak (W M c (jo 17)) Q)) .normal E D H1)))) /\
 (WE M c (jo 17) λ Q E D H=>Lz E 0 λ g h=>Nf g 2 h H λ g b=>Ly g E 1 λ g i=>C3 M g (.func vr) [b,i] H λ g a H1=>B3 g ((Op.extract 0) [a]) λ g d=>B3 g ((Op.extract 1) [a]) λ g e=>A3 g qu [(.int .i64 0),(.int .i64 0),(.bool false),(.bool false),(.int .u64 0),(.int .u64 0),(.int .u64 0),(.int .u64 0),(.int .u64 0),(.int .u64 0),(.int .u64 0),(.int .u64 0),(.int .u64 0),(.int .u64 0),(.int .u64 0),(.int .u64 0),(.int .u64 0),(.int .u64 0),(.int .u64 0),(.int .u64 0),(.int .i64 0)] H1 λ g f H2=>aZ g ((Op.store 21) [f,d] H2) λ g u H3=>W M c (jo 19) g Q ((7,e)::(6,f)::E) D H3) /\
 (WE M c (jo 19) λ Q E D H=>Lz E 7 λ g b=>B3 g ((Op.un .not) [b]) λ g a=>br g a (λ g=>aw g (ak (W M c (jo 27)) Q) .ret ((5,(.int .i64 20))::(4,.nils)::E) D H) (λ g=>Gt g M c (jo 27) Q E D H)) /\
 (WE M c (jo 27) λ Q E D H=>Lz E 6 λ g e=>Fl g 2 e H λ g b=>JN (λ (k:Bool->AV->AV->AHeap->Prop)=>B3 g (aA false (some b)) λ g w=>cd g w (λ g=>B3 g ((Op.fieldAddr 3) [e]) λ g d=>B3 g (Op.aa [d] H) λ g f=>k g f d H) (λ g=>k g uu uu H)) (λ g a _ H1=>B3 g (Op.pick [b,(.bool true),a]) λ g h=>br g h (λ g=>Ly g E 0 λ g i=>C3 M g (.func y9) [i,(.int .i64 4)] H1 λ g _ H2=>Gt g M c (jo 33) Q E D H2) (λ g=>Gt g M c (jo 33) Q E D H1))) /\
 (WE M c (jo 33) λ Q E D H=>Lz E 0 λ g j=>Nf g 2 j H λ g e=>Ly g E 1 λ g l=>C3 M g (.func xI) [e,l] H λ g a H1=>B3 g ((Op.extract 0) [a]) λ g f=>B3 g ((Op.extract 1) [a]) λ g _=>Ly g E 6 λ g m=>aZ g ((Op.store 21) [m,f] H1) λ g u H2=>Ly g E 0 λ g b=>Ly g E 6 λ g d=>B3 g ((Op.ao 21) [d] H2) λ g h=>C3 M g (.func AH) [b,h] H2 λ g i H3=>aw g Q .ret ((5,(.int .i64 0))::(4,i)::E) D H3):=by (repeat' apply And.intro)<;>(intro _ _ _ _;refine aF ?_;kernel_rfl)
theorem quh:(aj Try.prog).func A7=some KT/\KT.results=[.tmp 4,.tmp 5]:=xw (by kernel_rfl)
theorem qui (h:W M ⟨none,A7⟩ (jo 0) true (aL M [.tmp 4,.tmp 5] Q) [(0,a0),(1,a1)] [] H):kt M A7 [a0,a1] H Q:=aG (by decide) quh (ks:=qmt) (by kernel_rfl) h
def NM:aq:=funcAt Try.prog BX
def qmu:Kp:=⟨[0,1,4,5,21],false,[0,2,10]⟩
def DO (k:Nat):Kp × ah:=(qmu,part NM.body k)
theorem qum (M:aM) (c:Ctx):(WE M c (DO 0) λ Q E D H=>A3 true qu [(.int .i64 0),(.int .i64 0),(.bool false),(.bool false),(.int .u64 0),(.int .u64 0),(.int .u64 0),(.int .u64 0),(.int .u64 0),(.int .u64 0),(.int .u64 0),(.int .u64 0),(.int .u64 0),(.int .u64 0),(.int .u64 0),(.int .u64 0),(.int .u64 0),(.int .u64 0),(.int .u64 0),(.int .u64 0),(.int .i64 0)] H λ g a H1=>W M c (DO 2) g Q ((5,(.bool false))::(4,a)::E) D H1) /\
 (WE M c (DO 2) λ Q E D H=>Lz E 0 λ g a=>B3 g ((Op.eq .ptr false) [a,.nilp] H) λ g b=>br g b (λ g=>B3 g ((Op.build [(.int .i64 0),(.int .i64 0),(.bool false),(.bool false),(.int .u64 0),(.int .u64 0),(.int .u64 0),(.int .u64 0),(.int .u64 0),(.int .u64 0),(.int .u64 0),(.int .u64 0),(.int .u64 0),(.int .u64 0),(.int .u64 0),(.int .u64 0),(.int .u64 0),(.int .u64 0),(.int .u64 0),(.int .u64 0),(.int .i64 0)] []) []) λ g d=>Ly g E 4 λ g e=>aZ g ((Op.store 21) [e,d] H) λ g u H1=>aw g (ak (W M c (DO 10)) Q) .ret ((5,(.bool false))::E) D H1) (λ g=>Gt g M c (DO 10) Q E D H)) /\
 (WE M c (DO 10) λ Q E D H=>Lz E 0 λ g f=>Nf g 2 f H λ g b=>Ly g E 1 λ g h=>C3 M g (.func vr) [b,h] H λ g a H1=>B3 g ((Op.extract 0) [a]) λ g d=>B3 g ((Op.extract 1) [a]) λ g e=>Ly g E 4 λ g i=>aZ g ((Op.store 21) [i,d] H1) λ g u H2=>aw g Q .ret ((5,e)::E) D H2):=by (repeat' apply And.intro)<;>(intro _ _ _ _;refine aF ?_;kernel_rfl)
theorem quk:(aj Try.prog).func BX=some NM/\NM.results=[.cz 21 4,.tmp 5]:=xw (by kernel_rfl)
theorem qul (h:W M ⟨none,BX⟩ (DO 0) true (aL M [.cz 21 4,.tmp 5] Q) [(0,a0),(1,a1)] [] H):kt M BX [a0,a1] H Q:=aG (by decide) quk (ks:=qmu) (by kernel_rfl) h
def Nt:aq:=funcAt Try.prog Ah
def qom:Kp:=⟨[0,1,4],false,[0,2,17]⟩
def Bw (k:Nat):Kp × ah:=(qom,part Nt.body k)
theorem qxp (M:aM) (c:Ctx):(WE M c (Bw 0) λ Q E D H=>W M c (Bw 2) true Q ((4,(.int .i64 0))::E) D H) /\
 (WE M c (Bw 2) λ Q E D H=>Lz E 0 λ g n=>B3 g ((Op.eq .ptr false) [n,.nilp] H) λ g p=>br g p (λ g=>aw g (aI 0 (ak (W M c (Bw 17)) Q)) .ret ((4,(.int .i64 1))::E) D H) (λ g=>Ly g E 1 λ g j=>Bn g .lss j (.int .i64 0) λ g d=>JN (λ (k:Bool->AV->AV->AV->AV->AV->AV->AV->AHeap->Prop)=>B3 g (aA false (some d)) λ g w=>cd g w (λ g=>Ly g E 0 λ g a=>B3 g (Op.nilCheck [a]) λ g e=>B3 g ((Op.fieldAddr 1) [e]) λ g f=>B3 g (Op.aa [f] H) λ g h=>Bn g .mul h (.int .i64 8) λ g i=>Bn g .geq j i λ g l=>k g l i h f e a j H) (λ g=>k g uu uu uu uu uu uu uu H)) (λ g b _ _ _ _ _ _ H1=>B3 g (Op.pick [d,(.bool true),b]) λ g m=>br g m (λ g=>aw g (aI 0 (ak (W M c (Bw 17)) Q)) .ret ((4,(.int .i64 2))::E) D H1) (λ g=>aw g (aI 0 (ak (W M c (Bw 17)) Q)) .normal E D H1)))) /\
 (WE M c (Bw 17) λ Q E D H=>aw true Q .ret ((4,(.int .i64 0))::E) D H):=by (repeat' apply And.intro)<;>(intro _ _ _ _;refine aF ?_;kernel_rfl)
theorem qxn:(aj Try.prog).func Ah=some Nt/\Nt.results=[.tmp 4]:=xw (by kernel_rfl)
theorem qxo (h:W M ⟨none,Ah⟩ (Bw 0) true (aL M [.tmp 4] Q) [(0,a0),(1,a1)] [] H):kt M Ah [a0,a1] H Q:=aG (by decide) qxn (ks:=qom) (by kernel_rfl) h
def NQ:aq:=funcAt Try.prog yN
def qol:Kp:=⟨[0,1,2,6],false,[0,2,10]⟩
def CH (k:Nat):Kp × ah:=(qol,part NQ.body k)
theorem qxm (M:aM) (c:Ctx):(WE M c (CH 0) λ Q E D H=>W M c (CH 2) true Q ((6,.nils)::E) D H) /\
 (WE M c (CH 2) λ Q E D H=>Lz E 0 λ g h=>B3 g (Op.nilCheck [h]) λ g n=>B3 g ((Op.fieldAddr 3) [n]) λ g p=>Fl g 0 p H λ g i=>Bn g .neq i (.int .i64 0) λ g b=>JN (λ (k:Bool->AV->AV->AV->AV->AV->AV->AHeap->Prop)=>B3 g (aA false (some b)) λ g w=>cd g w (λ g=>B3 g (Op.nilCheck [h]) λ g d=>B3 g ((Op.fieldAddr 14) [d]) λ g e=>B3 g (Op.aa [e] H) λ g f=>Ly g E 2 λ g j=>C3 M g (.func vv) [f,j] H λ g l H1=>k g l j f e d h H1) (λ g=>k g uu uu uu uu uu uu H)) (λ g a _ _ _ _ _ H2=>B3 g (Op.pick [b,(.bool true),a]) λ g m=>br g m (λ g=>aw g (ak (W M c (CH 10)) Q) .ret ((6,.nils)::E) D H2) (λ g=>Gt g M c (CH 10) Q E D H2))) /\
 (WE M c (CH 10) λ Q E D H=>Lz E 0 λ g b=>Ly g E 1 λ g l=>Ly g E 2 λ g m=>C3 M g (.func yg) [b,l,m] H λ g d H1=>B3 g (Op.nilCheck [b]) λ g e=>B3 g ((Op.fieldAddr 3) [e]) λ g f=>aZ g ((Op.store 11) [f,d] H1) λ g u H2=>Ly g E 0 λ g a=>B3 g (Op.nilCheck [a]) λ g h=>B3 g ((Op.fieldAddr 3) [h]) λ g i=>B3 g ((Op.ao 11) [i] H2) λ g j=>aZ g ((Op.buildSlice qo 1 [(.int .i64 0),(.int .i64 0),(.int .i64 0),(.int .u64 0),(.int .u64 0),(.int .u64 0),(.int .u64 0),(.int .u64 0),(.int .u64 0),(.int .u64 0),(.int .u64 0)] [(0,11)]) [j]) λ g o3 k3=>aw g Q .ret ((6,(k3 H2.next))::E) D (H2.alloc o3)):=by (repeat' apply And.intro)<;>(intro _ _ _ _;refine aF ?_;kernel_rfl)
theorem qxk:(aj Try.prog).func yN=some NQ/\NQ.results=[.tmp 6]:=xw (by kernel_rfl)
theorem qxl (h:W M ⟨none,yN⟩ (CH 0) true (aL M [.tmp 6] Q) [(0,a0),(1,a1),(2,a2)] [] H):kt M yN [a0,a1,a2] H Q:=aG (by decide) qxk (ks:=qol) (by kernel_rfl) h
def LW:aq:=funcAt Try.prog Ed
def qlm:Kp:=⟨[0,1,4,5,6],false,[0]⟩
def qln (k:Nat):Kp × ah:=(qlm,part LW.body k)
theorem qte (M:aM) (c:Ctx):(WE M c (qln 0) λ Q E D H=>Lz E 0 λ g n=>Nf g 2 n H λ g i=>Ly g E 1 λ g p=>C3 M g (.func vr) [i,p] H λ g d H1=>B3 g ((Op.extract 0) [d]) λ g j=>B3 g ((Op.extract 1) [d]) λ g a=>A3 g qu [(.int .i64 0),(.int .i64 0),(.bool false),(.bool false),(.int .u64 0),(.int .u64 0),(.int .u64 0),(.int .u64 0),(.int .u64 0),(.int .u64 0),(.int .u64 0),(.int .u64 0),(.int .u64 0),(.int .u64 0),(.int .u64 0),(.int .u64 0),(.int .u64 0),(.int .u64 0),(.int .u64 0),(.int .u64 0),(.int .i64 0)] H1 λ g h H2=>aZ g ((Op.store 21) [h,j] H2) λ g u H3=>JN (λ (k:Bool->AV->AV->AV->AHeap->Prop)=>B3 g (aA true (some a)) λ g w=>cd g w (λ g=>B3 g ((Op.fieldAddr 1) [h]) λ g e=>B3 g (Op.aa [e] H3) λ g f=>Bn g .eql f (.int .i64 2) λ g l=>k g l f e H3) (λ g=>k g uu uu uu H3)) (λ g b _ _ H4=>B3 g (Op.pick [a,b,(.bool false)]) λ g m=>aw g Q .ret ((4,m)::(6,a)::(5,h)::(4,(.bool false))::E) D H4)):=by intro _ _ _ _;refine aF ?_;kernel_rfl
theorem qtc:(aj Try.prog).func Ed=some LW/\LW.results=[.tmp 4]:=xw (by kernel_rfl)
theorem qtd (h:W M ⟨none,Ed⟩ (qln 0) true (aL M [.tmp 4] Q) [(0,a0),(1,a1)] [] H):kt M Ed [a0,a1] H Q:=aG (by decide) qtc (ks:=qlm) (by kernel_rfl) h
def KB:aq:=funcAt Try.prog y9
def qlk:Kp:=⟨[0,1],false,[0]⟩
def qll (k:Nat):Kp × ah:=(qlk,part KB.body k)
theorem qtb (M:aM) (c:Ctx):(WE M c (qll 0) λ Q E D H=>Lz E 0 λ g b=>Nf g 2 b H λ g d=>C3 M g (.func vk) [d] H λ g _ H1=>Ly g E 0 λ g a=>Ly g E 1 λ g e=>Ns g 15 a (.bool false) H1 λ g u H2=>Ns g 16 a e H2 λ g u_1 H3=>aw g Q .normal E D H3):=by intro _ _ _ _;refine aF ?_;kernel_rfl
theorem qs9:(aj Try.prog).func y9=some KB/\KB.results=[]:=xw (by kernel_rfl)
theorem qta (h:W M ⟨none,y9⟩ (qll 0) true (aL M [] Q) [(0,a0),(1,a1)] [] H):kt M y9 [a0,a1] H Q:=aG (by decide) qs9 (ks:=qlk) (by kernel_rfl) h
def NX:aq:=funcAt Try.prog B6
def qjj:Kp:=⟨[0,1,2,4,5,6,8,14],false,[0,2,12,18,28,41]⟩
def jl (k:Nat):Kp × ah:=(qjj,part NX.body k)
theorem qqg (M:aM) (c:Ctx):(WE M c (jl 0) λ Q E D H=>Lz E 1 λ g a=>A3 g qo (AV.cells a) H λ g b H1=>Ly g E 2 λ g d=>A3 g qu (AV.cells d) H1 λ g e H2=>W M c (jl 2) g Q ((6,(.bool false))::(5,e)::(4,b)::E) D H2) /\
 (WE M c (jl 2) λ Q E D H=>Lz E 4 λ g e=>Fl g 0 e H λ g a=>Cb g .eql a (.int .i64 11) (λ g=>Ly g E 5 λ g f=>Fl g 1 f H λ g b=>Bn g .neq b (.int .i64 2) λ g d=>aw g (aI 0 (ak (W M c (jl 41)) Q)) .ret ((6,d)::(8,a)::E) D H) (λ g=>W M c (jl 12) g (aI 0 (ak (W M c (jl 41)) Q)) ((8,a)::E) D H)) /\
 (WE M c (jl 41) λ Q E D H=>aw true Q .ret ((6,(.bool false))::E) D H) /\
 (WE M c (jl 12) λ Q E D H=>Lz E 8 λ g e=>Bn g .eql e (.int .i64 12) λ g a=>br g a (λ g=>Gt g M c (jl 18) Q ((14,a)::E) D H) (λ g=>Ly g E 8 λ g b=>Bn g .eql b (.int .i64 13) λ g d=>Gt g M c (jl 18) Q ((14,d)::(14,a)::E) D H)) /\
 (WE M c (jl 18) λ Q E D H=>Lz E 14 λ g d=>br g d (λ g=>Ly g E 5 λ g n=>Fl g 1 n H λ g e=>Bn g .neq e (.int .i64 1) λ g f=>aw g Q .ret ((6,f)::E) D H) (λ g=>Ly g E 8 λ g p=>Cb g .eql p (.int .i64 14) (λ g=>Ly g E 0 λ g h=>B3 g (Op.nilCheck [h]) λ g i=>B3 g ((Op.fieldAddr 3) [i]) λ g a=>B3 g ((Op.ao 11) [a] H) λ g b=>Ly g E 4 λ g q=>Fl g 2 q H λ g j=>C3 M g (.func yg) [h,(.int .i64 1),j] H λ g l H1=>uG g ((Op.ao 11) [a] H1) (some b) λ g=>B3 g ((Op.eq (.agg (.part 0 none .int (.part 1 none .int (.part 2 none .int (.part 3 (some 8) (.part 0 none .int (.part 1 none .int (.part 2 none .int (.part 3 none .int (.part 4 none .int (.part 5 none .int (.part 6 none .int (.part 7 none .int .nil)))))))) .nil))))) false) [b,l] H1) λ g m=>aw g Q .ret ((6,m)::E) D H1) (λ g=>W M c (jl 28) g Q E D H))) /\
 (WE M c (jl 28) λ Q E D H=>Lz E 8 λ g q=>Cb g .eql q (.int .i64 15) (λ g=>Ly g E 0 λ g a=>B3 g (Op.nilCheck [a]) λ g h=>B3 g ((Op.fieldAddr 3) [h]) λ g b=>B3 g ((Op.ao 11) [b] H) λ g d=>Ly g E 4 λ g e=>Fl g 2 e H λ g i=>C3 M g (.func yg) [a,(.int .i64 2),i] H λ g j H1=>uG g ((Op.ao 11) [b] H1) (some d) λ g=>B3 g ((Op.eq (.agg (.part 0 none .int (.part 1 none .int (.part 2 none .int (.part 3 (some 8) (.part 0 none .int (.part 1 none .int (.part 2 none .int (.part 3 none .int (.part 4 none .int (.part 5 none .int (.part 6 none .int (.part 7 none .int .nil)))))))) .nil))))) false) [d,j] H1) λ g l=>aw g Q .ret ((6,l)::E) D H1) (λ g=>Ly g E 8 λ g f=>Cb g .eql f (.int .i64 16) (λ g=>Ly g E 0 λ g a=>Nf g 14 a H λ g m=>Ly g E 4 λ g e=>Fl g 2 e H λ g n=>C3 M g (.func vv) [m,n] H λ g p H1=>aw g Q .ret ((6,p)::E) D H1) (λ g=>aw g Q .normal E D H))):=by (repeat' apply And.intro)<;>(intro _ _ _ _;refine aF ?_;kernel_rfl)
theorem qqe:(aj Try.prog).func B6=some NX/\NX.results=[.tmp 6]:=xw (by kernel_rfl)
theorem qqf (h:W M ⟨none,B6⟩ (jl 0) true (aL M [.tmp 6] Q) [(0,a0),(1,a1),(2,a2)] [] H):kt M B6 [a0,a1,a2] H Q:=aG (by decide) qqe (ks:=qjj) (by kernel_rfl) h
def Nn:aq:=funcAt Try.prog CL
def qm3:Kp:=⟨[0,1,2,4],false,[0]⟩
def qm4 (k:Nat):Kp × ah:=(qm3,part Nn.body k)
theorem E9 (M:aM) (c:Ctx):(WE M c (qm4 0) λ Q E D H=>Lz E 1 λ g r=>A3 g qu (AV.cells r) H λ g b H1=>Fl g 3 b H1 λ g m=>B3 g ((Op.un .not) [m]) λ g d=>JN (λ (k:Bool->AV->AV->AV->AHeap->Prop)=>B3 g (aA true (some d)) λ g w=>cd g w (λ g=>B3 g ((Op.fieldAddr 2) [b]) λ g h=>B3 g (Op.aa [h] H1) λ g i=>k g i i h H1) (λ g=>k g uu uu uu H1)) (λ g a _ _ H2=>JN (λ (k:Bool->AV->AHeap->Prop)=>B3 g (aA true (some a)) λ g w=>cd g w (λ g=>Ly g E 2 λ g s=>k g s H2) (λ g=>k g uu H2)) (λ g e H3=>JN (λ (k:Bool->AV->AV->AHeap->Prop)=>B3 g (aA true (some d)) λ g w=>cd g w (λ g=>B3 g (Op.pick [a,e,(.bool false)]) λ g j=>B3 g ((Op.un .not) [j]) λ g n=>k g n j H3) (λ g=>k g uu uu H3)) (λ g f _ H4=>B3 g (Op.pick [d,f,(.bool false)]) λ g p=>br g p (λ g=>aw g (aI 0 Q) .normal ((4,b)::E) D H4) (λ g=>Fl g 0 b H4 λ g q=>Cb g .eql q (.int .i64 0) (λ g=>Ly g E 0 λ g l=>C3 M g (.func y9) [l,(.int .i64 2)] H4 λ g _ H5=>aw g (aI 0 Q) .normal ((4,b)::E) D H5) (λ g=>Ly g E 0 λ g l=>C3 M g (.func y9) [l,(.int .i64 1)] H4 λ g _ H5=>aw g (aI 0 Q) .normal ((4,b)::E) D H5)))))):=by intro _ _ _ _;refine aF ?_;kernel_rfl
theorem qu1:(aj Try.prog).func CL=some Nn/\Nn.results=[]:=xw (by kernel_rfl)
theorem qu2 (h:W M ⟨none,CL⟩ (qm4 0) true (aL M [] Q) [(0,a0),(1,a1),(2,a2)] [] H):kt M CL [a0,a1,a2] H Q:=aG (by decide) qu1 (ks:=qm3) (by kernel_rfl) h
def ND:aq:=funcAt Try.prog yg
def qon:Kp:=⟨[0,1,2,6,11],false,[0]⟩
def qoo (k:Nat):Kp × ah:=(qon,part ND.body k)
theorem qxs (M:aM) (c:Ctx):(WE M c (qoo 0) λ Q E D H=>A3 true qo [(.int .i64 0),(.int .i64 0),(.int .i64 0),(.int .u64 0),(.int .u64 0),(.int .u64 0),(.int .u64 0),(.int .u64 0),(.int .u64 0),(.int .u64 0),(.int .u64 0)] H λ g b H1=>Ly g E 1 λ g e=>Ly g E 0 λ g f=>Nf g 0 f H1 λ g a=>Ly g E 2 λ g h=>B3 g ((Op.build [(.int .i64 0),(.int .i64 0),(.int .i64 0),(.int .u64 0),(.int .u64 0),(.int .u64 0),(.int .u64 0),(.int .u64 0),(.int .u64 0),(.int .u64 0),(.int .u64 0)] [(0,1),(1,1),(2,1)]) [e,a,h]) λ g d=>aZ g ((Op.store 11) [b,d] H1) λ g u H2=>aw g Q .ret ((11,a)::(6,b)::E) D H2):=by intro _ _ _ _;refine aF ?_;kernel_rfl
theorem qxq:(aj Try.prog).func yg=some ND/\ND.results=[.cz 11 6]:=xw (by kernel_rfl)
theorem qxr (h:W M ⟨none,yg⟩ (qoo 0) true (aL M [.cz 11 6] Q) [(0,a0),(1,a1),(2,a2)] [] H):kt M yg [a0,a1,a2] H Q:=aG (by decide) qxq (ks:=qon) (by kernel_rfl) h
def NN:aq:=funcAt Try.prog yp
def qgo:Kp:=⟨[0,1,4,5,6,7],false,[0,4,12,17,23,34,35]⟩
def zh (k:Nat):Kp × ah:=(qgo,part NN.body k)
theorem qmb (M:aM) (c:Ctx):(WE M c (zh 0) λ Q E D H=>Lz E 0 λ g b=>Ly g E 1 λ g d=>C3 M g (.func vd) [b,d] H λ g a H1=>W M c (zh 4) g Q ((5,a)::(4,.nils)::E) D H1) /\
 (WE M c (zh 4) λ Q E D H=>Lz E 5 λ g a=>Cb g .eql a (.int .i64 (-1)) (λ g=>Ly g E 0 λ g b=>aw g (ak (W M c (zh 12)) Q) .ret ((4,b)::E) D H) (λ g=>Gt g M c (zh 12) Q E D H)) /\
 (WE M c (zh 12) λ Q E D H=>Lz E 5 λ g b=>Bn g .add b (.int .i64 1) λ g a=>bq (W M c (zh 17)) (aI 0 (ak (W M c (zh 35)) Q)) ((6,a)::E) D H) /\
 (WE M c (zh 35) λ Q E D H=>Lz E 0 λ g f=>Ly g E 5 λ g h=>B3 g ((Op.aR 1 [(some 0),none,none]) [f,h]) λ g d=>aZ g ((Op.db [(.int .i64 0)]) [d] H) λ g u H1=>Ly g E 0 λ g a=>Ly g E 5 λ g b=>B3 g ((Op.aR 1 [none,(some 0),none]) [a,b]) λ g e=>aw g Q .ret ((4,e)::E) D H1) /\
 (WE M c (zh 17) λ Q E D H=>Lz E 6 λ g b=>Ly g E 0 λ g d=>B3 g (Op.bP [d]) λ g a=>Cb g .lss b a (λ g=>Gt g M c (zh 23) Q E D H) (λ g=>aw g (ak (W M c (zh 23)) Q) (.exit 0) E D H)) /\
 (WE M c (zh 23) λ Q E D H=>Lz E 0 λ g j=>Ly g E 6 λ g l=>Xl g j l H λ g a=>Ly g E 1 λ g m=>V3 g [m,a] λ g f vs=>C3 M g f vs H λ g e H1=>B3 g ((Op.un .not) [e]) λ g h=>br g h (λ g=>Ly g E 0 λ g b=>Ly g E 5 λ g n=>Xs g b n a H1 λ g u H2=>Ly g E 5 λ g d=>Bn g .add d (.int .i64 1) λ g i=>aw g (aI 1 (ak (W M c (zh 34)) Q)) .normal ((5,i)::(7,a)::E) D H2) (λ g=>aw g (aI 1 (ak (W M c (zh 34)) Q)) .normal ((7,a)::E) D H1)) /\
 (WE M c (zh 34) λ Q E D H=>Lz E 6 λ g b=>Bn g .add b (.int .i64 1) λ g a=>aw g Q .normal ((6,a)::E) D H):=by (repeat' apply And.intro)<;>(intro _ _ _ _;refine aF ?_;kernel_rfl)
theorem ql9:(aj Try.prog).func yp=some NN/\NN.results=[.tmp 4]:=xw (by kernel_rfl)
theorem qma (h:W M ⟨none,yp⟩ (zh 0) true (aL M [.tmp 4] Q) [(0,a0),(1,a1)] [] H):kt M yp [a0,a1] H Q:=aG (by decide) ql9 (ks:=qgo) (by kernel_rfl) h
def Ks:aq:=funcAt Try.prog C6
def qj2:Kp:=⟨[0,1,3],false,[0]⟩
def qj3 (k:Nat):Kp × ah:=(qj2,part Ks.body k)
theorem qj4 (M:aM) (c:Ctx):(WE M c (qj3 0) λ Q E D H=>Lz E 0 λ g a=>Ly g E 1 λ g b=>Fl g 2 b H λ g d=>Bn g .eql a d λ g e=>aw g Q .ret ((3,e)::(3,(.bool false))::E) D H):=by intro _ _ _ _;refine aF ?_;kernel_rfl
theorem qrs:(aj Try.prog).func C6=some Ks/\Ks.results=[.tmp 3]:=xw (by kernel_rfl)
theorem qrt (h:W M ⟨none,C6⟩ (qj3 0) true (aL M [.tmp 3] Q) [(0,a0),(1,a1)] [] H):kt M C6 [a0,a1] H Q:=aG (by decide) qrs (ks:=qj2) (by kernel_rfl) h
def L3:aq:=funcAt Try.prog Aq
def qm1:Kp:=⟨[0,1,3,4,5,6,7,8],false,[0,4,10,12,20,28]⟩
def jp (k:Nat):Kp × ah:=(qm1,part L3.body k)
theorem qux (M:aM) (c:Ctx):(WE M c (jp 0) λ Q E D H=>Lz E 1 λ g a=>A3 g qo (AV.cells a) H λ g b H1=>W M c (jp 4) g Q ((5,(.int .i64 1))::(4,.nils)::(3,b)::E) D H1) /\
 (WE M c (jp 4) λ Q E D H=>Lz E 3 λ g b=>Fl g 0 b H λ g a=>Cb g .eql a (.int .i64 15) (λ g=>Gt g M c (jp 10) Q ((5,(.int .i64 2))::E) D H) (λ g=>Gt g M c (jp 10) Q E D H)) /\
 (WE M c (jp 10) λ Q E D H=>Lz E 0 λ g n=>Nf g 2 n H λ g b=>Ly g E 3 λ g d=>Fl g 2 d H λ g e=>Ly g E 5 λ g p=>B3 g ((Op.fieldAddr 3) [d]) λ g f=>B3 g ((Op.ao 8) [f] H) λ g h=>C3 M g (.func wV) [b,e,p,h] H λ g a H1=>B3 g ((Op.extract 0) [a]) λ g i=>B3 g ((Op.extract 1) [a]) λ g j=>B3 g ((Op.extract 2) [a]) λ g l=>A3 g qu [(.int .i64 0),(.int .i64 0),(.bool false),(.bool false),(.int .u64 0),(.int .u64 0),(.int .u64 0),(.int .u64 0),(.int .u64 0),(.int .u64 0),(.int .u64 0),(.int .u64 0),(.int .u64 0),(.int .u64 0),(.int .u64 0),(.int .u64 0),(.int .u64 0),(.int .u64 0),(.int .u64 0),(.int .u64 0),(.int .i64 0)] H1 λ g m H2=>aZ g ((Op.store 21) [m,i] H2) λ g u H3=>W M c (jp 12) g Q ((8,l)::(7,j)::(6,m)::E) D H3) /\
 (WE M c (jp 12) λ Q E D H=>Lz E 8 λ g m=>Cb g .eql m (.int .i64 22) (λ g=>Ly g E 0 λ g n=>C3 M g (.func y9) [n,(.int .i64 3)] H λ g _ H1=>Ly g E 0 λ g b=>Nf g 2 b H1 λ g d=>Ly g E 3 λ g e=>Fl g 2 e H1 λ g f=>Ly g E 5 λ g p=>B3 g ((Op.fieldAddr 3) [e]) λ g h=>B3 g ((Op.ao 8) [h] H1) λ g i=>C3 M g (.func wV) [d,f,p,i] H1 λ g a H2=>B3 g ((Op.extract 0) [a]) λ g j=>B3 g ((Op.extract 1) [a]) λ g l=>B3 g ((Op.extract 2) [a]) λ g _=>Ly g E 6 λ g q=>aZ g ((Op.store 21) [q,j] H2) λ g u H3=>Gt g M c (jp 20) Q ((7,l)::E) D H3) (λ g=>Gt g M c (jp 20) Q E D H)) /\
 (WE M c (jp 20) λ Q E D H=>Lz E 7 λ g b=>B3 g ((Op.un .not) [b]) λ g a=>br g a (λ g=>aw g (ak (W M c (jp 28)) Q) .ret ((4,.nils)::E) D H) (λ g=>Gt g M c (jp 28) Q E D H)) /\
 (WE M c (jp 28) λ Q E D H=>Lz E 0 λ g d=>Ly g E 6 λ g e=>B3 g ((Op.ao 21) [e] H) λ g a=>C3 M g (.func AH) [d,a] H λ g b H1=>aw g Q .ret ((4,b)::E) D H1):=by (repeat' apply And.intro)<;>(intro _ _ _ _;refine aF ?_;kernel_rfl)
theorem quv:(aj Try.prog).func Aq=some L3/\L3.results=[.tmp 4]:=xw (by kernel_rfl)
theorem quw (h:W M ⟨none,Aq⟩ (jp 0) true (aL M [.tmp 4] Q) [(0,a0),(1,a1)] [] H):kt M Aq [a0,a1] H Q:=aG (by decide) quv (ks:=qm1) (by kernel_rfl) h
def MS:aq:=funcAt Try.prog AH
def qm2:Kp:=⟨[0,1,3,4,5],false,[0,2,10]⟩
def DW (k:Nat):Kp × ah:=(qm2,part MS.body k)
theorem qu0 (M:aM) (c:Ctx):(WE M c (DW 0) λ Q E D H=>Lz E 1 λ g a=>A3 g qu (AV.cells a) H λ g b H1=>W M c (DW 2) g Q ((4,.nils)::(3,b)::E) D H1) /\
 (WE M c (DW 2) λ Q E D H=>Lz E 3 λ g a=>Fl g 1 a H λ g b=>Cb g .neq b (.int .i64 2) (λ g=>aw g (ak (W M c (DW 10)) Q) .ret ((4,.nils)::E) D H) (λ g=>Gt g M c (DW 10) Q E D H)) /\
 (WE M c (DW 10) λ Q E D H=>Lz E 0 λ g f=>Nf g 14 f H λ g h=>Ly g E 3 λ g s=>Fl g 0 s H λ g i=>aZ g ((Op.buildSlice cJ 1 [(.int .i64 0)] [(0,1)]) [i]) λ g o1 k1=>aZ g ((Op.append cJ 1 8) [h,(k1 H.next)] (H.alloc o1)) λ g j H2=>Ns g 14 f j H2 λ g u H3=>Ly g E 0 λ g b=>Ly g E 3 λ g d=>Fl g 0 d H3 λ g l=>C3 M g (.func yg) [b,(.int .i64 3),l] H3 λ g m H4=>A3 g qo [(.int .i64 0),(.int .i64 0),(.int .i64 0),(.int .u64 0),(.int .u64 0),(.int .u64 0),(.int .u64 0),(.int .u64 0),(.int .u64 0),(.int .u64 0),(.int .u64 0)] H4 λ g a H5=>aZ g ((Op.store 11) [a,m] H5) λ g u_1 H6=>Ly g E 3 λ g e=>B3 g ((Op.fieldAddr 4) [e]) λ g n=>B3 g ((Op.ao 8) [n] H6) λ g p=>B3 g ((Op.fieldAddr 3) [a]) λ g q=>aZ g ((Op.store 8) [q,p] H6) λ g u_2 H7=>B3 g ((Op.ao 11) [a] H7) λ g r=>aZ g ((Op.buildSlice qo 1 [(.int .i64 0),(.int .i64 0),(.int .i64 0),(.int .u64 0),(.int .u64 0),(.int .u64 0),(.int .u64 0),(.int .u64 0),(.int .u64 0),(.int .u64 0),(.int .u64 0)] [(0,11)]) [r]) λ g o8 k8=>aw g Q .ret ((4,(k8 H7.next))::(5,a)::E) D (H7.alloc o8)):=by (repeat' apply And.intro)<;>(intro _ _ _ _;refine aF ?_;kernel_rfl)
theorem quy:(aj Try.prog).func AH=some MS/\MS.results=[.tmp 4]:=xw (by kernel_rfl)
theorem quz (h:W M ⟨none,AH⟩ (DW 0) true (aL M [.tmp 4] Q) [(0,a0),(1,a1)] [] H):kt M AH [a0,a1] H Q:=aG (by decide) quy (ks:=qm2) (by kernel_rfl) h
def NC:aq:=funcAt Try.prog vv
def qhs:Kp:=⟨[0,1,4],false,[0]⟩
def qht (k:Nat):Kp × ah:=(qhs,part NC.body k)
theorem qos (M:aM) (c:Ctx):(WE M c (qht 0) λ Q E D H=>Lz E 0 λ g a=>Ly g E 1 λ g b=>C3 M g (.func Cx) [a,b] H λ g d H1=>Bn g .geq d (.int .i64 0) λ g e=>aw g Q .ret ((4,e)::(4,(.bool false))::E) D H1):=by intro _ _ _ _;refine aF ?_;kernel_rfl
theorem qoq:(aj Try.prog).func vv=some NC/\NC.results=[.tmp 4]:=xw (by kernel_rfl)
theorem qor (h:W M ⟨none,vv⟩ (qht 0) true (aL M [.tmp 4] Q) [(0,a0),(1,a1)] [] H):kt M vv [a0,a1] H Q:=aG (by decide) qoq (ks:=qhs) (by kernel_rfl) h
def Mw:aq:=funcAt Try.prog vd
def qgv:Kp:=⟨[0,1,4,5,7,8],false,[0,2,7,13,24,25]⟩
def jc (k:Nat):Kp × ah:=(qgv,part Mw.body k)
theorem qnd (M:aM) (c:Ctx):(WE M c (jc 0) λ Q E D H=>W M c (jc 2) true Q ((4,(.int .i64 0))::E) D H) /\
 (WE M c (jc 2) λ Q E D H=>Lz E 0 λ g a=>B3 g (Op.bP [a]) λ g b=>bq (W M c (jc 7)) (aI 0 (ak (W M c (jc 25)) Q)) ((8,(.int .i64 0))::(7,b)::E) D H) /\
 (WE M c (jc 25) λ Q E D H=>aw true Q .ret ((4,(.int .i64 (-1)))::E) D H) /\
 (WE M c (jc 7) λ Q E D H=>Lz E 8 λ g a=>Ly g E 7 λ g b=>Cb g .lss a b (λ g=>Gt g M c (jc 13) Q E D H) (λ g=>aw g (ak (W M c (jc 13)) Q) (.exit 0) E D H)) /\
 (WE M c (jc 13) λ Q E D H=>Lz E 8 λ g a=>Ly g E 1 λ g e=>Ly g E 0 λ g h=>Xl g h a H λ g b=>V3 g [e,b] λ g f vs=>C3 M g f vs H λ g d H1=>br g d (λ g=>aw g (aI 1 (ak (W M c (jc 24)) Q)) .ret ((4,a)::(5,a)::E) D H1) (λ g=>aw g (aI 1 (ak (W M c (jc 24)) Q)) .normal ((5,a)::E) D H1)) /\
 (WE M c (jc 24) λ Q E D H=>Lz E 8 λ g b=>Bn g .add b (.int .i64 1) λ g a=>aw g Q .normal ((8,a)::E) D H):=by (repeat' apply And.intro)<;>(intro _ _ _ _;refine aF ?_;kernel_rfl)
theorem qnb:(aj Try.prog).func vd=some Mw/\Mw.results=[.tmp 4]:=xw (by kernel_rfl)
theorem qnc (h:W M ⟨none,vd⟩ (jc 0) true (aL M [.tmp 4] Q) [(0,a0),(1,a1)] [] H):kt M vd [a0,a1] H Q:=aG (by decide) qnb (ks:=qgv) (by kernel_rfl) h
def N1:aq:=funcAt Try.prog Cx
def qj5:Kp:=⟨[0,1,4,5,7,8],false,[0,2,7,13,24,25]⟩
def jt (k:Nat):Kp × ah:=(qj5,part N1.body k)
theorem qr3 (M:aM) (c:Ctx):(WE M c (jt 0) λ Q E D H=>W M c (jt 2) true Q ((4,(.int .i64 0))::E) D H) /\
 (WE M c (jt 2) λ Q E D H=>Lz E 0 λ g a=>B3 g (Op.bP [a]) λ g b=>bq (W M c (jt 7)) (aI 0 (ak (W M c (jt 25)) Q)) ((8,(.int .i64 0))::(7,b)::E) D H) /\
 (WE M c (jt 25) λ Q E D H=>aw true Q .ret ((4,(.int .i64 (-1)))::E) D H) /\
 (WE M c (jt 7) λ Q E D H=>Lz E 8 λ g a=>Ly g E 7 λ g b=>Cb g .lss a b (λ g=>Gt g M c (jt 13) Q E D H) (λ g=>aw g (ak (W M c (jt 13)) Q) (.exit 0) E D H)) /\
 (WE M c (jt 13) λ Q E D H=>Lz E 8 λ g a=>Ly g E 1 λ g d=>Ly g E 0 λ g e=>Xl g e a H λ g b=>Cb g .eql d b (λ g=>aw g (aI 1 (ak (W M c (jt 24)) Q)) .ret ((4,a)::(5,a)::E) D H) (λ g=>aw g (aI 1 (ak (W M c (jt 24)) Q)) .normal ((5,a)::E) D H)) /\
 (WE M c (jt 24) λ Q E D H=>Lz E 8 λ g b=>Bn g .add b (.int .i64 1) λ g a=>aw g Q .normal ((8,a)::E) D H):=by (repeat' apply And.intro)<;>(intro _ _ _ _;refine aF ?_;kernel_rfl)
theorem qr1:(aj Try.prog).func Cx=some N1/\N1.results=[.tmp 4]:=xw (by kernel_rfl)
theorem qr2 (h:W M ⟨none,Cx⟩ (jt 0) true (aL M [.tmp 4] Q) [(0,a0),(1,a1)] [] H):kt M Cx [a0,a1] H Q:=aG (by decide) qr1 (ks:=qj5) (by kernel_rfl) h
end
end Go.Am
namespace Go.Am
abbrev yz:Nat:=60
abbrev D4:Nat:=101
abbrev qz8:Nat:=91
abbrev Dc:Nat:=100
abbrev zA:Nat:=94
abbrev wL:Nat:=96
abbrev xS:Nat:=98
abbrev DK:Nat:=90
abbrev Dw:Nat:=115
abbrev yf:Nat:=124
abbrev vq:Nat:=95
abbrev AZ:Nat:=113
abbrev EI:Nat:=99
abbrev Bf:Nat:=97
abbrev Bz:Nat:=116
abbrev CR:Nat:=112
abbrev ku:Nat:=125
abbrev FX:Nat:=117
abbrev ky:Nat:=114
abbrev kv:Nat:=123
abbrev jE:Nat:=32
abbrev lY:Nat:=97
abbrev IM:Nat:=169
abbrev DJ:Nat:=171
abbrev FO:Nat:=174
abbrev JU:Nat:=200
noncomputable section
open Go.Proofs Go.Proofs.Ytiibohocdbaekaa
variable {M:aM} [MK M] {H:AHeap} {Q:bu->AHeap->Prop} {a0 a1 a2:AV}
def Kv:aq:=funcAt Try.prog DK
def q2r:Kp:=⟨[0,1,4,5,6,7,8,9,35,36],false,[0,4,12,14,19,25,30,31]⟩
def m6 (k:Nat):Kp × ah:=(q2r,part Kv.body k)
theorem q9y (M:aM) (c:Ctx):(WE M c (m6 0) λ Q E D H=>Lz E 0 λ g e=>C3 M g (.func CR) [e] H λ g a H1=>B3 g ((Op.extract 0) [a]) λ g b=>B3 g ((Op.extract 1) [a]) λ g d=>W M c (m6 4) g Q ((7,d)::(6,b)::(5,(.int .i64 0))::(4,.nilp)::E) D H1) /\
 (WE M c (m6 4) λ Q E D H=>Lz E 7 λ g m=>Bn g .neq m (.int .i64 0) λ g e=>JN (λ (k:Bool->AV->AV->AHeap->Prop)=>B3 g (aA false (some e)) λ g w=>cd g w (λ g=>Ly g E 1 λ g h=>Bn g .lss h (.int .i64 1) λ g i=>k g i h H) (λ g=>k g uu uu H)) (λ g b _ H1=>B3 g (Op.pick [e,(.bool true),b]) λ g f=>JN (λ (k:Bool->AV->AV->AHeap->Prop)=>B3 g (aA false (some f)) λ g w=>cd g w (λ g=>Ly g E 1 λ g a=>Bn g .gtr a (.int .i64 4) λ g j=>k g j a H1) (λ g=>k g uu uu H1)) (λ g d _ H2=>B3 g (Op.pick [f,(.bool true),d]) λ g l=>br g l (λ g=>aw g (ak (W M c (m6 12)) Q) .ret ((5,(.int .i64 2))::(4,.nilp)::E) D H2) (λ g=>Gt g M c (m6 12) Q E D H2)))) /\
 (WE M c (m6 12) λ Q E D H=>Lz E 6 λ g e=>Ly g E 1 λ g f=>Ly g E 0 λ g a=>aZ g ((Op.mkSlice FO 144 [(.int .i64 0),(.int .u8 0),(.int .i64 0),(.int .i64 0),(.int .i64 0),(.int .u64 0),(.int .u64 0),(.int .u64 0),(.int .u64 0),(.int .u64 0),(.int .u64 0),(.int .u64 0),(.int .u64 0),(.int .i64 0),(.int .u8 0),.nils]) [a,a]) λ g o1 k1=>B3 g ((Op.build [.nilp,(.int .i64 0),.nils] [(0,1),(1,1),(2,1)]) [e,f,(k1 H.next)]) λ g b=>A3 g IM (AV.cells b) (H.alloc o1) λ g d H2=>W M c (m6 14) g Q ((8,d)::E) D H2) /\
 (WE M c (m6 14) λ Q E D H=>Lz E 8 λ g d=>Nf g 2 d H λ g a=>B3 g (Op.bP [a]) λ g b=>bq (W M c (m6 19)) (aI 0 (ak (W M c (m6 31)) Q)) ((36,(.int .i64 0))::(35,b)::E) D H) /\
 (WE M c (m6 31) λ Q E D H=>Lz E 8 λ g a=>aw g Q .ret ((5,(.int .i64 0))::(4,a)::E) D H) /\
 (WE M c (m6 19) λ Q E D H=>Lz E 36 λ g a=>Ly g E 35 λ g b=>Cb g .lss a b (λ g=>Gt g M c (m6 25) Q E D H) (λ g=>aw g (ak (W M c (m6 25)) Q) (.exit 0) E D H)) /\
 (WE M c (m6 25) λ Q E D H=>Lz E 36 λ g a=>Ly g E 8 λ g e=>Nf g 2 e H λ g b=>B3 g ((Op.aP 16) [b,a]) λ g d=>Fs g 0 d (.int .i64 (-1)) H λ g u H1=>aw g (aI 1 (ak (W M c (m6 30)) Q)) .normal ((9,a)::E) D H1) /\
 (WE M c (m6 30) λ Q E D H=>Lz E 36 λ g a=>Bn g .add a (.int .i64 1) λ g b=>aw g Q .normal ((36,b)::E) D H):=by (repeat' apply And.intro)<;>(intro _ _ _ _;refine aF ?_;kernel_rfl)
theorem q9w:(aj Try.prog).func DK=some Kv/\Kv.results=[.tmp 4,.tmp 5]:=xw (by kernel_rfl)
theorem q9x (h:W M ⟨none,DK⟩ (m6 0) true (aL M [.tmp 4,.tmp 5] Q) [(0,a0),(1,a1)] [] H):kt M DK [a0,a1] H Q:=aG (by decide) q9w (ks:=q2r) (by kernel_rfl) h
def Ky:aq:=funcAt Try.prog yz
def qps:Kp:=⟨[0,1,3,4,5,6,7,8,9,37,38],false,[0,2,10,12,20,28,32,42,45,55,61,66,71,73,79,86,99,113,119]⟩
def xj (k:Nat):Kp × ah:=(qps,part Ky.body k)
theorem qpt (M:aM) (c:Ctx):(WE M c (xj 0) λ Q E D H=>Lz E 1 λ g a=>A3 g qo (AV.cells a) H λ g b H1=>W M c (xj 2) g Q ((5,(.int .i64 0))::(4,.nils)::(3,b)::E) D H1) /\
 (WE M c (xj 2) λ Q E D H=>Lz E 0 λ g b=>B3 g ((Op.eq .ptr false) [b,.nilp] H) λ g a=>br g a (λ g=>aw g (ak (W M c (xj 10)) Q) .ret ((5,(.int .i64 1))::(4,.nils)::E) D H) (λ g=>Gt g M c (xj 10) Q E D H)) /\
 (WE M c (xj 10) λ Q E D H=>Lz E 0 λ g d=>Ly g E 3 λ g e=>Fl g 2 e H λ g a=>C3 M g (.func zA) [d,a] H λ g b H1=>W M c (xj 12) g Q ((6,b)::E) D H1) /\
 (WE M c (xj 12) λ Q E D H=>Lz E 6 λ g x=>B3 g ((Op.eq .ptr false) [x,.nilp] H) λ g d=>JN (λ (k:Bool->AV->AV->AV->AHeap->Prop)=>B3 g (aA false (some d)) λ g w=>cd g w (λ g=>Ly g E 3 λ g y=>B3 g ((Op.fieldAddr 1) [y]) λ g e=>B3 g (Op.aa [e] H) λ g f=>Bn g .lss f (.int .i64 0) λ g q=>k g q f e H) (λ g=>k g uu uu uu H)) (λ g a _ _ H1=>B3 g (Op.pick [d,(.bool true),a]) λ g h=>JN (λ (k:Bool->AV->AV->AV->AV->AV->AV->AV->AHeap->Prop)=>B3 g (aA false (some h)) λ g w=>cd g w (λ g=>Ly g E 3 λ g p=>B3 g ((Op.fieldAddr 1) [p]) λ g i=>B3 g (Op.aa [i] H1) λ g j=>Ly g E 0 λ g r=>B3 g (Op.nilCheck [r]) λ g l=>B3 g ((Op.fieldAddr 1) [l]) λ g m=>B3 g (Op.aa [m] H1) λ g n=>Bn g .geq j n λ g s=>k g s n m l r j i H1) (λ g=>k g uu uu uu uu uu uu uu H1)) (λ g b _ _ _ _ _ _ H2=>B3 g (Op.pick [h,(.bool true),b]) λ g v=>br g v (λ g=>aw g (ak (W M c (xj 20)) Q) .ret ((5,(.int .i64 2))::(4,.nils)::E) D H2) (λ g=>Gt g M c (xj 20) Q E D H2)))) /\
 (WE M c (xj 20) λ Q E D H=>Lz E 6 λ g e=>Ly g E 3 λ g f=>B3 g ((Op.ao 11) [f] H) λ g a=>C3 M g (.func vq) [e,a] H λ g b H1=>B3 g ((Op.un .not) [b]) λ g d=>br g d (λ g=>aw g (ak (W M c (xj 28)) Q) .ret ((5,(.int .i64 30))::(4,.nils)::E) D H1) (λ g=>Gt g M c (xj 28) Q E D H1)) /\
 (WE M c (xj 28) λ Q E D H=>W M c (xj 32) true Q ((8,(.bool false))::(7,.nils)::E) D H) /\
 (WE M c (xj 32) λ Q E D H=>Lz E 3 λ g e=>Fl g 0 e H λ g a=>Bn g .eql a (.int .i64 1) λ g b=>br g b (λ g=>Gt g M c (xj 42) (aI 0 (ak (W M c (xj 113)) Q)) ((38,b)::(37,a)::E) D H) (λ g=>Bn g .eql a (.int .i64 2) λ g d=>Gt g M c (xj 42) (aI 0 (ak (W M c (xj 113)) Q)) ((38,d)::(38,b)::(37,a)::E) D H)) /\
 (WE M c (xj 113) λ Q E D H=>Lz E 8 λ g d=>br g d (λ g=>Ly g E 7 λ g e=>Ly g E 0 λ g f=>Ly g E 6 λ g h=>C3 M g (.func xS) [f,h] H λ g a H1=>aZ g ((Op.buildSlice qo 1 [(.int .i64 0),(.int .i64 0),(.int .i64 0),(.int .u64 0),(.int .u64 0),(.int .u64 0),(.int .u64 0),(.int .u64 0),(.int .u64 0),(.int .u64 0),(.int .u64 0)] [(0,11)]) [a]) λ g o2 k2=>aZ g ((Op.append qo 11 88) [e,(k2 H1.next)] (H1.alloc o2)) λ g b H3=>Gt g M c (xj 119) Q ((7,b)::E) D H3) (λ g=>Gt g M c (xj 119) Q E D H)) /\
 (WE M c (xj 42) λ Q E D H=>Lz E 38 λ g a=>br g a (λ g=>B3 g ((Op.build [(.int .u64 0),(.int .u64 0),(.int .u64 0),(.int .u64 0),(.int .u64 0),(.int .u64 0),(.int .u64 0),(.int .u64 0)] []) []) λ g b=>Ly g E 3 λ g f=>B3 g ((Op.fieldAddr 3) [f]) λ g d=>aZ g ((Op.store 8) [d,b] H) λ g u H1=>W M c (xj 45) g Q E D H1) (λ g=>Ly g E 37 λ g e=>Cb g .eql e (.int .i64 4) (λ g=>W M c (xj 61) g Q E D H) (λ g=>W M c (xj 66) g Q E D H))) /\
 (WE M c (xj 119) λ Q E D H=>Lz E 7 λ g a=>aw g Q .ret ((5,(.int .i64 0))::(4,a)::E) D H) /\
 (WE M c (xj 45) λ Q E D H=>Lz E 6 λ g h=>Nf g 13 h H λ g b=>Cb g .neq b (.int .i64 0) (λ g=>Ly g E 6 λ g a=>Nf g 15 a H λ g d=>Ly g E 3 λ g i=>B3 g ((Op.ao 11) [i] H) λ g e=>aZ g ((Op.buildSlice qo 1 [(.int .i64 0),(.int .i64 0),(.int .i64 0),(.int .u64 0),(.int .u64 0),(.int .u64 0),(.int .u64 0),(.int .u64 0),(.int .u64 0),(.int .u64 0),(.int .u64 0)] [(0,11)]) [e]) λ g o1 k1=>aZ g ((Op.append qo 11 88) [d,(k1 H.next)] (H.alloc o1)) λ g f H2=>Ns g 15 a f H2 λ g u H3=>aw g (ak (W M c (xj 55)) Q) .ret ((5,(.int .i64 0))::(4,.nils)::E) D H3) (λ g=>Gt g M c (xj 55) Q E D H)) /\
 (WE M c (xj 61) λ Q E D H=>Lz E 6 λ g e=>Nf g 1 e H λ g f=>Ly g E 3 λ g s=>Fl g 1 s H λ g h=>Bn g .shl (.int .u8 1) h λ g i=>Bn g .andNot f i λ g j=>Ns g 1 e j H λ g u H1=>Ly g E 6 λ g a=>Nf g 14 a H1 λ g l=>Ly g E 3 λ g b=>Fl g 1 b H1 λ g m=>Bn g .shl (.int .u8 1) m λ g n=>Bn g .andNot l n λ g p=>Ns g 14 a p H1 λ g u_1 H2=>Ly g E 6 λ g d=>Nf g 14 d H2 λ g q=>Bn g .eql q (.int .u8 0) λ g r=>aw g Q .normal ((8,r)::E) D H2) /\
 (WE M c (xj 66) λ Q E D H=>Lz E 37 λ g f=>Cb g .eql f (.int .i64 5) (λ g=>Ly g E 0 λ g n=>Nf g 0 n H λ g h=>Ly g E 3 λ g i=>Fl g 2 i H λ g j=>B3 g ((Op.fieldAddr 3) [i]) λ g l=>B3 g ((Op.ao 8) [l] H) λ g m=>C3 M g (.func Bf) [h,j,m] H λ g _ H1=>W M c (xj 71) g Q E D H1) (λ g=>Ly g E 37 λ g a=>Cb g .eql a (.int .i64 6) (λ g=>Ly g E 6 λ g p=>Ns g 13 p (.int .i64 3) H λ g u H1=>Ly g E 6 λ g b=>Nf g 0 b H1 λ g d=>Bn g .lss d (.int .i64 0) λ g e=>aw g Q .normal ((8,e)::E) D H1) (λ g=>W M c (xj 86) g Q E D H))) /\
 (WE M c (xj 55) λ Q E D H=>Lz E 0 λ g d=>Ly g E 6 λ g e=>Ly g E 3 λ g f=>B3 g ((Op.ao 11) [f] H) λ g a=>C3 M g (.func wL) [d,e,a] H λ g b H1=>aw g Q .ret ((5,(.int .i64 0))::(4,b)::E) D H1) /\
 (WE M c (xj 71) λ Q E D H=>Lz E 6 λ g a=>Ns g 0 a (.int .i64 (-1)) H λ g u H1=>W M c (xj 73) g Q E D H1) /\
 (WE M c (xj 86) λ Q E D H=>Lz E 37 λ g r=>Cb g .eql r (.int .i64 3) (λ g=>Ly g E 0 λ g v=>Nf g 0 v H λ g d=>Ly g E 3 λ g s=>Fl g 2 s H λ g e=>B3 g ((Op.fieldAddr 3) [s]) λ g f=>B3 g ((Op.ao 8) [f] H) λ g h=>C3 M g (.func Bf) [d,e,h] H λ g _ H1=>Ly g E 6 λ g x=>Ns g 0 x (.int .i64 (-1)) H1 λ g u H2=>Ly g E 7 λ g y=>Ly g E 3 λ g a=>Fl g 1 a H2 λ g i=>Fl g 2 a H2 λ g j=>B3 g ((Op.build [(.int .i64 0),(.int .i64 0),(.int .i64 0),(.int .u64 0),(.int .u64 0),(.int .u64 0),(.int .u64 0),(.int .u64 0),(.int .u64 0),(.int .u64 0),(.int .u64 0)] [(0,1),(1,1),(2,1)]) [(.int .i64 16),i,j]) λ g l=>aZ g ((Op.buildSlice qo 1 [(.int .i64 0),(.int .i64 0),(.int .i64 0),(.int .u64 0),(.int .u64 0),(.int .u64 0),(.int .u64 0),(.int .u64 0),(.int .u64 0),(.int .u64 0),(.int .u64 0)] [(0,11)]) [l]) λ g o3 k3=>aZ g ((Op.append qo 11 88) [y,(k3 H2.next)] (H2.alloc o3)) λ g m H4=>Ly g E 6 λ g n=>Nf g 13 n H4 λ g p=>Bn g .eql p (.int .i64 3) λ g q=>aw g Q .normal ((8,q)::(7,m)::E) D H4) (λ g=>Ly g E 37 λ g b=>Cb g .eql b (.int .i64 7) (λ g=>W M c (xj 99) g Q E D H) (λ g=>aw g Q .normal E D H))) /\
 (WE M c (xj 73) λ Q E D H=>Lz E 6 λ g l=>B3 g (Op.nilCheck [l]) λ g b=>B3 g ((Op.fieldAddr 2) [b]) λ g d=>Fl g 0 d H λ g e=>Cb g .eql e (.int .i64 1) (λ g=>Ly g E 6 λ g a=>Nf g 1 a H λ g f=>Ly g E 3 λ g m=>Fl g 1 m H λ g h=>Bn g .shl (.int .u8 1) h λ g i=>Bn g .or f i λ g j=>Ns g 1 a j H λ g u H1=>Gt g M c (xj 79) Q E D H1) (λ g=>Gt g M c (xj 79) Q E D H)) /\
 (WE M c (xj 99) λ Q E D H=>Lz E 6 λ g y=>B3 g ((Op.build [(.int .i64 0),(.int .i64 0),(.int .i64 0),(.int .u64 0),(.int .u64 0),(.int .u64 0),(.int .u64 0),(.int .u64 0),(.int .u64 0),(.int .u64 0),(.int .u64 0)] []) []) λ g b=>Ns g 13 y (.int .i64 0) H λ g u H1=>B3 g (Op.nilCheck [y]) λ g d=>B3 g ((Op.fieldAddr 2) [d]) λ g e=>aZ g ((Op.store 11) [e,b] H1) λ g u_1 H2=>Ly g E 6 λ g f=>Nf g 15 f H2 λ g h=>B3 g (Op.bP [h]) λ g i=>Cb g .gtr i (.int .i64 0) (λ g=>Ly g E 6 λ g j=>Nf g 15 j H2 λ g l=>B3 g ((Op.aP 11) [l,(.int .i64 0)]) λ g m=>B3 g ((Op.ao 11) [m] H2) λ g n=>A3 g qo [(.int .i64 0),(.int .i64 0),(.int .i64 0),(.int .u64 0),(.int .u64 0),(.int .u64 0),(.int .u64 0),(.int .u64 0),(.int .u64 0),(.int .u64 0),(.int .u64 0)] H2 λ g p H3=>aZ g ((Op.store 11) [p,n] H3) λ g u_2 H4=>Ly g E 6 λ g a=>Nf g 15 a H4 λ g q=>B3 g ((Op.aR 11 [(some 0),none,none]) [q,(.int .i64 1)]) λ g r=>Ns g 15 a r H4 λ g u_3 H5=>Ly g E 0 λ g z=>Ly g E 6 λ g s=>B3 g ((Op.ao 11) [p] H5) λ g v=>C3 M g (.func wL) [z,s,v] H5 λ g x H6=>aw g Q .ret ((5,(.int .i64 0))::(4,x)::(9,p)::E) D H6) (λ g=>aw g Q .normal E D H2)) /\
 (WE M c (xj 79) λ Q E D H=>aw true Q .normal ((8,(.bool true))::E) D H):=by (repeat' apply And.intro)<;>(intro _ _ _ _;refine aF ?_;kernel_rfl)
theorem qym:(aj Try.prog).func yz=some Ky/\Ky.results=[.tmp 4,.tmp 5]:=xw (by kernel_rfl)
theorem qyn (h:W M ⟨none,yz⟩ (xj 0) true (aL M [.tmp 4,.tmp 5] Q) [(0,a0),(1,a1)] [] H):kt M yz [a0,a1] H Q:=aG (by decide) qym (ks:=qps) (by kernel_rfl) h
def K4:aq:=funcAt Try.prog D4
def qnu:Kp:=⟨[0,1,4,5],false,[0,2,12]⟩
def EE (k:Nat):Kp × ah:=(qnu,part K4.body k)
theorem qv5 (M:aM) (c:Ctx):(WE M c (EE 0) λ Q E D H=>W M c (EE 2) true Q ((4,(.int .i64 0))::E) D H) /\
 (WE M c (EE 2) λ Q E D H=>Lz E 0 λ g e=>Ly g E 1 λ g f=>C3 M g (.func zA) [e,f] H λ g a H1=>B3 g ((Op.eq .ptr true) [a,.nilp] H1) λ g b=>br g b (λ g=>Nf g 0 a H1 λ g d=>aw g (ak (W M c (EE 12)) Q) .ret ((4,d)::(5,a)::E) D H1) (λ g=>Gt g M c (EE 12) Q ((5,a)::E) D H1)) /\
 (WE M c (EE 12) λ Q E D H=>aw true Q .ret ((4,(.int .i64 (-1)))::E) D H):=by (repeat' apply And.intro)<;>(intro _ _ _ _;refine aF ?_;kernel_rfl)
theorem qv3:(aj Try.prog).func D4=some K4/\K4.results=[.tmp 4]:=xw (by kernel_rfl)
theorem qv4 (h:W M ⟨none,D4⟩ (EE 0) true (aL M [.tmp 4] Q) [(0,a0),(1,a1)] [] H):kt M D4 [a0,a1] H Q:=aG (by decide) qv3 (ks:=qnu) (by kernel_rfl) h
def Ms:aq:=funcAt Try.prog Dc
def qk0:Kp:=⟨[0,1,4,5],false,[0,2,12]⟩
def Dr (k:Nat):Kp × ah:=(qk0,part Ms.body k)
theorem qsm (M:aM) (c:Ctx):(WE M c (Dr 0) λ Q E D H=>W M c (Dr 2) true Q ((4,.nils)::E) D H) /\
 (WE M c (Dr 2) λ Q E D H=>Lz E 0 λ g h=>Ly g E 1 λ g i=>C3 M g (.func zA) [h,i] H λ g a H1=>B3 g ((Op.eq .ptr true) [a,.nilp] H1) λ g b=>br g b (λ g=>Nf g 1 a H1 λ g d=>C3 M g (.func Dw) [d] H1 λ g e H2=>C3 M g (.func FX) [e] H2 λ g f H3=>aw g (ak (W M c (Dr 12)) Q) .ret ((4,f)::(5,a)::E) D H3) (λ g=>Gt g M c (Dr 12) Q ((5,a)::E) D H1)) /\
 (WE M c (Dr 12) λ Q E D H=>aw true Q .ret ((4,.nils)::E) D H):=by (repeat' apply And.intro)<;>(intro _ _ _ _;refine aF ?_;kernel_rfl)
theorem qsk:(aj Try.prog).func Dc=some Ms/\Ms.results=[.tmp 4]:=xw (by kernel_rfl)
theorem qsl (h:W M ⟨none,Dc⟩ (Dr 0) true (aL M [.tmp 4] Q) [(0,a0),(1,a1)] [] H):kt M Dc [a0,a1] H Q:=aG (by decide) qsk (ks:=qk0) (by kernel_rfl) h
def Kd:aq:=funcAt Try.prog CR
def q3j:Kp:=⟨[0,2,3],false,[0,2,10]⟩
def Es (k:Nat):Kp × ah:=(q3j,part Kd.body k)
theorem xaw (M:aM) (c:Ctx):(WE M c (Es 0) λ Q E D H=>W M c (Es 2) true Q ((3,(.int .i64 0))::(2,.nilp)::E) D H) /\
 (WE M c (Es 2) λ Q E D H=>Lz E 0 λ g a=>Bn g .lss a (.int .i64 2) λ g d=>JN (λ (k:Bool->AV->AV->AHeap->Prop)=>B3 g (aA false (some d)) λ g w=>cd g w (λ g=>Bn g .gtr a (.int .i64 64) λ g e=>k g e a H) (λ g=>k g uu uu H)) (λ g b _ H1=>B3 g (Op.pick [d,(.bool true),b]) λ g f=>br g f (λ g=>aw g (ak (W M c (Es 10)) Q) .ret ((3,(.int .i64 2))::(2,.nilp)::E) D H1) (λ g=>Gt g M c (Es 10) Q E D H1))) /\
 (WE M c (Es 10) λ Q E D H=>Lz E 0 λ g a=>aZ g ((Op.mkSlice jf 64 [(.int .u64 0),(.int .u64 0),(.int .u64 0),(.int .u64 0),(.int .u64 0),(.int .u64 0),(.int .u64 0),(.int .u64 0)]) [a,a]) λ g o1 k1=>B3 g ((Op.build [.nils] [(0,1)]) [(k1 H.next)]) λ g b=>A3 g JU (AV.cells b) (H.alloc o1) λ g d H2=>aw g Q .ret ((3,(.int .i64 0))::(2,d)::E) D H2):=by (repeat' apply And.intro)<;>(intro _ _ _ _;refine aF ?_;kernel_rfl)
theorem xau:(aj Try.prog).func CR=some Kd/\Kd.results=[.tmp 2,.tmp 3]:=xw (by kernel_rfl)
theorem xav (h:W M ⟨none,CR⟩ (Es 0) true (aL M [.tmp 2,.tmp 3] Q) [(0,a0)] [] H):kt M CR [a0] H Q:=aG (by decide) xau (ks:=q3j) (by kernel_rfl) h
def Mt:aq:=funcAt Try.prog zA
def qtp:Kp:=⟨[0,1,4],false,[0,2,10]⟩
def DE (k:Nat):Kp × ah:=(qtp,part Mt.body k)
theorem q2q (M:aM) (c:Ctx):(WE M c (DE 0) λ Q E D H=>W M c (DE 2) true Q ((4,.nilp)::E) D H) /\
 (WE M c (DE 2) λ Q E D H=>Lz E 0 λ g j=>B3 g ((Op.eq .ptr false) [j,.nilp] H) λ g m=>JN (λ (k:Bool->AV->AV->AHeap->Prop)=>B3 g (aA false (some m)) λ g w=>cd g w (λ g=>Ly g E 1 λ g n=>Bn g .lss n (.int .i64 0) λ g r=>k g r n H) (λ g=>k g uu uu H)) (λ g l _ H1=>B3 g (Op.pick [m,(.bool true),l]) λ g d=>JN (λ (k:Bool->AV->AV->AV->AV->AV->AV->AV->AHeap->Prop)=>B3 g (aA false (some d)) λ g w=>cd g w (λ g=>Ly g E 1 λ g a=>B3 g (Op.nilCheck [j]) λ g e=>B3 g ((Op.fieldAddr 2) [e]) λ g f=>B3 g (Op.aa [f] H1) λ g h=>B3 g (Op.bP [h]) λ g i=>Bn g .geq a i λ g p=>k g p i h f e j a H1) (λ g=>k g uu uu uu uu uu uu uu H1)) (λ g b _ _ _ _ _ _ H2=>B3 g (Op.pick [d,(.bool true),b]) λ g q=>br g q (λ g=>aw g (ak (W M c (DE 10)) Q) .ret ((4,.nilp)::E) D H2) (λ g=>Gt g M c (DE 10) Q E D H2)))) /\
 (WE M c (DE 10) λ Q E D H=>Lz E 0 λ g d=>Nf g 2 d H λ g a=>Ly g E 1 λ g e=>B3 g ((Op.aP 16) [a,e]) λ g b=>aw g Q .ret ((4,b)::E) D H):=by (repeat' apply And.intro)<;>(intro _ _ _ _;refine aF ?_;kernel_rfl)
theorem q2o:(aj Try.prog).func zA=some Mt/\Mt.results=[.tmp 4]:=xw (by kernel_rfl)
theorem q2p (h:W M ⟨none,zA⟩ (DE 0) true (aL M [.tmp 4] Q) [(0,a0),(1,a1)] [] H):kt M zA [a0,a1] H Q:=aG (by decide) q2o (ks:=qtp) (by kernel_rfl) h
def KC:aq:=funcAt Try.prog vq
def qnz:Kp:=⟨[0,1,3,4,5,6,9,10],false,[0,4,14,17,26,38,51]⟩
def jg (k:Nat):Kp × ah:=(qnz,part KC.body k)
theorem qwd (M:aM) (c:Ctx):(WE M c (jg 0) λ Q E D H=>Lz E 1 λ g b=>A3 g qo (AV.cells b) H λ g a H1=>B3 g ((Op.cu AZ 0) [a]) λ g d=>W M c (jg 4) g Q ((5,d)::(4,(.bool false))::(3,a)::E) D H1) /\
 (WE M c (jg 4) λ Q E D H=>Lz E 3 λ g e=>Fl g 0 e H λ g b=>Bn g .eql b (.int .i64 1) λ g a=>br g a (λ g=>Gt g M c (jg 14) (aI 0 (ak (W M c (jg 51)) Q)) ((10,a)::(9,b)::E) D H) (λ g=>Bn g .eql b (.int .i64 2) λ g d=>Gt g M c (jg 14) (aI 0 (ak (W M c (jg 51)) Q)) ((10,d)::(10,a)::(9,b)::E) D H)) /\
 (WE M c (jg 51) λ Q E D H=>aw true Q .ret ((4,(.bool false))::E) D H) /\
 (WE M c (jg 14) λ Q E D H=>Lz E 10 λ g C=>br g C (λ g=>Ly g E 0 λ g a=>Nf g 13 a H λ g F=>Bn g .neq F (.int .i64 0) λ g h=>JN (λ (k:Bool->AV->AV->AV->AV->AV->AHeap->Prop)=>B3 g (aA true (some h)) λ g w=>cd g w (λ g=>B3 g (Op.nilCheck [a]) λ g i=>B3 g ((Op.fieldAddr 13) [i]) λ g j=>B3 g (Op.aa [j] H) λ g l=>Bn g .neq l (.int .i64 4) λ g G=>k g G l j i a H) (λ g=>k g uu uu uu uu uu H)) (λ g b _ _ _ _ H1=>B3 g (Op.pick [h,b,(.bool false)]) λ g m=>JN (λ (k:Bool->AV->AV->AV->AV->AV->AV->AHeap->Prop)=>B3 g (aA true (some m)) λ g w=>cd g w (λ g=>Ly g E 5 λ g I=>B3 g (Op.nilCheck [a]) λ g n=>B3 g ((Op.fieldAddr 2) [n]) λ g p=>B3 g ((Op.ao 11) [p] H1) λ g q=>V3 g [I,q] λ g f vs=>C3 M g f vs H1 λ g J H2=>k g J q p n a I H2) (λ g=>k g uu uu uu uu uu uu H1)) (λ g d _ _ _ _ _ H3=>B3 g (Op.pick [m,d,(.bool false)]) λ g L=>W M c (jg 17) g Q ((6,L)::E) D H3))) (λ g=>Ly g E 9 λ g S=>Cb g .eql S (.int .i64 4) (λ g=>Ly g E 0 λ g a=>Nf g 13 a H λ g N=>Bn g .eql N (.int .i64 1) λ g r=>JN (λ (k:Bool->AV->AV->AV->AV->AV->AV->AV->AV->AV->AHeap->Prop)=>B3 g (aA true (some r)) λ g w=>cd g w (λ g=>B3 g (Op.nilCheck [a]) λ g s=>B3 g ((Op.fieldAddr 14) [s]) λ g v=>B3 g (Op.aa [v] H) λ g x=>Ly g E 3 λ g T=>B3 g ((Op.fieldAddr 1) [T]) λ g y=>B3 g (Op.aa [y] H) λ g z=>Bn g .shl (.int .u8 1) z λ g A=>Bn g .and x A λ g B=>Bn g .neq B (.int .u8 0) λ g P=>k g P B A z y x v s a H) (λ g=>k g uu uu uu uu uu uu uu uu uu H)) (λ g e _ _ _ _ _ _ _ _ H1=>B3 g (Op.pick [r,e,(.bool false)]) λ g R=>aw g Q .ret ((4,R)::E) D H1)) (λ g=>W M c (jg 26) g Q E D H))) /\
 (WE M c (jg 17) λ Q E D H=>Lz E 6 λ g N=>B3 g ((Op.un .not) [N]) λ g b=>JN (λ (k:Bool->AV->AV->AV->AV->AV->AV->AV->AV->AHeap->Prop)=>B3 g (aA true (some b)) λ g w=>cd g w (λ g=>Ly g E 0 λ g C=>B3 g (Op.nilCheck [C]) λ g j=>B3 g ((Op.fieldAddr 0) [j]) λ g l=>B3 g (Op.aa [l] H) λ g m=>Ly g E 3 λ g P=>B3 g ((Op.fieldAddr 1) [P]) λ g n=>B3 g (Op.aa [n] H) λ g p=>Bn g .neq m p λ g q=>k g q q p n m l j C H) (λ g=>k g uu uu uu uu uu uu uu uu H)) (λ g a _ _ _ _ _ _ _ H1=>JN (λ (k:Bool->AV->AV->AV->AV->AV->AHeap->Prop)=>B3 g (aA false (some a)) λ g w=>cd g w (λ g=>Ly g E 0 λ g d=>B3 g (Op.nilCheck [d]) λ g r=>B3 g ((Op.fieldAddr 13) [r]) λ g s=>B3 g (Op.aa [s] H1) λ g v=>Bn g .eql v (.int .i64 2) λ g F=>k g F v s r d H1) (λ g=>k g uu uu uu uu uu H1)) (λ g f _ _ _ _ H2=>JN (λ (k:Bool->AV->AHeap->Prop)=>B3 g (aA true (some b)) λ g w=>cd g w (λ g=>B3 g (Op.pick [a,(.bool true),f]) λ g G=>k g G H2) (λ g=>k g uu H2)) (λ g h H3=>B3 g (Op.pick [b,h,(.bool false)]) λ g x=>JN (λ (k:Bool->AV->AV->AV->AV->AV->AV->AV->AHeap->Prop)=>B3 g (aA true (some x)) λ g w=>cd g w (λ g=>Ly g E 0 λ g e=>B3 g (Op.nilCheck [e]) λ g y=>B3 g ((Op.fieldAddr 15) [y]) λ g z=>B3 g (Op.aa [z] H3) λ g A=>Ly g E 5 λ g I=>C3 M g (.func ky) [A,I] H3 λ g B H4=>B3 g ((Op.un .not) [B]) λ g J=>k g J B I A z y e H4) (λ g=>k g uu uu uu uu uu uu uu H3)) (λ g i _ _ _ _ _ _ H5=>B3 g (Op.pick [x,i,(.bool false)]) λ g L=>aw g Q .ret ((4,L)::E) D H5))))) /\
 (WE M c (jg 26) λ Q E D H=>Lz E 9 λ g J=>Cb g .eql J (.int .i64 5) (λ g=>Ly g E 0 λ g a=>Nf g 13 a H λ g C=>Bn g .eql C (.int .i64 2) λ g p=>JN (λ (k:Bool->AV->AV->AV->AV->AV->AV->AV->AHeap->Prop)=>B3 g (aA true (some p)) λ g w=>cd g w (λ g=>B3 g (Op.nilCheck [a]) λ g q=>B3 g ((Op.fieldAddr 0) [q]) λ g r=>B3 g (Op.aa [r] H) λ g s=>Ly g E 3 λ g y=>B3 g ((Op.fieldAddr 1) [y]) λ g v=>B3 g (Op.aa [v] H) λ g x=>Bn g .eql s x λ g F=>k g F x v s r q a H) (λ g=>k g uu uu uu uu uu uu uu H)) (λ g n _ _ _ _ _ _ H1=>B3 g (Op.pick [p,n,(.bool false)]) λ g G=>aw g Q .ret ((4,G)::E) D H1)) (λ g=>Ly g E 9 λ g z=>Cb g .eql z (.int .i64 6) (λ g=>Ly g E 0 λ g a=>Nf g 13 a H λ g I=>Bn g .eql I (.int .i64 2) λ g b=>JN (λ (k:Bool->AV->AV->AV->AV->AV->AV->AV->AV->AV->AHeap->Prop)=>B3 g (aA true (some b)) λ g w=>cd g w (λ g=>B3 g (Op.nilCheck [a]) λ g d=>B3 g ((Op.fieldAddr 14) [d]) λ g e=>B3 g (Op.aa [e] H) λ g f=>Ly g E 3 λ g y=>B3 g ((Op.fieldAddr 1) [y]) λ g h=>B3 g (Op.aa [h] H) λ g i=>Bn g .shl (.int .u8 1) i λ g j=>Bn g .and f j λ g l=>Bn g .neq l (.int .u8 0) λ g A=>k g A l j i h f e d a H) (λ g=>k g uu uu uu uu uu uu uu uu uu H)) (λ g m _ _ _ _ _ _ _ _ H1=>B3 g (Op.pick [b,m,(.bool false)]) λ g B=>aw g Q .ret ((4,B)::E) D H1)) (λ g=>W M c (jg 38) g Q E D H))) /\
 (WE M c (jg 38) λ Q E D H=>Lz E 9 λ g v=>Cb g .eql v (.int .i64 3) (λ g=>Ly g E 0 λ g a=>Nf g 0 a H λ g j=>Ly g E 3 λ g x=>Fl g 1 x H λ g l=>Bn g .eql j l λ g m=>aw g Q .ret ((4,m)::E) D H) (λ g=>Ly g E 9 λ g n=>Cb g .eql n (.int .i64 7) (λ g=>Ly g E 0 λ g a=>Nf g 13 a H λ g p=>Bn g .eql p (.int .i64 4) λ g b=>JN (λ (k:Bool->AV->AV->AV->AV->AV->AV->AHeap->Prop)=>B3 g (aA true (some b)) λ g w=>cd g w (λ g=>Ly g E 5 λ g s=>B3 g (Op.nilCheck [a]) λ g d=>B3 g ((Op.fieldAddr 2) [d]) λ g e=>B3 g ((Op.ao 11) [e] H) λ g h=>V3 g [s,h] λ g f vs=>C3 M g f vs H λ g q H1=>k g q h e d a s H1) (λ g=>k g uu uu uu uu uu uu H)) (λ g i _ _ _ _ _ H2=>B3 g (Op.pick [b,i,(.bool false)]) λ g r=>aw g Q .ret ((4,r)::E) D H2)) (λ g=>aw g Q .normal E D H))):=by (repeat' apply And.intro)<;>(intro _ _ _ _;refine aF ?_;kernel_rfl)
theorem qwb:(aj Try.prog).func vq=some KC/\KC.results=[.tmp 4]:=xw (by kernel_rfl)
theorem qwc (h:W M ⟨none,vq⟩ (jg 0) true (aL M [.tmp 4] Q) [(0,a0),(1,a1)] [] H):kt M vq [a0,a1] H Q:=aG (by decide) qwb (ks:=qnz) (by kernel_rfl) h
def Eu:aq:=funcAt Try.prog wL
def EH:Kp:=⟨[0,1,2,5,6,7,8,9,74,75],false,[0,4,10,12,18,22,24,32,36,41]⟩
def ja (k:Nat):Kp × ah:=(EH,part Eu.body k)
def Ce:dq:=i5 Eu 0
def qmn (k:Nat):Kp × ah:=(⟨EH.ae,EH.cj,[0]⟩,part Ce.assign k)
def qmo (k:Nat):Kp × ah:=(⟨EH.ae,EH.cj,[0]⟩,part Ce.body k)
theorem qk1:nth Eu.loops 0=some Ce/\Ce.params=[75]:=⟨by kernel_rfl,by kernel_rfl⟩
theorem qnx (M:aM) (c:Ctx):(WE M c (ja 0) λ Q E D H=>Lz E 2 λ g f=>A3 g qo (AV.cells f) H λ g a H1=>Ly g E 1 λ g h=>B3 g ((Op.ao 11) [a] H1) λ g b=>B3 g (Op.nilCheck [h]) λ g d=>B3 g ((Op.fieldAddr 2) [d]) λ g e=>aZ g ((Op.store 11) [e,b] H1) λ g u H2=>W M c (ja 4) g Q ((6,.nils)::(5,a)::E) D H2) /\
 (WE M c (qmn 0) λ Q E D H=>Lz E 75 λ g a=>aw g Q .normal ((9,a)::E) D H) /\
 (WE M c (qmo 0) λ Q E D H=>Lz E 8 λ g a=>B3 g (Op.aa [a] H) λ g b=>Ly g E 9 λ g h=>Ly g E 5 λ g i=>Fl g 2 i H λ g d=>B3 g ((Op.build [(.int .i64 0),(.int .i64 0),(.int .i64 0),(.int .u64 0),(.int .u64 0),(.int .u64 0),(.int .u64 0),(.int .u64 0),(.int .u64 0),(.int .u64 0),(.int .u64 0)] [(0,1),(1,1),(2,1)]) [(.int .i64 11),h,d]) λ g e=>aZ g ((Op.buildSlice qo 1 [(.int .i64 0),(.int .i64 0),(.int .i64 0),(.int .u64 0),(.int .u64 0),(.int .u64 0),(.int .u64 0),(.int .u64 0),(.int .u64 0),(.int .u64 0),(.int .u64 0)] [(0,11)]) [e]) λ g o1 k1=>aZ g ((Op.append qo 11 88) [b,(k1 H.next)] (H.alloc o1)) λ g f H2=>aZ g ((Op.store 1) [a,f] H2) λ g u H3=>aw g (aI 1 Q) .normal E D H3) /\
 (WE M c (ja 4) λ Q E D H=>Lz E 1 λ g f=>Nf g 0 f H λ g b=>Cb g .geq b (.int .i64 0) (λ g=>Ly g E 1 λ g a=>Nf g 0 a H λ g d=>Bn g .shl (.int .u8 1) d λ g e=>Ns g 13 a (.int .i64 2) H λ g u H1=>Ns g 14 a e H1 λ g u_1 H2=>W M c (ja 10) g (ak (W M c (ja 22)) Q) E D H2) (λ g=>Gt g M c (ja 22) Q E D H)) /\
 (WE M c (ja 22) λ Q E D H=>Lz E 1 λ g a=>Nf g 1 a H λ g b=>Ly g E 5 λ g h=>Fl g 1 h H λ g d=>Bn g .shl (.int .u8 1) d λ g e=>Bn g .andNot b e λ g f=>Ns g 14 a f H λ g u H1=>W M c (ja 24) g Q E D H1) /\
 (WE M c (ja 10) λ Q E D H=>W M c (ja 12) true Q ((7,(.int .i64 12))::E) D H) /\
 (WE M c (ja 24) λ Q E D H=>Lz E 5 λ g p=>Fl g 0 p H λ g i=>Bn g .eql i (.int .i64 1) λ g b=>JN (λ (k:Bool->AV->AV->AV->AV->AV->AHeap->Prop)=>B3 g (aA false (some b)) λ g w=>cd g w (λ g=>Ly g E 1 λ g j=>B3 g (Op.nilCheck [j]) λ g d=>B3 g ((Op.fieldAddr 14) [d]) λ g e=>B3 g (Op.aa [e] H) λ g f=>Bn g .eql f (.int .u8 0) λ g l=>k g l f e d j H) (λ g=>k g uu uu uu uu uu H)) (λ g a _ _ _ _ H1=>B3 g (Op.pick [b,(.bool true),a]) λ g m=>br g m (λ g=>Ly g E 0 λ g q=>Ly g E 1 λ g h=>C3 M g (.func xS) [q,h] H1 λ g n H2=>aZ g ((Op.buildSlice qo 1 [(.int .i64 0),(.int .i64 0),(.int .i64 0),(.int .u64 0),(.int .u64 0),(.int .u64 0),(.int .u64 0),(.int .u64 0),(.int .u64 0),(.int .u64 0),(.int .u64 0)] [(0,11)]) [n]) λ g o3 k3=>aw g (ak (W M c (ja 32)) Q) .ret ((6,(k3 H2.next))::E) D (H2.alloc o3)) (λ g=>Gt g M c (ja 32) Q E D H1))) /\
 (WE M c (ja 12) λ Q E D H=>Lz E 5 λ g b=>Fl g 0 b H λ g a=>Cb g .eql a (.int .i64 2) (λ g=>Gt g M c (ja 18) Q ((7,(.int .i64 13))::E) D H) (λ g=>Gt g M c (ja 18) Q E D H)) /\
 (WE M c (ja 32) λ Q E D H=>Lz E 1 λ g a=>Ns g 13 a (.int .i64 1) H λ g u H1=>A3 g jE [.nils] H1 λ g b H2=>W M c (ja 36) g Q ((8,b)::E) D H2) /\
 (WE M c (ja 18) λ Q E D H=>Lz E 7 λ g e=>Ly g E 1 λ g f=>Nf g 0 f H λ g a=>Ly g E 5 λ g h=>Fl g 2 h H λ g b=>B3 g ((Op.build [(.int .i64 0),(.int .i64 0),(.int .i64 0),(.int .u64 0),(.int .u64 0),(.int .u64 0),(.int .u64 0),(.int .u64 0),(.int .u64 0),(.int .u64 0),(.int .u64 0)] [(0,1),(1,1),(2,1)]) [e,a,b]) λ g d=>aZ g ((Op.buildSlice qo 1 [(.int .i64 0),(.int .i64 0),(.int .i64 0),(.int .u64 0),(.int .u64 0),(.int .u64 0),(.int .u64 0),(.int .u64 0),(.int .u64 0),(.int .u64 0),(.int .u64 0)] [(0,11)]) [d]) λ g o1 k1=>aw g Q .ret ((6,(k1 H.next))::E) D (H.alloc o1)) /\
 (WE M c (ja 36) λ Q E D H=>Lz E 1 λ g d=>Nf g 14 d H λ g b=>C3 M g (.func Dw) [b] H λ g a H1=>eS M EH.ae c 0 ((74,a)::E) D H1 (aI 0 (ak (W M c (ja 41)) Q)) a) /\
 (WE M c (ja 41) λ Q E D H=>Lz E 8 λ g b=>B3 g (Op.aa [b] H) λ g a=>aw g Q .ret ((6,a)::E) D H):=by (repeat' apply And.intro)<;>(intro _ _ _ _;refine aF ?_;kernel_rfl)
theorem qnw:(aj Try.prog).func wL=some Eu/\Eu.results=[.tmp 6]:=xw (by kernel_rfl)
theorem qt9:M.func wL=some Eu:=MK.at (by decide) qnw.1
theorem qv6 (h:W M ⟨none,wL⟩ (ja 0) true (aL M [.tmp 6] Q) [(0,a0),(1,a1),(2,a2)] [] H):kt M wL [a0,a1,a2] H Q:=aG (by decide) qnw (ks:=EH) (by kernel_rfl) h
def Ko:aq:=funcAt Try.prog Bf
def qrm:Kp:=⟨[0,1,2,5,6,7,8],false,[0,4,10]⟩
def Dq (k:Nat):Kp × ah:=(qrm,part Ko.body k)
theorem q1f (M:aM) (c:Ctx):(WE M c (Dq 0) λ Q E D H=>Lz E 2 λ g e=>A3 g jf (AV.cells e) H λ g f H1=>Ly g E 0 λ g h=>Ly g E 1 λ g i=>C3 M g (.func Bz) [h,i] H1 λ g a H2=>B3 g ((Op.extract 0) [a]) λ g b=>B3 g ((Op.extract 1) [a]) λ g d=>W M c (Dq 4) g Q ((8,d)::(7,b)::(6,(.int .i64 0))::(5,f)::E) D H2) /\
 (WE M c (Dq 4) λ Q E D H=>Lz E 8 λ g d=>Cb g .eql d (.int .i64 0) (λ g=>Ly g E 7 λ g e=>Ly g E 5 λ g f=>B3 g ((Op.ao 8) [f] H) λ g a=>B3 g (Op.nilCheck [e]) λ g b=>aZ g ((Op.store 8) [b,a] H) λ g u H1=>Gt g M c (Dq 10) Q E D H1) (λ g=>Gt g M c (Dq 10) Q E D H)) /\
 (WE M c (Dq 10) λ Q E D H=>Lz E 8 λ g a=>aw g Q .ret ((6,a)::E) D H):=by (repeat' apply And.intro)<;>(intro _ _ _ _;refine aF ?_;kernel_rfl)
theorem q1d:(aj Try.prog).func Bf=some Ko/\Ko.results=[.tmp 6]:=xw (by kernel_rfl)
theorem q1e (h:W M ⟨none,Bf⟩ (Dq 0) true (aL M [.tmp 6] Q) [(0,a0),(1,a1),(2,a2)] [] H):kt M Bf [a0,a1,a2] H Q:=aG (by decide) q1d (ks:=qrm) (by kernel_rfl) h
def LV:aq:=funcAt Try.prog xS
def qny:Kp:=⟨[0,1,4,5,7,11],false,[0,4,8,18]⟩
def wW (k:Nat):Kp × ah:=(qny,part LV.body k)
theorem qv9 (M:aM) (c:Ctx):(WE M c (wW 0) λ Q E D H=>A3 true qo [(.int .i64 0),(.int .i64 0),(.int .i64 0),(.int .u64 0),(.int .u64 0),(.int .u64 0),(.int .u64 0),(.int .u64 0),(.int .u64 0),(.int .u64 0),(.int .u64 0)] H λ g e H1=>Ly g E 1 λ g b=>B3 g (Op.nilCheck [b]) λ g d=>B3 g ((Op.fieldAddr 13) [d]) λ g a=>aZ g ((Op.store 1) [a,(.int .i64 4)] H1) λ g u H2=>Ns g 14 b (.int .u8 0) H2 λ g u_1 H3=>W M c (wW 4) g Q ((11,a)::(4,e)::E) D H3) /\
 (WE M c (wW 4) λ Q E D H=>Lz E 0 λ g y=>Nf g 0 y H λ g e=>Ly g E 1 λ g z=>B3 g (Op.nilCheck [z]) λ g f=>B3 g ((Op.fieldAddr 2) [f]) λ g h=>Fl g 2 h H λ g i=>C3 M g (.func EI) [e,i] H λ g b H1=>B3 g ((Op.extract 0) [b]) λ g j=>B3 g ((Op.extract 1) [b]) λ g _=>A3 g jf [(.int .u64 0),(.int .u64 0),(.int .u64 0),(.int .u64 0),(.int .u64 0),(.int .u64 0),(.int .u64 0),(.int .u64 0)] H1 λ g d H2=>aZ g ((Op.store 8) [d,j] H2) λ g u H3=>Ly g E 1 λ g a=>B3 g (Op.nilCheck [a]) λ g l=>B3 g ((Op.fieldAddr 2) [l]) λ g m=>Fl g 1 m H3 λ g n=>B3 g (Op.nilCheck [a]) λ g p=>B3 g ((Op.fieldAddr 2) [p]) λ g q=>Fl g 2 q H3 λ g r=>B3 g ((Op.ao 8) [d] H3) λ g s=>B3 g ((Op.build [(.int .i64 0),(.int .i64 0),(.int .i64 0),(.int .u64 0),(.int .u64 0),(.int .u64 0),(.int .u64 0),(.int .u64 0),(.int .u64 0),(.int .u64 0),(.int .u64 0)] [(0,1),(1,1),(2,1),(3,8)]) [(.int .i64 14),n,r,s]) λ g v=>A3 g qo [(.int .i64 0),(.int .i64 0),(.int .i64 0),(.int .u64 0),(.int .u64 0),(.int .u64 0),(.int .u64 0),(.int .u64 0),(.int .u64 0),(.int .u64 0),(.int .u64 0)] H3 λ g x H4=>aZ g ((Op.store 11) [x,v] H4) λ g u_1 H5=>W M c (wW 8) g Q ((7,x)::(5,d)::E) D H5) /\
 (WE M c (wW 8) λ Q E D H=>Lz E 1 λ g p=>B3 g (Op.nilCheck [p]) λ g b=>B3 g ((Op.fieldAddr 2) [b]) λ g d=>Fl g 0 d H λ g e=>Cb g .eql e (.int .i64 1) (λ g=>Ly g E 1 λ g a=>Nf g 1 a H λ g f=>B3 g (Op.nilCheck [a]) λ g h=>B3 g ((Op.fieldAddr 2) [h]) λ g i=>Fl g 1 i H λ g j=>Bn g .shl (.int .u8 1) j λ g l=>Bn g .or f l λ g m=>Ns g 1 a m H λ g u H1=>Ly g E 7 λ g q=>B3 g ((Op.ao 11) [q] H1) λ g n=>Ly g E 4 λ g r=>aZ g ((Op.store 11) [r,n] H1) λ g u_1 H2=>aw g (ak (W M c (wW 18)) Q) .ret E D H2) (λ g=>Gt g M c (wW 18) Q E D H)) /\
 (WE M c (wW 18) λ Q E D H=>Lz E 1 λ g a=>B3 g (Op.nilCheck [a]) λ g d=>B3 g ((Op.fieldAddr 2) [d]) λ g e=>Fl g 1 e H λ g f=>Ns g 0 a f H λ g u H1=>Ns g 1 a (.int .u8 0) H1 λ g u_1 H2=>Ly g E 7 λ g i=>Fs g 0 i (.int .i64 15) H2 λ g u_2 H3=>Ly g E 7 λ g b=>B3 g ((Op.ao 11) [b] H3) λ g h=>Ly g E 4 λ g j=>aZ g ((Op.store 11) [j,h] H3) λ g u_3 H4=>aw g Q .ret E D H4):=by (repeat' apply And.intro)<;>(intro _ _ _ _;refine aF ?_;kernel_rfl)
theorem qv7:(aj Try.prog).func xS=some LV/\LV.results=[.cz 11 4]:=xw (by kernel_rfl)
theorem qv8 (h:W M ⟨none,xS⟩ (wW 0) true (aL M [.cz 11 4] Q) [(0,a0),(1,a1)] [] H):kt M xS [a0,a1] H Q:=aG (by decide) qv7 (ks:=qny) (by kernel_rfl) h
def Mp:aq:=funcAt Try.prog Dw
def qmp:Kp:=⟨[0,1,2],false,[0]⟩
def qmq (k:Nat):Kp × ah:=(qmp,part Mp.body k)
theorem quc (M:aM) (c:Ctx):(WE M c (qmq 0) λ Q E D H=>Lz E 0 λ g b=>A3 g DJ (AV.cells b) H λ g a H1=>B3 g ((Op.cu yf 0) [a]) λ g d=>aw g Q .ret ((2,d)::(2,.nilf)::(1,a)::E) D H1):=by intro _ _ _ _;refine aF ?_;kernel_rfl
theorem qua:(aj Try.prog).func Dw=some Mp/\Mp.results=[.tmp 2]:=xw (by kernel_rfl)
theorem qub (h:W M ⟨none,Dw⟩ (qmq 0) true (aL M [.tmp 2] Q) [(0,a0)] [] H):kt M Dw [a0] H Q:=aG (by decide) qua (ks:=qmp) (by kernel_rfl) h
def Nb:aq:=funcAt Try.prog FX
def qic:Kp:=⟨[0,2],false,[0]⟩
def qid (k:Nat):Kp × ah:=(qic,part Nb.body k)
theorem qo8 (M:aM) (c:Ctx):(WE M c (qid 0) λ Q E D H=>Lz E 0 λ g a=>C3 M g (.func ku) [.nils,a] H λ g b H1=>aw g Q .ret ((2,b)::(2,.nils)::E) D H1):=by intro _ _ _ _;refine aF ?_;kernel_rfl
theorem qo6:(aj Try.prog).func FX=some Nb/\Nb.results=[.tmp 2]:=xw (by kernel_rfl)
theorem qo7 (h:W M ⟨none,FX⟩ (qid 0) true (aL M [.tmp 2] Q) [(0,a0)] [] H):kt M FX [a0] H Q:=aG (by decide) qo6 (ks:=qic) (by kernel_rfl) h
def NZ:aq:=funcAt Try.prog EI
def qp8:Kp:=⟨[0,1,4,5,6,7,8],false,[0,4,12]⟩
def Cp (k:Nat):Kp × ah:=(qp8,part NZ.body k)
theorem qy7 (M:aM) (c:Ctx):(WE M c (Cp 0) λ Q E D H=>A3 true jf [(.int .u64 0),(.int .u64 0),(.int .u64 0),(.int .u64 0),(.int .u64 0),(.int .u64 0),(.int .u64 0),(.int .u64 0)] H λ g e H1=>Ly g E 0 λ g f=>Ly g E 1 λ g h=>C3 M g (.func Bz) [f,h] H1 λ g a H2=>B3 g ((Op.extract 0) [a]) λ g b=>B3 g ((Op.extract 1) [a]) λ g d=>W M c (Cp 4) g Q ((7,d)::(6,b)::(8,a)::(5,(.int .i64 0))::(4,e)::E) D H2) /\
 (WE M c (Cp 4) λ Q E D H=>Lz E 7 λ g d=>Cb g .neq d (.int .i64 0) (λ g=>B3 g ((Op.build [(.int .u64 0),(.int .u64 0),(.int .u64 0),(.int .u64 0),(.int .u64 0),(.int .u64 0),(.int .u64 0),(.int .u64 0)] []) []) λ g b=>Ly g E 7 λ g a=>Ly g E 4 λ g e=>aZ g ((Op.store 8) [e,b] H) λ g u H1=>aw g (ak (W M c (Cp 12)) Q) .ret ((5,a)::E) D H1) (λ g=>Gt g M c (Cp 12) Q E D H)) /\
 (WE M c (Cp 12) λ Q E D H=>Lz E 6 λ g d=>B3 g (Op.nilCheck [d]) λ g a=>B3 g ((Op.ao 8) [a] H) λ g b=>Ly g E 4 λ g e=>aZ g ((Op.store 8) [e,b] H) λ g u H1=>aw g Q .ret ((5,(.int .i64 0))::E) D H1):=by (repeat' apply And.intro)<;>(intro _ _ _ _;refine aF ?_;kernel_rfl)
theorem qy5:(aj Try.prog).func EI=some NZ/\NZ.results=[.cz 8 4,.tmp 5]:=xw (by kernel_rfl)
theorem qy6 (h:W M ⟨none,EI⟩ (Cp 0) true (aL M [.cz 8 4,.tmp 5] Q) [(0,a0),(1,a1)] [] H):kt M EI [a0,a1] H Q:=aG (by decide) qy5 (ks:=qp8) (by kernel_rfl) h
def Lw:aq:=funcAt Try.prog AZ
def qk2:Kp:=⟨[0,1,2,3],false,[0]⟩
def qk3 (k:Nat):Kp × ah:=(qk2,part Lw.body k)
theorem qk4 (M:aM) (c:Ctx):(WE M c (qk3 0) λ Q E D H=>Lz E 0 λ g b=>A3 g qo (AV.cells b) H λ g a H1=>Fl g 1 a H1 λ g d=>Ly g E 1 λ g e=>Fl g 1 e H1 λ g f=>Bn g .eql d f λ g h=>aw g Q .ret ((3,h)::(3,(.bool false))::(2,a)::E) D H1):=by intro _ _ _ _;refine aF ?_;kernel_rfl
theorem qsn:(aj Try.prog).func AZ=some Lw/\Lw.results=[.tmp 3]:=xw (by kernel_rfl)
theorem qso (h:W M ⟨none,AZ⟩ (qk3 0) true (aL M [.tmp 3] Q) [(0,a0),(1,a1)] [] H):kt M AZ [a0,a1] H Q:=aG (by decide) qsn (ks:=qk2) (by kernel_rfl) h
def NT:aq:=funcAt Try.prog ky
def qe3:Kp:=⟨[0,1,4],false,[0]⟩
def qe4 (k:Nat):Kp × ah:=(qe3,part NT.body k)
theorem qia (M:aM) (c:Ctx):(WE M c (qe4 0) λ Q E D H=>Lz E 0 λ g a=>Ly g E 1 λ g b=>C3 M g (.func kv) [a,b] H λ g d H1=>Bn g .geq d (.int .i64 0) λ g e=>aw g Q .ret ((4,e)::(4,(.bool false))::E) D H1):=by intro _ _ _ _;refine aF ?_;kernel_rfl
theorem qh8:(aj Try.prog).func ky=some NT/\NT.results=[.tmp 4]:=xw (by kernel_rfl)
theorem qh9 (h:W M ⟨none,ky⟩ (qe4 0) true (aL M [.tmp 4] Q) [(0,a0),(1,a1)] [] H):kt M ky [a0,a1] H Q:=aG (by decide) qh8 (ks:=qe3) (by kernel_rfl) h
def MJ:aq:=funcAt Try.prog Bz
def qty:Kp:=⟨[0,1,4,5],false,[0,2,17]⟩
def Bl (k:Nat):Kp × ah:=(qty,part MJ.body k)
theorem q3i (M:aM) (c:Ctx):(WE M c (Bl 0) λ Q E D H=>W M c (Bl 2) true Q ((5,(.int .i64 0))::(4,.nilp)::E) D H) /\
 (WE M c (Bl 2) λ Q E D H=>Lz E 0 λ g n=>B3 g ((Op.eq .ptr false) [n,.nilp] H) λ g p=>br g p (λ g=>aw g (aI 0 (ak (W M c (Bl 17)) Q)) .ret ((5,(.int .i64 1))::(4,.nilp)::E) D H) (λ g=>Ly g E 1 λ g j=>Bn g .lss j (.int .i64 0) λ g d=>JN (λ (k:Bool->AV->AV->AV->AV->AV->AV->AV->AHeap->Prop)=>B3 g (aA false (some d)) λ g w=>cd g w (λ g=>Ly g E 0 λ g a=>B3 g (Op.nilCheck [a]) λ g e=>B3 g ((Op.fieldAddr 0) [e]) λ g f=>B3 g (Op.aa [f] H) λ g h=>B3 g (Op.bP [h]) λ g i=>Bn g .geq j i λ g l=>k g l i h f e a j H) (λ g=>k g uu uu uu uu uu uu uu H)) (λ g b _ _ _ _ _ _ H1=>B3 g (Op.pick [d,(.bool true),b]) λ g m=>br g m (λ g=>aw g (aI 0 (ak (W M c (Bl 17)) Q)) .ret ((5,(.int .i64 2))::(4,.nilp)::E) D H1) (λ g=>aw g (aI 0 (ak (W M c (Bl 17)) Q)) .normal E D H1)))) /\
 (WE M c (Bl 17) λ Q E D H=>Lz E 0 λ g d=>Nf g 0 d H λ g a=>Ly g E 1 λ g e=>B3 g ((Op.aP 8) [a,e]) λ g b=>aw g Q .ret ((5,(.int .i64 0))::(4,b)::E) D H):=by (repeat' apply And.intro)<;>(intro _ _ _ _;refine aF ?_;kernel_rfl)
theorem q3g:(aj Try.prog).func Bz=some MJ/\MJ.results=[.tmp 4,.tmp 5]:=xw (by kernel_rfl)
theorem q3h (h:W M ⟨none,Bz⟩ (Bl 0) true (aL M [.tmp 4,.tmp 5] Q) [(0,a0),(1,a1)] [] H):kt M Bz [a0,a1] H Q:=aG (by decide) q3g (ks:=qty) (by kernel_rfl) h
def LY:aq:=funcAt Try.prog yf
def qjt:Kp:=⟨[0,1,3,4],false,[0,4,10,19]⟩
def yn (k:Nat):Kp × ah:=(qjt,part LY.body k)
theorem qq0 (M:aM) (c:Ctx):(WE M c (yn 0) λ Q E D H=>bq (W M c (yn 4)) (aI 0 Q) ((4,(.int .i64 0))::E) D H) /\
 (WE M c (yn 4) λ Q E D H=>Lz E 4 λ g a=>Cb g .lss a (.int .i64 4) (λ g=>Gt g M c (yn 10) Q E D H) (λ g=>aw g (ak (W M c (yn 10)) Q) (.exit 0) E D H)) /\
 (WE M c (yn 10) λ Q E D H=>Lz E 4 λ g a=>Ly g E 1 λ g m=>B3 g (Op.aa [m] H) λ g n=>Bn g .shl (.int .u8 1) a λ g p=>Bn g .and n p λ g h=>Bn g .neq h (.int .u8 0) λ g d=>JN (λ (k:Bool->AV->AV->AV->AV->AHeap->Prop)=>B3 g (aA true (some d)) λ g w=>cd g w (λ g=>Ly g E 0 λ g i=>V3 g [i,a] λ g f vs=>C3 M g f vs H λ g e H1=>B3 g ((Op.un .not) [e]) λ g j=>k g j e a i H1) (λ g=>k g uu uu uu uu H)) (λ g b _ _ _ H2=>B3 g (Op.pick [d,b,(.bool false)]) λ g l=>br g l (λ g=>aw g (aI 1 (ak (W M c (yn 19)) Q)) .ret ((3,a)::E) D H2) (λ g=>aw g (aI 1 (ak (W M c (yn 19)) Q)) .normal ((3,a)::E) D H2))) /\
 (WE M c (yn 19) λ Q E D H=>Lz E 4 λ g b=>Bn g .add b (.int .i64 1) λ g a=>aw g Q .normal ((4,a)::E) D H):=by (repeat' apply And.intro)<;>(intro _ _ _ _;refine aF ?_;kernel_rfl)
theorem qqy:(aj Try.prog).func yf=some LY/\LY.results=[]:=xw (by kernel_rfl)
theorem qqz (h:W M ⟨none,yf⟩ (yn 0) true (aL M [] Q) [(0,a0),(1,a1)] [] H):kt M yf [a0,a1] H Q:=aG (by decide) qqy (ks:=qjt) (by kernel_rfl) h
def vf:aq:=funcAt Try.prog ku
def vg:Kp:=⟨[0,1,2,4,5,6,7],false,[0,2,7]⟩
def Fx (k:Nat):Kp × ah:=(vg,part vf.body k)
def yr:dq:=i5 vf 0
def qgm (k:Nat):Kp × ah:=(⟨vg.ae,vg.cj,[0]⟩,part yr.assign k)
def qgn (k:Nat):Kp × ah:=(⟨vg.ae,vg.cj,[0]⟩,part yr.body k)
theorem qga:nth vf.loops 0=some yr/\yr.params=[7]:=⟨by kernel_rfl,by kernel_rfl⟩
theorem qgt (M:aM) (c:Ctx):(WE M c (Fx 0) λ Q E D H=>Lz E 0 λ g a=>A3 g lY (AV.cells a) H λ g b H1=>W M c (Fx 2) g Q ((4,.nils)::(2,b)::E) D H1) /\
 (WE M c (qgm 0) λ Q E D H=>Lz E 7 λ g a=>aw g Q .normal ((5,a)::E) D H) /\
 (WE M c (qgn 0) λ Q E D H=>Lz E 2 λ g a=>B3 g (Op.aa [a] H) λ g d=>Ly g E 5 λ g e=>aZ g ((Op.buildSlice cJ 1 [(.int .i64 0)] [(0,1)]) [e]) λ g o1 k1=>aZ g ((Op.append cJ 1 8) [d,(k1 H.next)] (H.alloc o1)) λ g b H2=>aZ g ((Op.store 1) [a,b] H2) λ g u H3=>aw g (aI 1 Q) .normal E D H3) /\
 (WE M c (Fx 2) λ Q E D H=>Lz E 1 λ g a=>eS M vg.ae c 0 ((6,a)::E) D H (aI 0 (ak (W M c (Fx 7)) Q)) a) /\
 (WE M c (Fx 7) λ Q E D H=>Lz E 2 λ g b=>B3 g (Op.aa [b] H) λ g a=>aw g Q .ret ((4,a)::E) D H):=by (repeat' apply And.intro)<;>(intro _ _ _ _;refine aF ?_;kernel_rfl)
theorem qgs:(aj Try.prog).func ku=some vf/\vf.results=[.tmp 4]:=xw (by kernel_rfl)
theorem ql8:M.func ku=some vf:=MK.at (by decide) qgs.1
theorem qm7 (h:W M ⟨none,ku⟩ (Fx 0) true (aL M [.tmp 4] Q) [(0,a0),(1,a1)] [] H):kt M ku [a0,a1] H Q:=aG (by decide) qgs (ks:=vg) (by kernel_rfl) h
def KQ:aq:=funcAt Try.prog kv
def qfq:Kp:=⟨[0,1,4,5,7,8],false,[0,2,7,13,24,25]⟩
def zl (k:Nat):Kp × ah:=(qfq,part KQ.body k)
theorem qjq (M:aM) (c:Ctx):(WE M c (zl 0) λ Q E D H=>W M c (zl 2) true Q ((4,(.int .i64 0))::E) D H) /\
 (WE M c (zl 2) λ Q E D H=>Lz E 0 λ g a=>B3 g (Op.bP [a]) λ g b=>bq (W M c (zl 7)) (aI 0 (ak (W M c (zl 25)) Q)) ((8,(.int .i64 0))::(7,b)::E) D H) /\
 (WE M c (zl 25) λ Q E D H=>aw true Q .ret ((4,(.int .i64 (-1)))::E) D H) /\
 (WE M c (zl 7) λ Q E D H=>Lz E 8 λ g a=>Ly g E 7 λ g b=>Cb g .lss a b (λ g=>Gt g M c (zl 13) Q E D H) (λ g=>aw g (ak (W M c (zl 13)) Q) (.exit 0) E D H)) /\
 (WE M c (zl 13) λ Q E D H=>Lz E 8 λ g a=>Ly g E 1 λ g h=>Ly g E 0 λ g i=>B3 g ((Op.aP 11) [i,a]) λ g b=>B3 g ((Op.ao 11) [b] H) λ g d=>V3 g [h,d] λ g f vs=>C3 M g f vs H λ g e H1=>br g e (λ g=>aw g (aI 1 (ak (W M c (zl 24)) Q)) .ret ((4,a)::(5,a)::E) D H1) (λ g=>aw g (aI 1 (ak (W M c (zl 24)) Q)) .normal ((5,a)::E) D H1)) /\
 (WE M c (zl 24) λ Q E D H=>Lz E 8 λ g b=>Bn g .add b (.int .i64 1) λ g a=>aw g Q .normal ((8,a)::E) D H):=by (repeat' apply And.intro)<;>(intro _ _ _ _;refine aF ?_;kernel_rfl)
theorem qjo:(aj Try.prog).func kv=some KQ/\KQ.results=[.tmp 4]:=xw (by kernel_rfl)
theorem qjp (h:W M ⟨none,kv⟩ (zl 0) true (aL M [.tmp 4] Q) [(0,a0),(1,a1)] [] H):kt M kv [a0,a1] H Q:=aG (by decide) qjo (ks:=qfq) (by kernel_rfl) h
end
end Go.Am
namespace Go.Am
abbrev Ey:Nat:=55
abbrev yx:Nat:=93
abbrev C7:Nat:=53
abbrev xM:Nat:=52
abbrev DP:Nat:=54
abbrev wo:Nat:=24
abbrev zV:Nat:=56
abbrev xZ:Nat:=57
abbrev AA:Nat:=48
abbrev xW:Nat:=51
abbrev qD:Nat:=62
abbrev vM:Nat:=92
abbrev uS:Nat:=61
abbrev CG:Nat:=49
abbrev CC:Nat:=21
abbrev EF:Nat:=50
abbrev jb:Nat:=22
abbrev yq:Nat:=59
abbrev wC:Nat:=50
abbrev AB:Nat:=128
abbrev Ay:Nat:=26
abbrev BW:Nat:=65
abbrev BK:Nat:=87
abbrev G3:Nat:=34
noncomputable section
open Go.Proofs Go.Proofs.Ytiibohocdbaekaa
variable {M:aM} [MK M] {H:AHeap} {Q:bu->AHeap->Prop} {a0 a1 a2 a3 a4:AV}
def Km:aq:=funcAt Try.prog CG
def q2k:Kp:=⟨[0,1,2,4,5,6,7,8,9,10,11,12,13,37,38,60,61,62],false,[0,4,12,14,19,25,31,39,40,41,46,52,57,58]⟩
def kn (k:Nat):Kp × ah:=(q2k,part Km.body k)
theorem q9m (M:aM) (c:Ctx):(WE M c (kn 0) λ Q E D H=>Lz E 0 λ g i=>A3 g ve (AV.cells i) H λ g b H1=>Fl g 0 b H1 λ g d=>Fl g 1 b H1 λ g e=>C3 M g (.func DK) [d,e] H1 λ g a H2=>B3 g ((Op.extract 0) [a]) λ g f=>B3 g ((Op.extract 1) [a]) λ g h=>W M c (kn 4) g Q ((7,h)::(6,f)::(5,(.int .i64 0))::(4,.nilp)::(2,b)::E) D H2) /\
 (WE M c (kn 4) λ Q E D H=>Lz E 7 λ g l=>Bn g .neq l (.int .i64 0) λ g b=>JN (λ (k:Bool->AV->AV->AV->AV->AV->AHeap->Prop)=>B3 g (aA false (some b)) λ g w=>cd g w (λ g=>Ly g E 1 λ g h=>B3 g (Op.bP [h]) λ g d=>Ly g E 2 λ g m=>B3 g ((Op.fieldAddr 0) [m]) λ g e=>B3 g (Op.aa [e] H) λ g f=>Bn g .gtr d f λ g i=>k g i f e d h H) (λ g=>k g uu uu uu uu uu H)) (λ g a _ _ _ _ H1=>B3 g (Op.pick [b,(.bool true),a]) λ g j=>br g j (λ g=>aw g (ak (W M c (kn 12)) Q) .ret ((5,(.int .i64 2))::(4,.nilp)::E) D H1) (λ g=>Gt g M c (kn 12) Q E D H1))) /\
 (WE M c (kn 12) λ Q E D H=>Lz E 6 λ g e=>Ly g E 2 λ g f=>Fl g 0 f H λ g a=>B3 g ((Op.build [.nilp,.nils,.nils,(.int .i64 0)] [(0,1),(3,1)]) [e,a]) λ g b=>A3 g AB (AV.cells b) H λ g d H1=>W M c (kn 14) g Q ((8,d)::E) D H1) /\
 (WE M c (kn 14) λ Q E D H=>Lz E 2 λ g b=>Fl g 1 b H λ g a=>bq (W M c (kn 19)) (aI 0 (ak (W M c (kn 41)) Q)) ((38,(.int .i64 0))::(37,a)::E) D H) /\
 (WE M c (kn 41) λ Q E D H=>Lz E 1 λ g a=>B3 g (Op.bP [a]) λ g b=>bq (W M c (kn 46)) (aI 2 (ak (W M c (kn 58)) Q)) ((62,(.int .i64 0))::(61,b)::(60,a)::E) D H) /\
 (WE M c (kn 19) λ Q E D H=>Lz E 38 λ g a=>Ly g E 37 λ g b=>Cb g .lss a b (λ g=>Gt g M c (kn 25) Q E D H) (λ g=>aw g (ak (W M c (kn 25)) Q) (.exit 0) E D H)) /\
 (WE M c (kn 58) λ Q E D H=>Lz E 8 λ g a=>aw g Q .ret ((5,(.int .i64 0))::(4,a)::E) D H) /\
 (WE M c (kn 46) λ Q E D H=>Lz E 62 λ g a=>Ly g E 61 λ g b=>Cb g .lss a b (λ g=>Gt g M c (kn 52) Q E D H) (λ g=>aw g (ak (W M c (kn 52)) Q) (.exit 2) E D H)) /\
 (WE M c (kn 25) λ Q E D H=>Lz E 38 λ g a=>Ly g E 2 λ g h=>B3 g ((Op.ao 4) [h] H) λ g d=>C3 M g (.func EA) [a,d] H λ g b H1=>B3 g ((Op.extract 0) [b]) λ g e=>B3 g ((Op.extract 1) [b]) λ g f=>W M c (kn 31) g (aI 1 (ak (W M c (kn 40)) Q)) ((11,f)::(10,e)::(9,a)::E) D H1) /\
 (WE M c (kn 52) λ Q E D H=>Lz E 62 λ g a=>Ly g E 60 λ g d=>B3 g ((Op.aP 8) [d,a]) λ g e=>B3 g ((Op.ao 8) [e] H) λ g f=>A3 g jf [(.int .u64 0),(.int .u64 0),(.int .u64 0),(.int .u64 0),(.int .u64 0),(.int .u64 0),(.int .u64 0),(.int .u64 0)] H λ g b H1=>aZ g ((Op.store 8) [b,f] H1) λ g u H2=>Ly g E 6 λ g i=>B3 g ((Op.ao 8) [b] H2) λ g h=>C3 M g (.func qz8) [i,a,h] H2 λ g _ H3=>aw g (aI 3 (ak (W M c (kn 57)) Q)) .normal ((12,a)::(13,b)::E) D H3) /\
 (WE M c (kn 40) λ Q E D H=>Lz E 38 λ g a=>Bn g .add a (.int .i64 1) λ g b=>aw g Q .normal ((38,b)::E) D H) /\
 (WE M c (kn 31) λ Q E D H=>Lz E 11 λ g a=>Cb g .neq a (.int .i64 0) (λ g=>aw g (ak (W M c (kn 39)) Q) .ret ((5,(.int .i64 2))::(4,.nilp)::E) D H) (λ g=>Gt g M c (kn 39) Q E D H)) /\
 (WE M c (kn 57) λ Q E D H=>Lz E 62 λ g a=>Bn g .add a (.int .i64 1) λ g b=>aw g Q .normal ((62,b)::E) D H) /\
 (WE M c (kn 39) λ Q E D H=>Lz E 8 λ g a=>Nf g 1 a H λ g b=>Ly g E 10 λ g d=>aZ g ((Op.buildSlice Ay 1 [.nilp] [(0,1)]) [d]) λ g o1 k1=>aZ g ((Op.append Ay 1 8) [b,(k1 H.next)] (H.alloc o1)) λ g e H2=>Ns g 1 a e H2 λ g u H3=>aw g Q .normal E D H3):=by (repeat' apply And.intro)<;>(intro _ _ _ _;refine aF ?_;kernel_rfl)
theorem q9k:(aj Try.prog).func CG=some Km/\Km.results=[.tmp 4,.tmp 5]:=xw (by kernel_rfl)
theorem q9l (h:W M ⟨none,CG⟩ (kn 0) true (aL M [.tmp 4,.tmp 5] Q) [(0,a0),(1,a1)] [] H):kt M CG [a0,a1] H Q:=aG (by decide) q9k (ks:=q2k) (by kernel_rfl) h
def MT:aq:=funcAt Try.prog AA
def qpi:Kp:=⟨[0,1,2,6,7,8,9,10],false,[0,4,12]⟩
def D8 (k:Nat):Kp × ah:=(qpi,part MT.body k)
theorem qpk (M:aM) (c:Ctx):(WE M c (D8 0) λ Q E D H=>Lz E 0 λ g e=>Ly g E 1 λ g f=>C3 M g (.func qD) [e,f] H λ g a H1=>B3 g ((Op.extract 0) [a]) λ g b=>B3 g ((Op.extract 1) [a]) λ g d=>W M c (D8 4) g Q ((8,d)::(9,b)::(8,(.int .i64 0))::(7,(.bool false))::(6,(.int .u64 0))::E) D H1) /\
 (WE M c (D8 4) λ Q E D H=>Lz E 8 λ g b=>Cb g .neq b (.int .i64 0) (λ g=>Ly g E 8 λ g a=>aw g (ak (W M c (D8 12)) Q) .ret ((8,a)::(7,(.bool false))::(6,(.int .u64 0))::E) D H) (λ g=>Gt g M c (D8 12) Q E D H)) /\
 (WE M c (D8 12) λ Q E D H=>Lz E 9 λ g h=>Ly g E 2 λ g i=>C3 M g (.func BM) [h,i] H λ g a H1=>B3 g ((Op.extract 0) [a]) λ g b=>B3 g ((Op.extract 1) [a]) λ g d=>B3 g ((Op.extract 2) [a]) λ g e=>B3 g ((Op.extract 3) [a]) λ g f=>Ly g E 0 λ g j=>C3 M g (.func uS) [j,e] H1 λ g _ H2=>aw g Q .ret ((8,f)::(7,d)::(6,b)::(8,f)::(10,e)::(7,d)::(6,b)::E) D H2):=by (repeat' apply And.intro)<;>(intro _ _ _ _;refine aF ?_;kernel_rfl)
theorem qye:(aj Try.prog).func AA=some MT/\MT.results=[.tmp 6,.tmp 7,.tmp 8]:=xw (by kernel_rfl)
theorem qpj (h:W M ⟨none,AA⟩ (D8 0) true (aL M [.tmp 6,.tmp 7,.tmp 8] Q) [(0,a0),(1,a1),(2,a2)] [] H):kt M AA [a0,a1,a2] H Q:=aG (by decide) qye (ks:=qpi) (by kernel_rfl) h
def MG:aq:=funcAt Try.prog xW
def qnq:Kp:=⟨[0,1,2,3,8,9,10,11],false,[0,4,12]⟩
def EL (k:Nat):Kp × ah:=(qnq,part MG.body k)
theorem qns (M:aM) (c:Ctx):(WE M c (EL 0) λ Q E D H=>Lz E 0 λ g e=>Ly g E 1 λ g f=>C3 M g (.func qD) [e,f] H λ g a H1=>B3 g ((Op.extract 0) [a]) λ g b=>B3 g ((Op.extract 1) [a]) λ g d=>W M c (EL 4) g Q ((9,d)::(10,b)::(9,(.int .i64 0))::(8,(.bool false))::E) D H1) /\
 (WE M c (EL 4) λ Q E D H=>Lz E 9 λ g b=>Cb g .neq b (.int .i64 0) (λ g=>Ly g E 9 λ g a=>aw g (ak (W M c (EL 12)) Q) .ret ((9,a)::(8,(.bool false))::E) D H) (λ g=>Gt g M c (EL 12) Q E D H)) /\
 (WE M c (EL 12) λ Q E D H=>Lz E 10 λ g f=>Ly g E 2 λ g h=>Ly g E 3 λ g i=>C3 M g (.func Bv) [f,h,i] H λ g a H1=>B3 g ((Op.extract 0) [a]) λ g b=>B3 g ((Op.extract 1) [a]) λ g d=>B3 g ((Op.extract 2) [a]) λ g e=>Ly g E 0 λ g j=>C3 M g (.func uS) [j,d] H1 λ g _ H2=>aw g Q .ret ((9,e)::(8,b)::(9,e)::(11,d)::(8,b)::E) D H2):=by (repeat' apply And.intro)<;>(intro _ _ _ _;refine aF ?_;kernel_rfl)
theorem qvx:(aj Try.prog).func xW=some MG/\MG.results=[.tmp 8,.tmp 9]:=xw (by kernel_rfl)
theorem qnr (h:W M ⟨none,xW⟩ (EL 0) true (aL M [.tmp 8,.tmp 9] Q) [(0,a0),(1,a1),(2,a2),(3,a3)] [] H):kt M xW [a0,a1,a2,a3] H Q:=aG (by decide) qvx (ks:=qnq) (by kernel_rfl) h
def Ls:aq:=funcAt Try.prog xM
def qqt:Kp:=⟨[0,1,2,3,4,10,11,12,13,14],false,[0,4,12]⟩
def Cm (k:Nat):Kp × ah:=(qqt,part Ls.body k)
theorem qqv (M:aM) (c:Ctx):(WE M c (Cm 0) λ Q E D H=>Lz E 0 λ g e=>Ly g E 1 λ g f=>C3 M g (.func qD) [e,f] H λ g a H1=>B3 g ((Op.extract 0) [a]) λ g b=>B3 g ((Op.extract 1) [a]) λ g d=>W M c (Cm 4) g Q ((12,d)::(13,b)::(12,(.int .i64 0))::(11,(.bool false))::(10,(.bool false))::E) D H1) /\
 (WE M c (Cm 4) λ Q E D H=>Lz E 12 λ g b=>Cb g .neq b (.int .i64 0) (λ g=>Ly g E 12 λ g a=>aw g (ak (W M c (Cm 12)) Q) .ret ((12,a)::(11,(.bool false))::(10,(.bool false))::E) D H) (λ g=>Gt g M c (Cm 12) Q E D H)) /\
 (WE M c (Cm 12) λ Q E D H=>Lz E 13 λ g h=>Ly g E 2 λ g i=>Ly g E 3 λ g j=>Ly g E 4 λ g l=>C3 M g (.func Dm) [h,i,j,l] H λ g a H1=>B3 g ((Op.extract 0) [a]) λ g b=>B3 g ((Op.extract 1) [a]) λ g d=>B3 g ((Op.extract 2) [a]) λ g e=>B3 g ((Op.extract 3) [a]) λ g f=>Ly g E 0 λ g m=>C3 M g (.func uS) [m,e] H1 λ g _ H2=>aw g Q .ret ((12,f)::(11,d)::(10,b)::(12,f)::(14,e)::(11,d)::(10,b)::E) D H2):=by (repeat' apply And.intro)<;>(intro _ _ _ _;refine aF ?_;kernel_rfl)
theorem q0j:(aj Try.prog).func xM=some Ls/\Ls.results=[.tmp 10,.tmp 11,.tmp 12]:=xw (by kernel_rfl)
theorem qqu (h:W M ⟨none,xM⟩ (Cm 0) true (aL M [.tmp 10,.tmp 11,.tmp 12] Q) [(0,a0),(1,a1),(2,a2),(3,a3),(4,a4)] [] H):kt M xM [a0,a1,a2,a3,a4] H Q:=aG (by decide) q0j (ks:=qqt) (by kernel_rfl) h
def MA:aq:=funcAt Try.prog C7
def qnk:Kp:=⟨[0,1,4],false,[0]⟩
def qnl (k:Nat):Kp × ah:=(qnk,part MA.body k)
theorem qnn (M:aM) (c:Ctx):(WE M c (qnl 0) λ Q E D H=>Lz E 0 λ g a=>Ly g E 1 λ g b=>C3 M g (.func vM) [a,b,(.fn (.func B8) [] [])] H λ g d H1=>aw g Q .ret ((4,d)::(4,(.int .i64 0))::E) D H1):=by intro _ _ _ _;refine aF ?_;kernel_rfl
theorem qvt:(aj Try.prog).func C7=some MA/\MA.results=[.tmp 4]:=xw (by kernel_rfl)
theorem qnm (h:W M ⟨none,C7⟩ (qnl 0) true (aL M [.tmp 4] Q) [(0,a0),(1,a1)] [] H):kt M C7 [a0,a1] H Q:=aG (by decide) qvt (ks:=qnk) (by kernel_rfl) h
def LJ:aq:=funcAt Try.prog DP
def qmi:Kp:=⟨[0,1,4],false,[0]⟩
def qmj (k:Nat):Kp × ah:=(qmi,part LJ.body k)
theorem qml (M:aM) (c:Ctx):(WE M c (qmj 0) λ Q E D H=>Lz E 0 λ g a=>Ly g E 1 λ g b=>C3 M g (.func vM) [a,b,(.fn (.func EW) [] [])] H λ g d H1=>aw g Q .ret ((4,d)::(4,(.int .i64 0))::E) D H1):=by intro _ _ _ _;refine aF ?_;kernel_rfl
theorem qt5:(aj Try.prog).func DP=some LJ/\LJ.results=[.tmp 4]:=xw (by kernel_rfl)
theorem qmk (h:W M ⟨none,DP⟩ (qmj 0) true (aL M [.tmp 4] Q) [(0,a0),(1,a1)] [] H):kt M DP [a0,a1] H Q:=aG (by decide) qt5 (ks:=qmi) (by kernel_rfl) h
def KM:aq:=funcAt Try.prog Ey
def qng:Kp:=⟨[0,1,2,5,6],false,[0]⟩
def qnh (k:Nat):Kp × ah:=(qng,part KM.body k)
theorem qnj (M:aM) (c:Ctx):(WE M c (qnh 0) λ Q E D H=>Lz E 2 λ g d=>A3 g cJ (AV.cells d) H λ g a H1=>Ly g E 0 λ g e=>Ly g E 1 λ g f=>B3 g ((Op.cu yx 0) [a]) λ g h=>C3 M g (.func vM) [e,f,h] H1 λ g b H2=>aw g Q .ret ((6,b)::(6,(.int .i64 0))::(5,a)::E) D H2):=by intro _ _ _ _;refine aF ?_;kernel_rfl
theorem qvs:(aj Try.prog).func Ey=some KM/\KM.results=[.tmp 6]:=xw (by kernel_rfl)
theorem qni (h:W M ⟨none,Ey⟩ (qnh 0) true (aL M [.tmp 6] Q) [(0,a0),(1,a1),(2,a2)] [] H):kt M Ey [a0,a1,a2] H Q:=aG (by decide) qvs (ks:=qng) (by kernel_rfl) h
def Ka:aq:=funcAt Try.prog zV
def qo9:Kp:=⟨[0,1,2,6,7,8,9],false,[0,4,12]⟩
def Cf (k:Nat):Kp × ah:=(qo9,part Ka.body k)
theorem qpb (M:aM) (c:Ctx):(WE M c (Cf 0) λ Q E D H=>Lz E 0 λ g e=>Ly g E 1 λ g f=>C3 M g (.func qD) [e,f] H λ g a H1=>B3 g ((Op.extract 0) [a]) λ g b=>B3 g ((Op.extract 1) [a]) λ g d=>W M c (Cf 4) g Q ((8,d)::(7,b)::(6,(.int .i64 0))::E) D H1) /\
 (WE M c (Cf 4) λ Q E D H=>Lz E 8 λ g b=>Cb g .neq b (.int .i64 0) (λ g=>Ly g E 8 λ g a=>aw g (ak (W M c (Cf 12)) Q) .ret ((6,a)::E) D H) (λ g=>Gt g M c (Cf 12) Q E D H)) /\
 (WE M c (Cf 12) λ Q E D H=>Lz E 7 λ g e=>Ly g E 2 λ g f=>C3 M g (.func A7) [e,f] H λ g a H1=>B3 g ((Op.extract 0) [a]) λ g b=>B3 g ((Op.extract 1) [a]) λ g d=>Ly g E 0 λ g h=>C3 M g (.func uS) [h,b] H1 λ g _ H2=>aw g Q .ret ((6,d)::(8,d)::(9,b)::E) D H2):=by (repeat' apply And.intro)<;>(intro _ _ _ _;refine aF ?_;kernel_rfl)
theorem qx9:(aj Try.prog).func zV=some Ka/\Ka.results=[.tmp 6]:=xw (by kernel_rfl)
theorem qpa (h:W M ⟨none,zV⟩ (Cf 0) true (aL M [.tmp 6] Q) [(0,a0),(1,a1),(2,a2)] [] H):kt M zV [a0,a1,a2] H Q:=aG (by decide) qx9 (ks:=qo9) (by kernel_rfl) h
def Ml:aq:=funcAt Try.prog wo
def qku:Kp:=⟨[0,1,4,5,6,7,8,11],false,[0,2,17,21,23,29]⟩
def jx (k:Nat):Kp × ah:=(qku,part Ml.body k)
theorem qkw (M:aM) (c:Ctx):(WE M c (jx 0) λ Q E D H=>A3 true qo [(.int .i64 0),(.int .i64 0),(.int .i64 0),(.int .u64 0),(.int .u64 0),(.int .u64 0),(.int .u64 0),(.int .u64 0),(.int .u64 0),(.int .u64 0),(.int .u64 0)] H λ g a H1=>W M c (jx 2) g Q ((5,(.int .i64 0))::(4,a)::E) D H1) /\
 (WE M c (jx 2) λ Q E D H=>Lz E 0 λ g b=>B3 g ((Op.eq .ptr false) [b,.nilp] H) λ g n=>br g n (λ g=>B3 g ((Op.build [(.int .i64 0),(.int .i64 0),(.int .i64 0),(.int .u64 0),(.int .u64 0),(.int .u64 0),(.int .u64 0),(.int .u64 0),(.int .u64 0),(.int .u64 0),(.int .u64 0)] []) []) λ g p=>Ly g E 4 λ g l=>aZ g ((Op.store 11) [l,p] H) λ g u H1=>aw g (aI 0 (ak (W M c (jx 17)) Q)) .ret ((5,(.int .i64 1))::(11,b)::E) D H1) (λ g=>Ly g E 1 λ g m=>Bn g .lss m (.int .i64 0) λ g e=>JN (λ (k:Bool->AV->AV->AV->AV->AV->AV->AV->AHeap->Prop)=>B3 g (aA false (some e)) λ g w=>cd g w (λ g=>Ly g E 0 λ g a=>B3 g (Op.nilCheck [a]) λ g f=>B3 g ((Op.fieldAddr 2) [f]) λ g h=>B3 g (Op.aa [h] H) λ g i=>B3 g (Op.bP [i]) λ g j=>Bn g .geq m j λ g q=>k g q j i h f a m H) (λ g=>k g uu uu uu uu uu uu uu H)) (λ g d _ _ _ _ _ _ H1=>B3 g (Op.pick [e,(.bool true),d]) λ g r=>br g r (λ g=>B3 g ((Op.build [(.int .i64 0),(.int .i64 0),(.int .i64 0),(.int .u64 0),(.int .u64 0),(.int .u64 0),(.int .u64 0),(.int .u64 0),(.int .u64 0),(.int .u64 0),(.int .u64 0)] []) []) λ g s=>Ly g E 4 λ g l=>aZ g ((Op.store 11) [l,s] H1) λ g u H2=>aw g (aI 0 (ak (W M c (jx 17)) Q)) .ret ((5,(.int .i64 50))::(11,b)::E) D H2) (λ g=>aw g (aI 0 (ak (W M c (jx 17)) Q)) .normal ((11,b)::E) D H1)))) /\
 (WE M c (jx 17) λ Q E D H=>Lz E 0 λ g m=>Nf g 2 m H λ g d=>Ly g E 1 λ g n=>B3 g ((Op.aP 11) [d,n]) λ g e=>B3 g ((Op.ao 11) [e] H) λ g f=>A3 g qo [(.int .i64 0),(.int .i64 0),(.int .i64 0),(.int .u64 0),(.int .u64 0),(.int .u64 0),(.int .u64 0),(.int .u64 0),(.int .u64 0),(.int .u64 0),(.int .u64 0)] H λ g h H1=>aZ g ((Op.store 11) [h,f] H1) λ g u H2=>Ly g E 0 λ g a=>Nf g 2 a H2 λ g i=>Ly g E 1 λ g b=>Bn g .add b (.int .i64 1) λ g j=>C3 M g (.func yq) [i,b,j] H2 λ g l H3=>Ns g 2 a l H3 λ g u_1 H4=>W M c (jx 21) g Q ((6,h)::E) D H4) /\
 (WE M c (jx 21) λ Q E D H=>Lz E 0 λ g d=>Nf g 0 d H λ g a=>B3 g ((Op.cu yz 1) [a]) λ g b=>W M c (jx 23) g Q ((7,b)::E) D H) /\
 (WE M c (jx 23) λ Q E D H=>Lz E 6 λ g i=>Fl g 0 i H λ g b=>Cb g .gtr b (.int .i64 7) (λ g=>Ly g E 0 λ g j=>Nf g 1 j H λ g d=>Ly g E 6 λ g a=>Fl g 1 a H λ g e=>Xl g d e H λ g f=>B3 g ((Op.cu j8 1) [f]) λ g h=>Gt g M c (jx 29) Q ((7,h)::E) D H) (λ g=>Gt g M c (jx 29) Q E D H)) /\
 (WE M c (jx 29) λ Q E D H=>Lz E 7 λ g i=>Ly g E 6 λ g j=>B3 g ((Op.ao 11) [j] H) λ g e=>V3 g [i,e] λ g f vs=>C3 M g f vs H λ g a H1=>B3 g ((Op.extract 0) [a]) λ g b=>B3 g ((Op.extract 1) [a]) λ g _=>Ly g E 0 λ g l=>C3 M g (.func uS) [l,b] H1 λ g _ H2=>Ly g E 6 λ g d=>B3 g ((Op.ao 11) [d] H2) λ g h=>Ly g E 4 λ g m=>aZ g ((Op.store 11) [m,h] H2) λ g u H3=>aw g Q .ret ((5,(.int .i64 0))::(8,b)::E) D H3):=by (repeat' apply And.intro)<;>(intro _ _ _ _;refine aF ?_;kernel_rfl)
theorem qsf:(aj Try.prog).func wo=some Ml/\Ml.results=[.cz 11 4,.tmp 5]:=xw (by kernel_rfl)
theorem qkv (h:W M ⟨none,wo⟩ (jx 0) true (aL M [.cz 11 4,.tmp 5] Q) [(0,a0),(1,a1)] [] H):kt M wo [a0,a1] H Q:=aG (by decide) qsf (ks:=qku) (by kernel_rfl) h
def Kr:aq:=funcAt Try.prog xZ
def qpe:Kp:=⟨[0,1,4,5],false,[0]⟩
def qpf (k:Nat):Kp × ah:=(qpe,part Kr.body k)
theorem qph (M:aM) (c:Ctx):(WE M c (qpf 0) λ Q E D H=>Lz E 0 λ g e=>Ly g E 1 λ g f=>C3 M g (.func qD) [e,f] H λ g a H1=>B3 g ((Op.extract 0) [a]) λ g b=>B3 g ((Op.extract 1) [a]) λ g _=>C3 M g (.func EK) [b] H1 λ g d H2=>aw g Q .ret ((4,d)::(5,b)::(4,(.bool false))::E) D H2):=by intro _ _ _ _;refine aF ?_;kernel_rfl
theorem qyd:(aj Try.prog).func xZ=some Kr/\Kr.results=[.tmp 4]:=xw (by kernel_rfl)
theorem qpg (h:W M ⟨none,xZ⟩ (qpf 0) true (aL M [.tmp 4] Q) [(0,a0),(1,a1)] [] H):kt M xZ [a0,a1] H Q:=aG (by decide) qyd (ks:=qpe) (by kernel_rfl) h
def Lr:aq:=funcAt Try.prog CC
def qrf:Kp:=⟨[0,1,2,4,5,6,7,8],false,[0,4,12]⟩
def Ep (k:Nat):Kp × ah:=(qrf,part Lr.body k)
theorem q05 (M:aM) (c:Ctx):(WE M c (Ep 0) λ Q E D H=>Lz E 0 λ g h=>A3 g ve (AV.cells h) H λ g b H1=>B3 g ((Op.ao 4) [b] H1) λ g d=>C3 M g (.func CG) [d,.nils] H1 λ g a H2=>B3 g ((Op.extract 0) [a]) λ g e=>B3 g ((Op.extract 1) [a]) λ g f=>W M c (Ep 4) g Q ((8,f)::(7,e)::(6,(.bool false))::(5,.nilp)::(4,.nilp)::(2,b)::E) D H2) /\
 (WE M c (Ep 4) λ Q E D H=>Lz E 8 λ g i=>Bn g .neq i (.int .i64 0) λ g b=>JN (λ (k:Bool->AV->AV->AV->AHeap->Prop)=>B3 g (aA false (some b)) λ g w=>cd g w (λ g=>Ly g E 1 λ g e=>B3 g (Op.bP [e]) λ g d=>Bn g .gtr d (.int .i64 300) λ g f=>k g f d e H) (λ g=>k g uu uu uu H)) (λ g a _ _ H1=>B3 g (Op.pick [b,(.bool true),a]) λ g h=>br g h (λ g=>aw g (ak (W M c (Ep 12)) Q) .ret ((6,(.bool false))::(5,.nilp)::(4,.nilp)::E) D H1) (λ g=>Gt g M c (Ep 12) Q E D H1))) /\
 (WE M c (Ep 12) λ Q E D H=>Lz E 7 λ g f=>Ly g E 2 λ g h=>Fl g 0 h H λ g b=>Bn g .mul (.int .i64 8) b λ g a=>aZ g ((Op.mkSlice G3 8 [(.int .u64 0)]) [a,a]) λ g o1 k1=>B3 g ((Op.build [.nils,.nils,.nils,.nils,.nils,(.bool false),(.bool false),(.bool false),(.bool false)] [(0,1)]) [(k1 H.next)]) λ g d=>A3 g BK (AV.cells d) (H.alloc o1) λ g e H2=>aw g Q .ret ((6,(.bool true))::(5,e)::(4,f)::E) D H2):=by (repeat' apply And.intro)<;>(intro _ _ _ _;refine aF ?_;kernel_rfl)
theorem q03:(aj Try.prog).func CC=some Lr/\Lr.results=[.tmp 4,.tmp 5,.tmp 6]:=xw (by kernel_rfl)
theorem q04 (h:W M ⟨none,CC⟩ (Ep 0) true (aL M [.tmp 4,.tmp 5,.tmp 6] Q) [(0,a0),(1,a1)] [] H):kt M CC [a0,a1] H Q:=aG (by decide) q03 (ks:=qrf) (by kernel_rfl) h
def M4:aq:=funcAt Try.prog jb
def qj0:Kp:=⟨[0,1,2,5,6,7,8,9,10,11,12,13,14,15,16,17,18,19,20,22,23,25],false,[0,4,13,18,24,29,35,40,45,50,59,66,71,78,84,87,93,104,109,115,125,126,127]⟩
def qw (k:Nat):Kp × ah:=(qj0,part M4.body k)
theorem Mr (M:aM) (c:Ctx):(WE M c (qw 0) λ Q E D H=>Lz E 2 λ g a=>A3 g BW (AV.cells a) H λ g b H1=>W M c (qw 4) g Q ((7,(.bool true))::(6,(.bool false))::(5,b)::E) D H1) /\
 (WE M c (qw 4) λ Q E D H=>Lz E 5 λ g l=>Fl g 0 l H λ g a=>Cb g .eql a (.int .i64 0) (λ g=>Ly g E 1 λ g m=>Ly g E 5 λ g b=>Fl g 1 b H λ g e=>Fl g 2 b H λ g f=>C3 M g (.func AA) [m,e,f] H λ g d H1=>B3 g ((Op.extract 0) [d]) λ g h=>B3 g ((Op.extract 1) [d]) λ g i=>B3 g ((Op.extract 2) [d]) λ g j=>W M c (qw 13) g (aI 0 (ak (W M c (qw 104)) Q)) ((10,j)::(9,i)::(8,h)::(25,a)::E) D H1) (λ g=>Cb g .eql a (.int .i64 1) (λ g=>W M c (qw 29) g (aI 0 (ak (W M c (qw 104)) Q)) ((25,a)::E) D H) (λ g=>W M c (qw 40) g (aI 0 (ak (W M c (qw 104)) Q)) ((25,a)::E) D H))) /\
 (WE M c (qw 104) λ Q E D H=>bq (W M c (qw 109)) (aI 3 (ak (W M c (qw 127)) Q)) ((23,(.int .i64 0))::E) D H) /\
 (WE M c (qw 13) λ Q E D H=>Lz E 9 λ g e=>JN (λ (k:Bool->AV->AV->AHeap->Prop)=>B3 g (aA true (some e)) λ g w=>cd g w (λ g=>Ly g E 10 λ g b=>Bn g .eql b (.int .i64 0) λ g f=>k g f b H) (λ g=>k g uu uu H)) (λ g a _ H1=>B3 g (Op.pick [e,a,(.bool false)]) λ g h=>br g h (λ g=>Ly g E 0 λ g p=>Ly g E 5 λ g i=>Fl g 1 i H1 λ g j=>Fl g 2 i H1 λ g l=>C3 M g (.func EF) [p,j,l] H1 λ g d H2=>B3 g ((Op.extract 0) [d]) λ g m=>B3 g ((Op.extract 1) [d]) λ g n=>W M c (qw 18) g Q ((12,n)::(11,m)::E) D H2) (λ g=>aw g Q .normal E D H1))) /\
 (WE M c (qw 29) λ Q E D H=>Lz E 1 λ g a9=>Ly g E 5 λ g v=>Fl g 1 v H λ g L=>Fl g 2 v H λ g N=>Fl g 3 v H λ g P=>C3 M g (.func xW) [a9,L,N,P] H λ g i H1=>B3 g ((Op.extract 0) [i]) λ g b=>B3 g ((Op.extract 1) [i]) λ g d=>JN (λ (k:Bool->AV->AV->AHeap->Prop)=>B3 g (aA true (some b)) λ g w=>cd g w (λ g=>Bn g .eql d (.int .i64 0) λ g R=>k g R d H1) (λ g=>k g uu uu H1)) (λ g f _ H2=>B3 g (Op.pick [b,f,(.bool false)]) λ g j=>JN (λ (k:Bool->AV->AV->AV->AV->AV->AV->AV->AHeap->Prop)=>B3 g (aA true (some j)) λ g w=>cd g w (λ g=>Ly g E 0 λ g S=>Ly g E 5 λ g x=>B3 g ((Op.fieldAddr 1) [x]) λ g l=>B3 g (Op.aa [l] H2) λ g m=>B3 g (Op.nilCheck [S]) λ g n=>B3 g ((Op.fieldAddr 5) [n]) λ g p=>B3 g ((Op.aX 4 1) [p,m]) λ g q=>B3 g (Op.aa [q] H2) λ g T=>k g T q p n m l S H2) (λ g=>k g uu uu uu uu uu uu uu H2)) (λ g h _ _ _ _ _ _ H3=>B3 g (Op.pick [j,h,(.bool false)]) λ g U=>br g U (λ g=>Ly g E 0 λ g e=>Mv g e λ g V=>Ly g E 5 λ g a=>B3 g ((Op.fieldAddr 1) [a]) λ g r=>B3 g (Op.aa [r] H3) λ g s=>Mv g e λ g X=>Fl g 1 a H3 λ g Y=>B3 g (Op.nilCheck [X]) λ g Z=>B3 g ((Op.fieldAddr 1) [Z]) λ g a8=>B3 g ((Op.aX 4 1) [a8,Y]) λ g y=>B3 g (Op.aa [y] H3) λ g z=>Fl g 2 a H3 λ g A=>Fl g 3 a H3 λ g B=>B3 g ((Op.build [(.int .i64 0),(.int .u64 0)] [(0,1),(1,1)]) [A,B]) λ g C=>B3 g (Op.nilCheck [V]) λ g F=>B3 g ((Op.fieldAddr 1) [F]) λ g G=>aZ g ((Op.buildSlice wC 1 [(.int .i64 0),(.int .u64 0)] [(0,2)]) [C]) λ g o4 k4=>aZ g ((Op.append wC 2 16) [z,(k4 H3.next)] (H3.alloc o4)) λ g I H5=>uG g (Op.aa [r] H5) (some s) λ g=>B3 g ((Op.aX 4 1) [G,s]) λ g J=>aZ g ((Op.store 1) [J,I] H5) λ g u H6=>aw g Q .normal ((14,d)::(13,b)::E) D H6) (λ g=>W M c (qw 35) g Q ((14,d)::(13,b)::E) D H3)))) /\
 (WE M c (qw 40) λ Q E D H=>Lz E 25 λ g q=>Cb g .eql q (.int .i64 2) (λ g=>Ly g E 1 λ g x=>Mv g x λ g e=>Ly g E 5 λ g b=>Fl g 1 b H λ g f=>Fl g 2 b H λ g h=>Fl g 4 b H λ g i=>Fl g 3 b H λ g j=>C3 M g (.func xM) [e,f,h,i,j] H λ g l H1=>Mv g l λ g a=>B3 g ((Op.extract 0) [a]) λ g m=>B3 g ((Op.extract 1) [a]) λ g n=>B3 g ((Op.extract 2) [a]) λ g p=>Mv g m λ g r=>Mv g n λ g s=>Mv g p λ g v=>W M c (qw 45) g Q ((17,v)::(16,s)::(15,r)::E) D H1) (λ g=>Ly g E 25 λ g d=>Cb g .eql d (.int .i64 3) (λ g=>W M c (qw 59) g Q E D H) (λ g=>W M c (qw 66) g Q E D H))) /\
 (WE M c (qw 127) λ Q E D H=>Lz E 7 λ g a=>aw g Q .ret ((6,a)::E) D H) /\
 (WE M c (qw 109) λ Q E D H=>Lz E 23 λ g a=>Cb g .lss a (.int .i64 4) (λ g=>Gt g M c (qw 115) Q E D H) (λ g=>aw g (ak (W M c (qw 115)) Q) (.exit 3) E D H)) /\
 (WE M c (qw 18) λ Q E D H=>Lz E 12 λ g a=>B3 g ((Op.un .not) [a]) λ g b=>br g b (λ g=>Ly g E 0 λ g h=>Nf g 0 h H λ g d=>Ly g E 5 λ g i=>Fl g 2 i H λ g e=>Xl g d e H λ g f=>Gt g M c (qw 24) Q ((11,f)::E) D H) (λ g=>Gt g M c (qw 24) Q E D H)) /\
 (WE M c (qw 35) λ Q E D H=>Lz E 13 λ g b=>JN (λ (k:Bool->AV->AV->AHeap->Prop)=>B3 g (aA true (some b)) λ g w=>cd g w (λ g=>Ly g E 14 λ g d=>Bn g .eql d (.int .i64 0) λ g e=>k g e d H) (λ g=>k g uu uu H)) (λ g a _ H1=>B3 g (Op.pick [b,a,(.bool false)]) λ g f=>br g f (λ g=>Ly g E 0 λ g m=>Nf g 0 m H1 λ g h=>Ly g E 5 λ g l=>Fl g 2 l H1 λ g i=>Fl g 3 l H1 λ g j=>Xs g h i j H1 λ g u H2=>aw g Q .normal E D H2) (λ g=>aw g Q .normal E D H1))) /\
 (WE M c (qw 45) λ Q E D H=>Lz E 16 λ g b=>JN (λ (k:Bool->AV->AV->AHeap->Prop)=>B3 g (aA true (some b)) λ g w=>cd g w (λ g=>Ly g E 17 λ g d=>Bn g .eql d (.int .i64 0) λ g e=>k g e d H) (λ g=>k g uu uu H)) (λ g a _ H1=>B3 g (Op.pick [b,a,(.bool false)]) λ g f=>br g f (λ g=>Ly g E 15 λ g p=>Ly g E 0 λ g r=>Nf g 0 r H1 λ g h=>Ly g E 5 λ g q=>Fl g 2 q H1 λ g i=>Xl g h i H1 λ g j=>Fl g 4 q H1 λ g l=>Bn g .eql j l λ g m=>B3 g ((Op.eq .bool false) [p,m] H1) λ g n=>W M c (qw 50) g Q ((7,n)::E) D H1) (λ g=>aw g Q .normal E D H1))) /\
 (WE M c (qw 59) λ Q E D H=>Lz E 1 λ g j=>Ly g E 5 λ g l=>Fl g 1 l H λ g b=>C3 M g (.func C7) [j,b] H λ g a H1=>Cb g .eql a (.int .i64 0) (λ g=>Ly g E 0 λ g m=>Ly g E 5 λ g d=>Fl g 1 d H1 λ g e=>B3 g (Op.nilCheck [m]) λ g f=>B3 g ((Op.fieldAddr 5) [f]) λ g h=>B3 g ((Op.aX 4 1) [h,e]) λ g i=>aZ g ((Op.store 1) [i,(.bool true)] H1) λ g u H2=>aw g Q .normal ((18,a)::E) D H2) (λ g=>aw g Q .normal ((18,a)::E) D H1)) /\
 (WE M c (qw 66) λ Q E D H=>Lz E 25 λ g j=>Cb g .eql j (.int .i64 4) (λ g=>Ly g E 1 λ g d=>Ly g E 5 λ g a=>Fl g 1 a H λ g e=>C3 M g (.func DP) [d,e] H λ g f H1=>W M c (qw 71) g Q ((19,f)::E) D H1) (λ g=>Ly g E 25 λ g b=>Cb g .eql b (.int .i64 5) (λ g=>Ly g E 1 λ g d=>Ly g E 5 λ g a=>Fl g 1 a H λ g h=>Fl g 2 a H λ g i=>C3 M g (.func Ey) [d,h,i] H λ g _ H1=>aw g Q .normal E D H1) (λ g=>W M c (qw 93) g Q E D H))) /\
 (WE M c (qw 115) λ Q E D H=>Lz E 0 λ g B=>Ly g E 23 λ g a=>B3 g (Op.nilCheck [B]) λ g i=>B3 g ((Op.fieldAddr 5) [i]) λ g j=>B3 g ((Op.aX 4 1) [j,a]) λ g l=>B3 g (Op.aa [l] H) λ g b=>JN (λ (k:Bool->AV->AV->AV->AV->AHeap->Prop)=>B3 g (aA true (some b)) λ g w=>cd g w (λ g=>Ly g E 1 λ g A=>C3 M g (.func xZ) [A,a] H λ g d H1=>B3 g ((Op.un .not) [d]) λ g m=>k g m d a A H1) (λ g=>k g uu uu uu uu H)) (λ g e _ _ _ H2=>B3 g (Op.pick [b,e,(.bool false)]) λ g n=>br g n (λ g=>Ly g E 0 λ g p=>Ly g E 23 λ g f=>B3 g (Op.nilCheck [p]) λ g q=>B3 g ((Op.fieldAddr 5) [q]) λ g r=>B3 g ((Op.aX 4 1) [r,f]) λ g s=>aZ g ((Op.store 1) [s,(.bool false)] H2) λ g u H3=>Ly g E 0 λ g v=>Ly g E 23 λ g h=>B3 g (Op.nilCheck [v]) λ g x=>B3 g ((Op.fieldAddr 1) [x]) λ g y=>B3 g ((Op.aX 4 1) [y,h]) λ g z=>aZ g ((Op.store 1) [z,.nils] H3) λ g u_1 H4=>Gt g M c (qw 125) (aI 4 (ak (W M c (qw 126)) Q)) E D H4) (λ g=>Gt g M c (qw 125) (aI 4 (ak (W M c (qw 126)) Q)) E D H2))) /\
 (WE M c (qw 24) λ Q E D H=>Lz E 8 λ g d=>Ly g E 11 λ g a=>Bn g .eql d a λ g b=>aw g Q .normal ((7,b)::E) D H) /\
 (WE M c (qw 50) λ Q E D H=>Lz E 15 λ g e=>br g e (λ g=>Ly g E 0 λ g h=>Nf g 0 h H λ g a=>Ly g E 5 λ g f=>Fl g 2 f H λ g b=>Fl g 3 f H λ g d=>Xs g a b d H λ g u H1=>aw g Q .normal E D H1) (λ g=>aw g Q .normal E D H)) /\
 (WE M c (qw 71) λ Q E D H=>Lz E 19 λ g a=>Cb g .eql a (.int .i64 0) (λ g=>bq (W M c (qw 78)) (aI 1 Q) ((20,(.int .i64 0))::E) D H) (λ g=>aw g Q .normal E D H)) /\
 (WE M c (qw 93) λ Q E D H=>Lz E 25 λ g r=>Cb g .eql r (.int .i64 6) (λ g=>Ly g E 1 λ g i=>Ly g E 5 λ g f=>Fl g 1 f H λ g j=>Fl g 2 f H λ g l=>C3 M g (.func zV) [i,j,l] H λ g _ H1=>aw g Q .normal E D H1) (λ g=>Ly g E 25 λ g h=>Cb g .eql h (.int .i64 7) (λ g=>Ly g E 1 λ g i=>Ly g E 5 λ g f=>Fl g 2 f H λ g m=>C3 M g (.func wo) [i,m] H λ g b H1=>B3 g ((Op.extract 0) [b]) λ g n=>B3 g ((Op.extract 1) [b]) λ g a=>A3 g qo [(.int .i64 0),(.int .i64 0),(.int .i64 0),(.int .u64 0),(.int .u64 0),(.int .u64 0),(.int .u64 0),(.int .u64 0),(.int .u64 0),(.int .u64 0),(.int .u64 0)] H1 λ g s H2=>aZ g ((Op.store 11) [s,n] H2) λ g u H3=>Bn g .eql a (.int .i64 0) λ g d=>JN (λ (k:Bool->AV->AV->AHeap->Prop)=>B3 g (aA false (some d)) λ g w=>cd g w (λ g=>Bn g .eql a (.int .i64 50) λ g p=>k g p a H3) (λ g=>k g uu uu H3)) (λ g e _ H4=>B3 g (Op.pick [d,(.bool true),e]) λ g q=>aw g Q .normal ((7,q)::(22,a)::E) D H4)) (λ g=>aw g Q .normal E D H))) /\
 (WE M c (qw 126) λ Q E D H=>Lz E 23 λ g b=>Bn g .add b (.int .i64 1) λ g a=>aw g Q .normal ((23,a)::E) D H) /\
 (WE M c (qw 125) λ Q E D H=>Lz E 7 λ g C=>Mv g C λ g s=>Mv g s λ g b=>JN (λ (k:Bool->AV->AV->AV->AV->AV->AV->AV->AHeap->Prop)=>B3 g (aA true (some b)) λ g w=>cd g w (λ g=>Ly g E 0 λ g F=>Mv g F λ g d=>Ly g E 23 λ g B=>Mv g B λ g e=>B3 g (Op.nilCheck [d]) λ g f=>B3 g ((Op.fieldAddr 5) [f]) λ g h=>B3 g ((Op.aX 4 1) [h,e]) λ g i=>B3 g (Op.aa [i] H) λ g j=>Mv g j λ g v=>k g v j i h f e d H) (λ g=>k g uu uu uu uu uu uu uu H)) (λ g a _ _ _ _ _ _ H1=>JN (λ (k:Bool->AV->AV->AV->AV->AHeap->Prop)=>B3 g (aA false (some a)) λ g w=>cd g w (λ g=>Ly g E 1 λ g G=>Mv g G λ g l=>Ly g E 23 λ g r=>Mv g r λ g m=>C3 M g (.func xZ) [l,m] H1 λ g n H2=>B3 g ((Op.un .not) [n]) λ g x=>k g x n m l H2) (λ g=>k g uu uu uu uu H1)) (λ g p _ _ _ H3=>JN (λ (k:Bool->AV->AHeap->Prop)=>B3 g (aA true (some b)) λ g w=>cd g w (λ g=>B3 g (Op.pick [a,(.bool true),p]) λ g y=>k g y H3) (λ g=>k g uu H3)) (λ g q H4=>B3 g (Op.pick [b,q,(.bool false)]) λ g z=>Mv g z λ g A=>aw g Q .normal ((7,A)::E) D H4)))) /\
 (WE M c (qw 78) λ Q E D H=>Lz E 20 λ g i=>Ly g E 0 λ g j=>Ly g E 5 λ g l=>Fl g 1 l H λ g a=>B3 g (Op.nilCheck [j]) λ g b=>B3 g ((Op.fieldAddr 1) [b]) λ g d=>B3 g ((Op.aX 4 1) [d,a]) λ g e=>B3 g (Op.aa [e] H) λ g f=>B3 g (Op.bP [f]) λ g h=>Cb g .lss i h (λ g=>Gt g M c (qw 84) Q E D H) (λ g=>aw g (ak (W M c (qw 84)) Q) (.exit 1) E D H)) /\
 (WE M c (qw 84) λ Q E D H=>Lz E 0 λ g b=>Mv g b λ g d=>Nf g 0 d H λ g e=>Mv g b λ g f=>Ly g E 5 λ g F=>Fl g 1 F H λ g h=>B3 g (Op.nilCheck [f]) λ g i=>B3 g ((Op.fieldAddr 1) [i]) λ g j=>B3 g ((Op.aX 4 1) [j,h]) λ g l=>B3 g (Op.aa [l] H) λ g m=>Ly g E 20 λ g a=>Mv g a λ g n=>B3 g ((Op.aP 2) [m,n]) λ g p=>Fl g 0 p H λ g q=>Mv g b λ g r=>Fl g 1 F H λ g s=>B3 g (Op.nilCheck [r]) λ g v=>B3 g ((Op.fieldAddr 1) [v]) λ g x=>B3 g ((Op.aX 4 1) [x,s]) λ g y=>B3 g (Op.aa [y] H) λ g z=>Mv g a λ g A=>B3 g ((Op.aP 2) [z,A]) λ g B=>Fl g 1 B H λ g C=>Xs g e q C H λ g u H1=>aw g (aI 2 (ak (W M c (qw 87)) Q)) .normal E D H1) /\
 (WE M c (qw 87) λ Q E D H=>Lz E 20 λ g b=>Bn g .add b (.int .i64 1) λ g a=>aw g Q .normal ((20,a)::E) D H):=by (repeat' apply And.intro)<;>(intro _ _ _ _;refine aF ?_;kernel_rfl)
theorem qrj:(aj Try.prog).func jb=some M4/\M4.results=[.tmp 6]:=xw (by kernel_rfl)
theorem qrk (h:W M ⟨none,jb⟩ (qw 0) true (aL M [.tmp 6] Q) [(0,a0),(1,a1),(2,a2)] [] H):kt M jb [a0,a1,a2] H Q:=aG (by decide) qrj (ks:=qj0) (by kernel_rfl) h
def MB:aq:=funcAt Try.prog uS
def qpp:Kp:=⟨[0,1],false,[0]⟩
def qpq (k:Nat):Kp × ah:=(qpp,part MB.body k)
theorem qyl (M:aM) (c:Ctx):(WE M c (qpq 0) λ Q E D H=>Lz E 0 λ g a=>Nf g 2 a H λ g d=>Ly g E 1 λ g e=>aZ g ((Op.append qo 11 88) [d,e] H) λ g b H1=>Ns g 2 a b H1 λ g u H2=>aw g Q .normal E D H2):=by intro _ _ _ _;refine aF ?_;kernel_rfl
theorem qyj:(aj Try.prog).func uS=some MB/\MB.results=[]:=xw (by kernel_rfl)
theorem qyk (h:W M ⟨none,uS⟩ (qpq 0) true (aL M [] Q) [(0,a0),(1,a1)] [] H):kt M uS [a0,a1] H Q:=aG (by decide) qyj (ks:=qpp) (by kernel_rfl) h
def Nw:aq:=funcAt Try.prog qD
def qto:Kp:=⟨[0,1,4,5],false,[0,2,17]⟩
def AE (k:Nat):Kp × ah:=(qto,part Nw.body k)
theorem q2j (M:aM) (c:Ctx):(WE M c (AE 0) λ Q E D H=>W M c (AE 2) true Q ((5,(.int .i64 0))::(4,.nilp)::E) D H) /\
 (WE M c (AE 2) λ Q E D H=>Lz E 0 λ g n=>B3 g ((Op.eq .ptr false) [n,.nilp] H) λ g p=>br g p (λ g=>aw g (aI 0 (ak (W M c (AE 17)) Q)) .ret ((5,(.int .i64 1))::(4,.nilp)::E) D H) (λ g=>Ly g E 1 λ g j=>Bn g .lss j (.int .i64 0) λ g d=>JN (λ (k:Bool->AV->AV->AV->AV->AV->AV->AV->AHeap->Prop)=>B3 g (aA false (some d)) λ g w=>cd g w (λ g=>Ly g E 0 λ g a=>B3 g (Op.nilCheck [a]) λ g e=>B3 g ((Op.fieldAddr 1) [e]) λ g f=>B3 g (Op.aa [f] H) λ g h=>B3 g (Op.bP [h]) λ g i=>Bn g .geq j i λ g l=>k g l i h f e a j H) (λ g=>k g uu uu uu uu uu uu uu H)) (λ g b _ _ _ _ _ _ H1=>B3 g (Op.pick [d,(.bool true),b]) λ g m=>br g m (λ g=>aw g (aI 0 (ak (W M c (AE 17)) Q)) .ret ((5,(.int .i64 2))::(4,.nilp)::E) D H1) (λ g=>aw g (aI 0 (ak (W M c (AE 17)) Q)) .normal E D H1)))) /\
 (WE M c (AE 17) λ Q E D H=>Lz E 0 λ g d=>Nf g 1 d H λ g a=>Ly g E 1 λ g e=>Xl g a e H λ g b=>aw g Q .ret ((5,(.int .i64 0))::(4,b)::E) D H):=by (repeat' apply And.intro)<;>(intro _ _ _ _;refine aF ?_;kernel_rfl)
theorem q2h:(aj Try.prog).func qD=some Nw/\Nw.results=[.tmp 4,.tmp 5]:=xw (by kernel_rfl)
theorem q2i (h:W M ⟨none,qD⟩ (AE 0) true (aL M [.tmp 4,.tmp 5] Q) [(0,a0),(1,a1)] [] H):kt M qD [a0,a1] H Q:=aG (by decide) q2h (ks:=qto) (by kernel_rfl) h
def Mk:aq:=funcAt Try.prog vM
def qpl:Kp:=⟨[0,1,2,6,7,8],false,[0,4,12]⟩
def EP (k:Nat):Kp × ah:=(qpl,part Mk.body k)
theorem qpn (M:aM) (c:Ctx):(WE M c (EP 0) λ Q E D H=>Lz E 0 λ g e=>Ly g E 1 λ g f=>C3 M g (.func qD) [e,f] H λ g a H1=>B3 g ((Op.extract 0) [a]) λ g b=>B3 g ((Op.extract 1) [a]) λ g d=>W M c (EP 4) g Q ((8,d)::(7,b)::(6,(.int .i64 0))::E) D H1) /\
 (WE M c (EP 4) λ Q E D H=>Lz E 8 λ g b=>Cb g .neq b (.int .i64 0) (λ g=>Ly g E 8 λ g a=>aw g (ak (W M c (EP 12)) Q) .ret ((6,a)::E) D H) (λ g=>Gt g M c (EP 12) Q E D H)) /\
 (WE M c (EP 12) λ Q E D H=>Lz E 2 λ g b=>Ly g E 7 λ g d=>V3 g [b,d] λ g f vs=>C3 M g f vs H λ g a H1=>aw g Q .ret ((6,a)::E) D H1):=by (repeat' apply And.intro)<;>(intro _ _ _ _;refine aF ?_;kernel_rfl)
theorem qyf:(aj Try.prog).func vM=some Mk/\Mk.results=[.tmp 6]:=xw (by kernel_rfl)
theorem qpm (h:W M ⟨none,vM⟩ (EP 0) true (aL M [.tmp 6] Q) [(0,a0),(1,a1),(2,a2)] [] H):kt M vM [a0,a1,a2] H Q:=aG (by decide) qyf (ks:=qpl) (by kernel_rfl) h
def Mf:aq:=funcAt Try.prog yx
def qks:Kp:=⟨[0,1,3],false,[0]⟩
def qkt (k:Nat):Kp × ah:=(qks,part Mf.body k)
theorem qse (M:aM) (c:Ctx):(WE M c (qkt 0) λ Q E D H=>Lz E 0 λ g a=>Ly g E 1 λ g b=>B3 g (Op.aa [b] H) λ g d=>C3 M g (.func Df) [a,d] H λ g e H1=>aw g Q .ret ((3,e)::(3,(.int .i64 0))::E) D H1):=by intro _ _ _ _;refine aF ?_;kernel_rfl
theorem qsc:(aj Try.prog).func yx=some Mf/\Mf.results=[.tmp 3]:=xw (by kernel_rfl)
theorem qsd (h:W M ⟨none,yx⟩ (qkt 0) true (aL M [.tmp 3] Q) [(0,a0),(1,a1)] [] H):kt M yx [a0,a1] H Q:=aG (by decide) qsc (ks:=qks) (by kernel_rfl) h
def Kh:aq:=funcAt Try.prog yq
def qgp:Kp:=⟨[0,1,2,6,7],false,[0,4,12]⟩
def yt (k:Nat):Kp × ah:=(qgp,part Kh.body k)
theorem qme (M:aM) (c:Ctx):(WE M c (yt 0) λ Q E D H=>Lz E 0 λ g a=>Ly g E 1 λ g d=>Ly g E 2 λ g e=>B3 g (Op.bP [a]) λ g b=>B3 g ((Op.aR 11 [(some 0),(some 1),(some 2)]) [a,d,e,b]) λ g _=>W M c (yt 4) g Q ((6,.nils)::E) D H) /\
 (WE M c (yt 4) λ Q E D H=>Lz E 1 λ g a=>Ly g E 2 λ g b=>Cb g .eql a b (λ g=>Ly g E 0 λ g d=>aw g (ak (W M c (yt 12)) Q) .ret ((6,d)::E) D H) (λ g=>Gt g M c (yt 12) Q E D H)) /\
 (WE M c (yt 12) λ Q E D H=>Lz E 0 λ g j=>B3 g (Op.bP [j]) λ g d=>Ly g E 0 λ g b=>Ly g E 1 λ g l=>B3 g ((Op.aR 11 [none,(some 0),none]) [b,l]) λ g e=>Ly g E 2 λ g m=>B3 g ((Op.aR 11 [(some 0),none,none]) [b,m]) λ g f=>aZ g ((Op.append qo 11 88) [e,f] H) λ g a H1=>B3 g (Op.bP [a]) λ g h=>B3 g ((Op.aR 11 [(some 0),(some 1),none]) [a,h,d]) λ g i=>aZ g ((Op.db [(.int .i64 0),(.int .i64 0),(.int .i64 0),(.int .u64 0),(.int .u64 0),(.int .u64 0),(.int .u64 0),(.int .u64 0),(.int .u64 0),(.int .u64 0),(.int .u64 0)]) [i] H1) λ g u H2=>aw g Q .ret ((6,a)::(0,a)::(7,d)::E) D H2):=by (repeat' apply And.intro)<;>(intro _ _ _ _;refine aF ?_;kernel_rfl)
theorem qmc:(aj Try.prog).func yq=some Kh/\Kh.results=[.tmp 6]:=xw (by kernel_rfl)
theorem qmd (h:W M ⟨none,yq⟩ (yt 0) true (aL M [.tmp 6] Q) [(0,a0),(1,a1),(2,a2)] [] H):kt M yq [a0,a1,a2] H Q:=aG (by decide) qmc (ks:=qgp) (by kernel_rfl) h
def NV:aq:=funcAt Try.prog EF
def qjz:Kp:=⟨[0,1,2,6,7,8],false,[0,2,7,13,22,23]⟩
def js (k:Nat):Kp × ah:=(qjz,part NV.body k)
theorem qri (M:aM) (c:Ctx):(WE M c (js 0) λ Q E D H=>W M c (js 2) true Q ((7,(.bool false))::(6,(.int .u64 0))::E) D H) /\
 (WE M c (js 2) λ Q E D H=>Lz E 0 λ g i=>Ly g E 1 λ g j=>B3 g (Op.nilCheck [i]) λ g a=>B3 g ((Op.fieldAddr 1) [a]) λ g b=>B3 g ((Op.aX 4 1) [b,j]) λ g d=>B3 g (Op.aa [d] H) λ g e=>B3 g (Op.bP [e]) λ g f=>Bn g .sub f (.int .i64 1) λ g h=>bq (W M c (js 7)) (aI 0 (ak (W M c (js 23)) Q)) ((8,h)::E) D H) /\
 (WE M c (js 23) λ Q E D H=>aw true Q .ret ((7,(.bool false))::(6,(.int .u64 0))::E) D H) /\
 (WE M c (js 7) λ Q E D H=>Lz E 8 λ g a=>Cb g .geq a (.int .i64 0) (λ g=>Gt g M c (js 13) Q E D H) (λ g=>aw g (ak (W M c (js 13)) Q) (.exit 0) E D H)) /\
 (WE M c (js 13) λ Q E D H=>Lz E 0 λ g v=>Ly g E 1 λ g x=>B3 g (Op.nilCheck [v]) λ g e=>B3 g ((Op.fieldAddr 1) [e]) λ g f=>B3 g ((Op.aX 4 1) [f,x]) λ g h=>B3 g (Op.aa [h] H) λ g i=>Ly g E 8 λ g y=>B3 g ((Op.aP 2) [i,y]) λ g j=>Fl g 0 j H λ g l=>Ly g E 2 λ g z=>Cb g .eql l z (λ g=>Ly g E 0 λ g a=>Ly g E 1 λ g b=>B3 g (Op.nilCheck [a]) λ g m=>B3 g ((Op.fieldAddr 1) [m]) λ g n=>B3 g ((Op.aX 4 1) [n,b]) λ g p=>B3 g (Op.aa [p] H) λ g q=>Ly g E 8 λ g d=>B3 g ((Op.aP 2) [q,d]) λ g r=>Fl g 1 r H λ g s=>aw g (aI 1 (ak (W M c (js 22)) Q)) .ret ((7,(.bool true))::(6,s)::E) D H) (λ g=>aw g (aI 1 (ak (W M c (js 22)) Q)) .normal E D H)) /\
 (WE M c (js 22) λ Q E D H=>Lz E 8 λ g b=>Bn g .sub b (.int .i64 1) λ g a=>aw g Q .normal ((8,a)::E) D H):=by (repeat' apply And.intro)<;>(intro _ _ _ _;refine aF ?_;kernel_rfl)
theorem qrg:(aj Try.prog).func EF=some NV/\NV.results=[.tmp 6,.tmp 7]:=xw (by kernel_rfl)
theorem qrh (h:W M ⟨none,EF⟩ (js 0) true (aL M [.tmp 6,.tmp 7] Q) [(0,a0),(1,a1),(2,a2)] [] H):kt M EF [a0,a1,a2] H Q:=aG (by decide) qrg (ks:=qjz) (by kernel_rfl) h
end
end Go.Am
namespace Go.Am
abbrev Fi:Nat:=26
abbrev DN:Nat:=23
abbrev Ct:Nat:=68
abbrev Gc:Nat:=67
abbrev AK:Nat:=65
abbrev vc:Nat:=58
noncomputable section
open Go.Proofs Go.Proofs.Ytiibohocdbaekaa
variable {M:aM} [MK M] {H:AHeap} {Q:bu->AHeap->Prop} {a0 a1 a2:AV}
def Mi:aq:=funcAt Try.prog DN
def qmm:Kp:=⟨[0,2],false,[0,2,10]⟩
def ER (k:Nat):Kp × ah:=(qmm,part Mi.body k)
theorem qt8 (M:aM) (c:Ctx):(WE M c (ER 0) λ Q E D H=>W M c (ER 2) true Q ((2,.nils)::E) D H) /\
 (WE M c (ER 2) λ Q E D H=>Lz E 0 λ g a=>B3 g ((Op.eq .ptr false) [a,.nilp] H) λ g b=>br g b (λ g=>aw g (ak (W M c (ER 10)) Q) .ret ((2,.nils)::E) D H) (λ g=>Gt g M c (ER 10) Q E D H)) /\
 (WE M c (ER 10) λ Q E D H=>Lz E 0 λ g a=>Nf g 2 a H λ g b=>C3 M g (.func vc) [b] H λ g d H1=>aw g Q .ret ((2,d)::E) D H1):=by (repeat' apply And.intro)<;>(intro _ _ _ _;refine aF ?_;kernel_rfl)
theorem qt6:(aj Try.prog).func DN=some Mi/\Mi.results=[.tmp 2]:=xw (by kernel_rfl)
theorem qt7 (h:W M ⟨none,DN⟩ (ER 0) true (aL M [.tmp 2] Q) [(0,a0)] [] H):kt M DN [a0] H Q:=aG (by decide) qt6 (ks:=qmm) (by kernel_rfl) h
def MQ:aq:=funcAt Try.prog Fi
def qpc:Kp:=⟨[0,1,2,6,7,8,21],false,[0]⟩
def qpd (k:Nat):Kp × ah:=(qpc,part MQ.body k)
theorem qyc (M:aM) (c:Ctx):(WE M c (qpd 0) λ Q E D H=>A3 true qu [(.int .i64 0),(.int .i64 0),(.bool false),(.bool false),(.int .u64 0),(.int .u64 0),(.int .u64 0),(.int .u64 0),(.int .u64 0),(.int .u64 0),(.int .u64 0),(.int .u64 0),(.int .u64 0),(.int .u64 0),(.int .u64 0),(.int .u64 0),(.int .u64 0),(.int .u64 0),(.int .u64 0),(.int .u64 0),(.int .i64 0)] H λ g e H1=>Ly g E 0 λ g i=>Ly g E 1 λ g j=>C3 M g (.func qD) [i,j] H1 λ g a H2=>B3 g ((Op.extract 0) [a]) λ g b=>B3 g ((Op.extract 1) [a]) λ g _=>Ly g E 2 λ g l=>C3 M g (.func BX) [b,l] H2 λ g d H3=>B3 g ((Op.extract 0) [d]) λ g f=>B3 g ((Op.extract 1) [d]) λ g h=>aZ g ((Op.store 21) [e,f] H3) λ g u H4=>aw g Q .ret ((7,h)::(8,b)::(7,(.bool false))::(6,e)::E) D H4):=by intro _ _ _ _;refine aF ?_;kernel_rfl
theorem qya:(aj Try.prog).func Fi=some MQ/\MQ.results=[.cz 21 6,.tmp 7]:=xw (by kernel_rfl)
theorem qyb (h:W M ⟨none,Fi⟩ (qpd 0) true (aL M [.cz 21 6,.tmp 7] Q) [(0,a0),(1,a1),(2,a2)] [] H):kt M Fi [a0,a1,a2] H Q:=aG (by decide) qya (ks:=qpc) (by kernel_rfl) h
def Oa:aq:=funcAt Try.prog Ct
def qno:Kp:=⟨[0,1,4],false,[0]⟩
def qnp (k:Nat):Kp × ah:=(qno,part Oa.body k)
theorem qvw (M:aM) (c:Ctx):(WE M c (qnp 0) λ Q E D H=>Lz E 0 λ g a=>C3 M g (.func AK) [a] H λ g b H1=>Ly g E 1 λ g d=>C3 M g (.func D4) [b,d] H1 λ g e H2=>aw g Q .ret ((4,e)::(4,(.int .i64 0))::E) D H2):=by intro _ _ _ _;refine aF ?_;kernel_rfl
theorem qvu:(aj Try.prog).func Ct=some Oa/\Oa.results=[.tmp 4]:=xw (by kernel_rfl)
theorem qvv (h:W M ⟨none,Ct⟩ (qnp 0) true (aL M [.tmp 4] Q) [(0,a0),(1,a1)] [] H):kt M Ct [a0,a1] H Q:=aG (by decide) qvu (ks:=qno) (by kernel_rfl) h
def Nh:aq:=funcAt Try.prog Gc
def qkx:Kp:=⟨[0,1,4],false,[0]⟩
def qky (k:Nat):Kp × ah:=(qkx,part Nh.body k)
theorem qsi (M:aM) (c:Ctx):(WE M c (qky 0) λ Q E D H=>Lz E 0 λ g a=>C3 M g (.func AK) [a] H λ g b H1=>Ly g E 1 λ g d=>C3 M g (.func Dc) [b,d] H1 λ g e H2=>aw g Q .ret ((4,e)::(4,.nils)::E) D H2):=by intro _ _ _ _;refine aF ?_;kernel_rfl
theorem qsg:(aj Try.prog).func Gc=some Nh/\Nh.results=[.tmp 4]:=xw (by kernel_rfl)
theorem qsh (h:W M ⟨none,Gc⟩ (qky 0) true (aL M [.tmp 4] Q) [(0,a0),(1,a1)] [] H):kt M Gc [a0,a1] H Q:=aG (by decide) qsg (ks:=qkx) (by kernel_rfl) h
def MP:aq:=funcAt Try.prog vc
def qgu:Kp:=⟨[0,2],false,[0,2,10]⟩
def vh (k:Nat):Kp × ah:=(qgu,part MP.body k)
theorem qna (M:aM) (c:Ctx):(WE M c (vh 0) λ Q E D H=>W M c (vh 2) true Q ((2,.nils)::E) D H) /\
 (WE M c (vh 2) λ Q E D H=>Lz E 0 λ g a=>B3 g ((Op.eq .slice false) [a,.nils] H) λ g b=>br g b (λ g=>aw g (ak (W M c (vh 10)) Q) .ret ((2,.nils)::E) D H) (λ g=>Gt g M c (vh 10) Q E D H)) /\
 (WE M c (vh 10) λ Q E D H=>aZ true ((Op.buildSlice qo 0 [(.int .i64 0),(.int .i64 0),(.int .i64 0),(.int .u64 0),(.int .u64 0),(.int .u64 0),(.int .u64 0),(.int .u64 0),(.int .u64 0),(.int .u64 0),(.int .u64 0)] []) []) λ g o1 k1=>Ly g E 0 λ g a=>aZ g ((Op.append qo 11 88) [(k1 H.next),a] (H.alloc o1)) λ g b H2=>aw g Q .ret ((2,b)::E) D H2):=by (repeat' apply And.intro)<;>(intro _ _ _ _;refine aF ?_;kernel_rfl)
theorem qm8:(aj Try.prog).func vc=some MP/\MP.results=[.tmp 2]:=xw (by kernel_rfl)
theorem qm9 (h:W M ⟨none,vc⟩ (vh 0) true (aL M [.tmp 2] Q) [(0,a0)] [] H):kt M vc [a0] H Q:=aG (by decide) qm8 (ks:=qgu) (by kernel_rfl) h
def Ni:aq:=funcAt Try.prog AK
def qpo:Kp:=⟨[0,2],false,[0,2,10]⟩
def Cc (k:Nat):Kp × ah:=(qpo,part Ni.body k)
theorem qyi (M:aM) (c:Ctx):(WE M c (Cc 0) λ Q E D H=>W M c (Cc 2) true Q ((2,.nilp)::E) D H) /\
 (WE M c (Cc 2) λ Q E D H=>Lz E 0 λ g a=>B3 g ((Op.eq .ptr false) [a,.nilp] H) λ g b=>br g b (λ g=>aw g (ak (W M c (Cc 10)) Q) .ret ((2,.nilp)::E) D H) (λ g=>Gt g M c (Cc 10) Q E D H)) /\
 (WE M c (Cc 10) λ Q E D H=>Lz E 0 λ g a=>Nf g 0 a H λ g b=>aw g Q .ret ((2,b)::E) D H):=by (repeat' apply And.intro)<;>(intro _ _ _ _;refine aF ?_;kernel_rfl)
theorem qyg:(aj Try.prog).func AK=some Ni/\Ni.results=[.tmp 2]:=xw (by kernel_rfl)
theorem qyh (h:W M ⟨none,AK⟩ (Cc 0) true (aL M [.tmp 2] Q) [(0,a0)] [] H):kt M AK [a0] H Q:=aG (by decide) qyg (ks:=qpo) (by kernel_rfl) h
end
end Go.Am
namespace Go.Am
abbrev FL:Nat:=7
abbrev AR:Nat:=69
abbrev Ae:Nat:=29
noncomputable section
open Go.Proofs Go.Proofs.Ytiibohocdbaekaa
variable {M:aM} [MK M] {H:AHeap} {Q:bu->AHeap->Prop} {a0 a1 a2:AV}
def LA:aq:=funcAt Try.prog FL
def qp5:Kp:=⟨[0,1,2,4,5,6,7,8,9,10,11],false,[0,4,6,14,19,25,33,39,50,51,52]⟩
def zw (k:Nat):Kp × ah:=(qp5,part LA.body k)
theorem qy2 (M:aM) (c:Ctx):(WE M c (zw 0) λ Q E D H=>Lz E 0 λ g b=>A3 g ve (AV.cells b) H λ g d H1=>C3 M g (.func qql) [] H1 λ g a H2=>W M c (zw 4) g Q ((5,a)::(4,(.bool false))::(2,d)::E) D H2) /\
 (WE M c (zw 4) λ Q E D H=>Lz E 2 λ g h=>B3 g ((Op.ao 4) [h] H) λ g b=>Ly g E 1 λ g i=>C3 M g (.func CC) [b,i] H λ g a H1=>B3 g ((Op.extract 0) [a]) λ g d=>B3 g ((Op.extract 1) [a]) λ g e=>B3 g ((Op.extract 2) [a]) λ g f=>W M c (zw 6) g Q ((8,f)::(7,e)::(6,d)::E) D H1) /\
 (WE M c (zw 6) λ Q E D H=>Lz E 8 λ g i=>B3 g ((Op.un .not) [i]) λ g b=>JN (λ (k:Bool->AV->AV->AHeap->Prop)=>B3 g (aA false (some b)) λ g w=>cd g w (λ g=>Ly g E 5 λ g e=>B3 g ((Op.un .not) [e]) λ g f=>k g f e H) (λ g=>k g uu uu H)) (λ g a _ H1=>B3 g (Op.pick [b,(.bool true),a]) λ g h=>br g h (λ g=>Ly g E 5 λ g d=>aw g (ak (W M c (zw 14)) Q) .ret ((4,d)::E) D H1) (λ g=>Gt g M c (zw 14) Q E D H1))) /\
 (WE M c (zw 14) λ Q E D H=>bq (W M c (zw 19)) (aI 0 (ak (W M c (zw 52)) Q)) ((9,(.int .i64 0))::E) D H) /\
 (WE M c (zw 52) λ Q E D H=>Lz E 5 λ g a=>aw g Q .ret ((4,a)::E) D H) /\
 (WE M c (zw 19) λ Q E D H=>Lz E 9 λ g b=>Ly g E 1 λ g d=>B3 g (Op.bP [d]) λ g a=>Cb g .lss b a (λ g=>Gt g M c (zw 25) Q E D H) (λ g=>aw g (ak (W M c (zw 25)) Q) (.exit 0) E D H)) /\
 (WE M c (zw 25) λ Q E D H=>Lz E 7 λ g d=>Ly g E 6 λ g e=>Ly g E 1 λ g f=>Ly g E 9 λ g h=>B3 g ((Op.aP 5) [f,h]) λ g a=>B3 g ((Op.ao 5) [a] H) λ g b=>C3 M g (.func jb) [d,e,b] H λ g _ H1=>bq (W M c (zw 33)) (aI 2 (aI 1 (ak (W M c (zw 51)) Q))) ((10,(.int .i64 0))::E) D H1) /\
 (WE M c (zw 51) λ Q E D H=>Lz E 9 λ g b=>Bn g .add b (.int .i64 1) λ g a=>aw g Q .normal ((9,a)::E) D H) /\
 (WE M c (zw 33) λ Q E D H=>Lz E 10 λ g a=>Ly g E 2 λ g d=>Fl g 0 d H λ g b=>Cb g .lss a b (λ g=>Gt g M c (zw 39) Q E D H) (λ g=>aw g (ak (W M c (zw 39)) Q) (.exit 2) E D H)) /\
 (WE M c (zw 39) λ Q E D H=>Lz E 6 λ g f=>Ly g E 2 λ g h=>Fl g 1 h H λ g b=>Ly g E 10 λ g d=>C3 M g (.func Ae) [f,b,d] H λ g a H1=>B3 g ((Op.un .not) [a]) λ g e=>br g e (λ g=>aw g (aI 3 (ak (W M c (zw 50)) Q)) .ret ((4,(.bool false))::(11,a)::E) D H1) (λ g=>aw g (aI 3 (ak (W M c (zw 50)) Q)) .normal ((11,a)::E) D H1)) /\
 (WE M c (zw 50) λ Q E D H=>Lz E 10 λ g a=>Bn g .add a (.int .i64 1) λ g b=>aw g Q .normal ((10,b)::E) D H):=by (repeat' apply And.intro)<;>(intro _ _ _ _;refine aF ?_;kernel_rfl)
theorem qy0:(aj Try.prog).func FL=some LA/\LA.results=[.tmp 4]:=xw (by kernel_rfl)
theorem qy1 (h:W M ⟨none,FL⟩ (zw 0) true (aL M [.tmp 4] Q) [(0,a0),(1,a1)] [] H):kt M FL [a0,a1] H Q:=aG (by decide) qy0 (ks:=qp5) (by kernel_rfl) h
def Lx:aq:=funcAt Try.prog Ae
def qp6:Kp:=⟨[0,1,2,6,7,8,9,10,11,12,13,14,15],false,[0,4,8,10,15,21,27,32,38,41,42,48,54,61,62]⟩
def zb (k:Nat):Kp × ah:=(qp6,part Lx.body k)
theorem qp7 (M:aM) (c:Ctx):(WE M c (zb 0) λ Q E D H=>Lz E 0 λ g b=>C3 M g (.func DN) [b] H λ g a H1=>W M c (zb 4) g Q ((7,a)::(6,(.bool false))::E) D H1) /\
 (WE M c (zb 4) λ Q E D H=>Lz E 0 λ g b=>Ly g E 2 λ g d=>C3 M g (.func Gc) [b,d] H λ g a H1=>W M c (zb 8) g Q ((9,(.int .i64 0))::(8,a)::E) D H1) /\
 (WE M c (zb 8) λ Q E D H=>W M c (zb 10) true Q ((10,(.int .i64 0))::E) D H) /\
 (WE M c (zb 10) λ Q E D H=>bq (W M c (zb 15)) (aI 0 (ak (W M c (zb 62)) Q)) ((11,(.int .i64 0))::E) D H) /\
 (WE M c (zb 62) λ Q E D H=>Lz E 10 λ g b=>Bn g .eql b (.int .i64 0) λ g d=>JN (λ (k:Bool->AV->AV->AV->AHeap->Prop)=>B3 g (aA false (some d)) λ g w=>cd g w (λ g=>Bn g .eql b (.int .i64 1) λ g h=>k g h h b H) (λ g=>k g uu uu uu H)) (λ g a _ _ H1=>JN (λ (k:Bool->AV->AV->AHeap->Prop)=>B3 g (aA true (some a)) λ g w=>cd g w (λ g=>Ly g E 9 λ g l=>Bn g .eql l (.int .i64 1) λ g m=>k g m l H1) (λ g=>k g uu uu H1)) (λ g f _ H2=>JN (λ (k:Bool->AV->AHeap->Prop)=>B3 g (aA false (some d)) λ g w=>cd g w (λ g=>B3 g (Op.pick [a,f,(.bool false)]) λ g i=>k g i H2) (λ g=>k g uu H2)) (λ g e H3=>B3 g (Op.pick [d,(.bool true),e]) λ g j=>aw g Q .ret ((6,j)::E) D H3)))) /\
 (WE M c (zb 15) λ Q E D H=>Lz E 11 λ g a=>Ly g E 1 λ g b=>Cb g .lss a b (λ g=>Gt g M c (zb 21) Q E D H) (λ g=>aw g (ak (W M c (zb 21)) Q) (.exit 0) E D H)) /\
 (WE M c (zb 21) λ Q E D H=>Lz E 0 λ g n=>Ly g E 11 λ g h=>Ly g E 2 λ g p=>C3 M g (.func Fi) [n,h,p] H λ g b H1=>B3 g ((Op.extract 0) [b]) λ g i=>B3 g ((Op.extract 1) [b]) λ g j=>A3 g qu [(.int .i64 0),(.int .i64 0),(.bool false),(.bool false),(.int .u64 0),(.int .u64 0),(.int .u64 0),(.int .u64 0),(.int .u64 0),(.int .u64 0),(.int .u64 0),(.int .u64 0),(.int .u64 0),(.int .u64 0),(.int .u64 0),(.int .u64 0),(.int .u64 0),(.int .u64 0),(.int .u64 0),(.int .u64 0),(.int .i64 0)] H1 λ g d H2=>aZ g ((Op.store 21) [d,i] H2) λ g u H3=>Ly g E 0 λ g e=>Ly g E 2 λ g f=>C3 M g (.func Ct) [e,f] H3 λ g l H4=>Ly g E 11 λ g a=>Bn g .eql l a λ g m=>W M c (zb 27) g (aI 1 (ak (W M c (zb 61)) Q)) ((14,m)::(13,j)::(12,d)::E) D H4) /\
 (WE M c (zb 61) λ Q E D H=>Lz E 11 λ g a=>Bn g .add a (.int .i64 1) λ g b=>aw g Q .normal ((11,b)::E) D H) /\
 (WE M c (zb 27) λ Q E D H=>bq (W M c (zb 32)) (aI 2 (ak (W M c (zb 42)) Q)) ((15,(.int .i64 0))::E) D H) /\
 (WE M c (zb 42) λ Q E D H=>Lz E 13 λ g a=>br g a (λ g=>Ly g E 9 λ g d=>Bn g .add d (.int .i64 1) λ g b=>Gt g M c (zb 48) Q ((9,b)::E) D H) (λ g=>Gt g M c (zb 48) Q E D H)) /\
 (WE M c (zb 32) λ Q E D H=>Lz E 15 λ g a=>Ly g E 8 λ g d=>B3 g (Op.bP [d]) λ g b=>Cb g .lss a b (λ g=>Gt g M c (zb 38) Q E D H) (λ g=>aw g (ak (W M c (zb 38)) Q) (.exit 2) E D H)) /\
 (WE M c (zb 48) λ Q E D H=>Lz E 12 λ g a=>Fl g 1 a H λ g b=>Cb g .eql b (.int .i64 2) (λ g=>Ly g E 10 λ g d=>Bn g .add d (.int .i64 1) λ g e=>Gt g M c (zb 54) Q ((10,e)::E) D H) (λ g=>Gt g M c (zb 54) Q E D H)) /\
 (WE M c (zb 38) λ Q E D H=>Lz E 14 λ g b=>JN (λ (k:Bool->AV->AV->AV->AV->AV->AV->AHeap->Prop)=>B3 g (aA false (some b)) λ g w=>cd g w (λ g=>Ly g E 8 λ g i=>Ly g E 15 λ g d=>B3 g ((Op.aP 1) [i,d]) λ g e=>B3 g (Op.aa [e] H) λ g f=>Ly g E 11 λ g h=>Bn g .eql f h λ g j=>k g j h f e d i H) (λ g=>k g uu uu uu uu uu uu H)) (λ g a _ _ _ _ _ H1=>B3 g (Op.pick [b,(.bool true),a]) λ g l=>aw g (aI 3 (ak (W M c (zb 41)) Q)) .normal ((14,l)::E) D H1)) /\
 (WE M c (zb 54) λ Q E D H=>Lz E 13 λ g r=>JN (λ (k:Bool->AV->AV->AHeap->Prop)=>B3 g (aA true (some r)) λ g w=>cd g w (λ g=>Ly g E 14 λ g s=>B3 g ((Op.un .not) [s]) λ g I=>k g I s H) (λ g=>k g uu uu H)) (λ g l _ H1=>B3 g (Op.pick [r,l,(.bool false)]) λ g v=>JN (λ (k:Bool->AV->AV->AV->AV->AV->AHeap->Prop)=>B3 g (aA true (some v)) λ g w=>cd g w (λ g=>Ly g E 7 λ g J=>Ly g E 11 λ g x=>Ly g E 2 λ g L=>C3 M g (.func AR) [J,x,L] H1 λ g y H2=>B3 g ((Op.un .not) [y]) λ g N=>k g N y L x J H2) (λ g=>k g uu uu uu uu uu H1)) (λ g m _ _ _ _ H3=>B3 g (Op.pick [v,m,(.bool false)]) λ g a=>JN (λ (k:Bool->AV->AV->AV->AV->AV->AV->AHeap->Prop)=>B3 g (aA false (some a)) λ g w=>cd g w (λ g=>Ly g E 0 λ g P=>Ly g E 2 λ g h=>C3 M g (.func Ct) [P,h] H3 λ g z H4=>Ly g E 11 λ g b=>Bn g .eql z b λ g A=>k g A A b z h P H4) (λ g=>k g uu uu uu uu uu uu H3)) (λ g d _ _ _ _ _ H5=>JN (λ (k:Bool->AV->AV->AV->AHeap->Prop)=>B3 g (aA true (some d)) λ g w=>cd g w (λ g=>Ly g E 12 λ g R=>B3 g ((Op.fieldAddr 1) [R]) λ g B=>B3 g (Op.aa [B] H5) λ g C=>Bn g .neq C (.int .i64 2) λ g S=>k g S C B H5) (λ g=>k g uu uu uu H5)) (λ g n _ _ H6=>JN (λ (k:Bool->AV->AV->AHeap->Prop)=>B3 g (aA false (some a)) λ g w=>cd g w (λ g=>B3 g (Op.pick [d,n,(.bool false)]) λ g F=>k g F F H6) (λ g=>k g uu uu H6)) (λ g e _ H7=>JN (λ (k:Bool->AV->AV->AV->AV->AV->AHeap->Prop)=>B3 g (aA true (some e)) λ g w=>cd g w (λ g=>Ly g E 7 λ g i=>Ly g E 11 λ g f=>Ly g E 2 λ g j=>C3 M g (.func AR) [i,f,j] H7 λ g G H8=>B3 g ((Op.un .not) [G]) λ g T=>k g T G j f i H8) (λ g=>k g uu uu uu uu uu H7)) (λ g p _ _ _ _ H9=>JN (λ (k:Bool->AV->AHeap->Prop)=>B3 g (aA false (some a)) λ g w=>cd g w (λ g=>B3 g (Op.pick [e,p,(.bool false)]) λ g U=>k g U H9) (λ g=>k g uu H9)) (λ g q H10=>B3 g (Op.pick [a,(.bool true),q]) λ g V=>br g V (λ g=>aw g Q .ret ((6,(.bool false))::E) D H10) (λ g=>aw g Q .normal E D H10))))))))) /\
 (WE M c (zb 41) λ Q E D H=>Lz E 15 λ g a=>Bn g .add a (.int .i64 1) λ g b=>aw g Q .normal ((15,b)::E) D H):=by (repeat' apply And.intro)<;>(intro _ _ _ _;refine aF ?_;kernel_rfl)
theorem qy3:(aj Try.prog).func Ae=some Lx/\Lx.results=[.tmp 6]:=xw (by kernel_rfl)
theorem qy4 (h:W M ⟨none,Ae⟩ (zb 0) true (aL M [.tmp 6] Q) [(0,a0),(1,a1),(2,a2)] [] H):kt M Ae [a0,a1,a2] H Q:=aG (by decide) qy3 (ks:=qp6) (by kernel_rfl) h
def LM:aq:=funcAt Try.prog AR
def qtx:Kp:=⟨[0,1,2,6,7],false,[0,2,7,13,22,23]⟩
def pB (k:Nat):Kp × ah:=(qtx,part LM.body k)
theorem q3c (M:aM) (c:Ctx):(WE M c (pB 0) λ Q E D H=>W M c (pB 2) true Q ((6,(.bool false))::E) D H) /\
 (WE M c (pB 2) λ Q E D H=>bq (W M c (pB 7)) (aI 0 (ak (W M c (pB 23)) Q)) ((7,(.int .i64 0))::E) D H) /\
 (WE M c (pB 23) λ Q E D H=>aw true Q .ret ((6,(.bool false))::E) D H) /\
 (WE M c (pB 7) λ Q E D H=>Lz E 7 λ g b=>Ly g E 0 λ g d=>B3 g (Op.bP [d]) λ g a=>Cb g .lss b a (λ g=>Gt g M c (pB 13) Q E D H) (λ g=>aw g (ak (W M c (pB 13)) Q) (.exit 0) E D H)) /\
 (WE M c (pB 13) λ Q E D H=>Lz E 0 λ g h=>Ly g E 7 λ g i=>B3 g ((Op.aP 11) [h,i]) λ g j=>Fl g 1 j H λ g l=>Ly g E 1 λ g q=>Bn g .eql l q λ g b=>JN (λ (k:Bool->AV->AV->AV->AV->AV->AV->AV->AHeap->Prop)=>B3 g (aA true (some b)) λ g w=>cd g w (λ g=>B3 g ((Op.aP 11) [h,i]) λ g d=>B3 g ((Op.fieldAddr 2) [d]) λ g e=>B3 g (Op.aa [e] H) λ g f=>Ly g E 2 λ g m=>Bn g .eql f m λ g n=>k g n m f e d i h H) (λ g=>k g uu uu uu uu uu uu uu H)) (λ g a _ _ _ _ _ _ H1=>B3 g (Op.pick [b,a,(.bool false)]) λ g p=>br g p (λ g=>aw g (aI 1 (ak (W M c (pB 22)) Q)) .ret ((6,(.bool true))::E) D H1) (λ g=>aw g (aI 1 (ak (W M c (pB 22)) Q)) .normal E D H1))) /\
 (WE M c (pB 22) λ Q E D H=>Lz E 7 λ g b=>Bn g .add b (.int .i64 1) λ g a=>aw g Q .normal ((7,a)::E) D H):=by (repeat' apply And.intro)<;>(intro _ _ _ _;refine aF ?_;kernel_rfl)
theorem q3a:(aj Try.prog).func AR=some LM/\LM.results=[.tmp 6]:=xw (by kernel_rfl)
theorem q3b (h:W M ⟨none,AR⟩ (pB 0) true (aL M [.tmp 6] Q) [(0,a0),(1,a1),(2,a2)] [] H):kt M AR [a0,a1,a2] H Q:=aG (by decide) q3a (ks:=qtx) (by kernel_rfl) h
end
end Go.Am
