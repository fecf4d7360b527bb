/- CodeM: CodeS CodeLA CodeCA. -/
import Derived.Test.YtbimikjajohflaaGreatDoorAmMB4
import Derived.Test.YtbimikjajohflaaGreatDoorAmMB1
import Derived.KernelRfl
import Derived.Test.YtbimikjajohflaaGreatDoorRows
set_option linter.unusedVariables false
set_option maxRecDepth 100000
namespace Go.Am
abbrev yi:Nat:=118
abbrev yw:Nat:=155
abbrev jy:Nat:=134
abbrev qkl:Nat:=135
abbrev yx:Nat:=153
abbrev yy:Nat:=133
abbrev wu:Nat:=132
abbrev qto:Nat:=7
abbrev Ds:Nat:=154
abbrev He:Nat:=94
abbrev FX:Nat:=64
abbrev vi:Nat:=65
abbrev yd:Nat:=27
abbrev jp:Nat:=61
abbrev ya:Nat:=89
abbrev Iq:Nat:=93
abbrev ME:Nat:=198
abbrev oG:Nat:=9
abbrev ph:Nat:=5
abbrev jo:Nat:=2
def xch:List UInt8:=[115,116,114,105,110,103,115,46,66,117,105,108,100,101,114,46,71,114,111,119,58,32,110,101,103,97,116,105,118,101,32,99,111,117,110,116]
def OH:List UInt8:=[48,49,50,51,52,53,54,55,56,57,97,98,99,100,101,102,103,104,105,106,107,108,109,110,111,112,113,114,115,116,117,118,119,120,121,122]
def mE:List UInt8:=[48,48,48,49,48,50,48,51,48,52,48,53,48,54,48,55,48,56,48,57,49,48,49,49,49,50,49,51,49,52,49,53,49,54,49,55,49,56,49,57,50,48,50,49,50,50,50,51,50,52,50,53,50,54,50,55,50,56,50,57,51,48,51,49,51,50,51,51,51,52,51,53,51,54,51,55,51,56,51,57,52,48,52,49,52,50,52,51,52,52,52,53,52,54,52,55,52,56,52,57,53,48,53,49,53,50,53,51,53,52,53,53,53,54,53,55,53,56,53,57,54,48,54,49,54,50,54,51,54,52,54,53,54,54,54,55,54,56,54,57,55,48,55,49,55,50,55,51,55,52,55,53,55,54,55,55,55,56,55,57,56,48,56,49,56,50,56,51,56,52,56,53,56,54,56,55,56,56,56,57,57,48,57,49,57,50,57,51,57,52,57,53,57,54,57,55,57,56,57,57]
def Lm:List UInt8:=[0,1,2,2,3,3,3,3,4,4,4,4,4,4,4,4,5,5,5,5,5,5,5,5,5,5,5,5,5,5,5,5,6,6,6,6,6,6,6,6,6,6,6,6,6,6,6,6,6,6,6,6,6,6,6,6,6,6,6,6,6,6,6,6,7,7,7,7,7,7,7,7,7,7,7,7,7,7,7,7,7,7,7,7,7,7,7,7,7,7,7,7,7,7,7,7,7,7,7,7,7,7,7,7,7,7,7,7,7,7,7,7,7,7,7,7,7,7,7,7,7,7,7,7,7,7,7,7,8,8,8,8,8,8,8,8,8,8,8,8,8,8,8,8,8,8,8,8,8,8,8,8,8,8,8,8,8,8,8,8,8,8,8,8,8,8,8,8,8,8,8,8,8,8,8,8,8,8,8,8,8,8,8,8,8,8,8,8,8,8,8,8,8,8,8,8,8,8,8,8,8,8,8,8,8,8,8,8,8,8,8,8,8,8,8,8,8,8,8,8,8,8,8,8,8,8,8,8,8,8,8,8,8,8,8,8,8,8,8,8,8,8,8,8,8,8,8,8,8,8,8,8,8,8,8,8]
noncomputable section
open Go.Proofs Go.Proofs.YtbimikjajohflaaGreatDoor
class MK (M:aO):Prop where
 ok:∀ n,cA n [7,16]=false->M.func n=(ak Tryz.prog).func n
theorem MK.at {M:aO} [h:MK M] {n:Nat} {F:aq} (hn:cA n [7,16]=false) (hF:(ak Tryz.prog).func n=some F):M.func n=some F:=(h.ok n hn).trans hF
theorem aM {M:aO} [h:MK M] {n:Nat} {F:aq} (hn:cA n [7,16]=false) {rs:List di} (hF:(ak Tryz.prog).func n=some F/\F.results=rs) {ks:Kp} {vs:List AV} (hk:mZ 0 vs.length ks.aj=true) {H:AHeap} {Q:bE->AHeap->Prop} (hw:W M ⟨none,n⟩ (ks,part F.body 0) true (aU M rs Q) (rI 0 vs) [] H):kj M n vs H Q:=Im (MK.at hn hF.1) hk (hF.2 ▸ hw)
variable {M:aO} [MK M] {H:AHeap} {Q:bE->AHeap->Prop} {a0 a1:AV}
def OL:aq:=funcAt Tryz.prog He
def qlf:Kp:=⟨[0,1,4],false,[0]⟩
def qlg (k:Nat):Kp × ab:=(qlf,part OL.body k)
theorem qlh (M:aO) (c:Ctx):(WE M c (qlg 0) λ Q E D H=>Lz E 0 λ g a=>Ly g E 1 λ g b=>C3 M g (.func yi) [a,b] H λ g d H1=>aB g Q .ret ((4,d)::(4,(.str []))::E) D H1):=by intro _ _ _ _;refine aL ?_;kernel_rfl
theorem qr3:(ak Tryz.prog).func He=some OL/\OL.results=[.tmp 4]:=xw (by kernel_rfl)
theorem qr4 (h:W M ⟨none,He⟩ (qlg 0) true (aU M [.tmp 4] Q) [(0,a0),(1,a1)] [] H):kj M He [a0,a1] H Q:=aM (by decide) qr3 (ks:=qlf) (by kernel_rfl) h
def Mp:aq:=funcAt Tryz.prog FX
def qjl:Kp:=⟨[0,1],false,[0,2,8]⟩
def FR (k:Nat):Kp × ab:=(qjl,part Mp.body k)
theorem KU (M:aO) (c:Ctx):(WE M c (FR 0) λ Q E D H=>Lz E 0 λ g a=>C3 M g (.func ya) [a] H λ g _ H1=>W M c (FR 2) g Q E D H1) /\
 (WE M c (FR 2) λ Q E D H=>Lz E 1 λ g a=>Cb g .lss a (.int .i64 0) (λ g=>B3 g ((Op.cM oG) [(.str xch)]) λ g _=>False) (λ g=>Gt g M c (FR 8) Q E D H)) /\
 (WE M c (FR 8) λ Q E D H=>Lz E 0 λ g d=>Nf g 1 d H λ g e=>B3 g (Op.cap [e]) λ g f=>Nf g 1 d H λ g h=>B3 g (Op.aS [h]) λ g i=>Bn g .sub f i λ g j=>Ly g E 1 λ g l=>Cb g .lss j l (λ g=>Ly g E 0 λ g a=>Ly g E 1 λ g b=>C3 M g (.func Iq) [a,b] H λ g _ H1=>aB g Q .normal E D H1) (λ g=>aB g Q .normal E D H)):=by (repeat' apply And.intro)<;>(intro _ _ _ _;refine aL ?_;kernel_rfl)
theorem qpx:(ak Tryz.prog).func FX=some Mp/\Mp.results=[]:=xw (by kernel_rfl)
theorem qpy (h:W M ⟨none,FX⟩ (FR 0) true (aU M [] Q) [(0,a0),(1,a1)] [] H):kj M FX [a0,a1] H Q:=aM (by decide) qpx (ks:=qjl) (by kernel_rfl) h
def O4:aq:=funcAt Tryz.prog jp
def qfk:Kp:=⟨[0,1,4,5],false,[0]⟩
def qfl (k:Nat):Kp × ab:=(qfk,part O4.body k)
theorem Pc (M:aO) (c:Ctx):(WE M c (qfl 0) λ Q E D H=>Lz E 0 λ g h=>C3 M g (.func ya) [h] H λ g _ H1=>Ly g E 0 λ g a=>Nf g 1 a H1 λ g d=>Ly g E 1 λ g i=>bA g ((Op.append ph 1 1) [d,i] H1) λ g e H2=>Ns g 1 a e H2 λ g u H3=>Ly g E 1 λ g b=>B3 g (Op.dj [b]) λ g f=>aB g Q .ret ((5,.nili)::(4,f)::(5,.nili)::(4,(.int .i64 0))::E) D H3):=by intro _ _ _ _;refine aL ?_;kernel_rfl
theorem qkv:(ak Tryz.prog).func jp=some O4/\O4.results=[.tmp 4,.tmp 5]:=xw (by kernel_rfl)
theorem qkw (h:W M ⟨none,jp⟩ (qfl 0) true (aU M [.tmp 4,.tmp 5] Q) [(0,a0),(1,a1)] [] H):kj M jp [a0,a1] H Q:=aM (by decide) qkv (ks:=qfk) (by kernel_rfl) h
def O8:aq:=funcAt Tryz.prog yd
def qij:Kp:=⟨[0,2],false,[0]⟩
def qik (k:Nat):Kp × ab:=(qij,part O8.body k)
theorem qil (M:aO) (c:Ctx):(WE M c (qik 0) λ Q E D H=>Lz E 0 λ g a=>Nf g 1 a H λ g f=>B3 g (Op.fg [f]) λ g h=>Nf g 1 a H λ g b=>B3 g (Op.aS [b]) λ g d=>bA g ((Op.dX ph) [h,d] H) λ g e H1=>aB g Q .ret ((2,e)::(2,(.str []))::E) D H1):=by intro _ _ _ _;refine aL ?_;kernel_rfl
theorem qos:(ak Tryz.prog).func yd=some O8/\O8.results=[.tmp 2]:=xw (by kernel_rfl)
theorem qot (h:W M ⟨none,yd⟩ (qik 0) true (aU M [.tmp 2] Q) [(0,a0)] [] H):kj M yd [a0] H Q:=aM (by decide) qos (ks:=qij) (by kernel_rfl) h
def N6:aq:=funcAt Tryz.prog vi
def qki:Kp:=⟨[0,2],false,[0]⟩
def qkj (k:Nat):Kp × ab:=(qki,part N6.body k)
theorem qqu (M:aO) (c:Ctx):(WE M c (qkj 0) λ Q E D H=>Lz E 0 λ g a=>Nf g 1 a H λ g b=>B3 g (Op.aS [b]) λ g d=>aB g Q .ret ((2,d)::(2,(.int .i64 0))::E) D H):=by intro _ _ _ _;refine aL ?_;kernel_rfl
theorem qqs:(ak Tryz.prog).func vi=some N6/\N6.results=[.tmp 2]:=xw (by kernel_rfl)
theorem qqt (h:W M ⟨none,vi⟩ (qkj 0) true (aU M [.tmp 2] Q) [(0,a0)] [] H):kj M vi [a0] H Q:=aM (by decide) qqs (ks:=qki) (by kernel_rfl) h
def PA:aq:=funcAt Tryz.prog yi
def qfj:Kp:=⟨[0,1,4,5,6,8],false,[0,2,6,14,24]⟩
def zf (k:Nat):Kp × ab:=(qfj,part PA.body k)
theorem Lh (M:aO) (c:Ctx):(WE M c (zf 0) λ Q E D H=>W M c (zf 2) true Q ((4,(.str []))::E) D H) /\
 (WE M c (zf 2) λ Q E D H=>Lz E 1 λ g a=>Cb g .eql a (.int .i64 10) (λ g=>W M c (zf 6) g (aw (W M c (zf 24)) Q) E D H) (λ g=>Gt g M c (zf 24) Q E D H)) /\
 (WE M c (zf 24) λ Q E D H=>Lz E 0 λ g d=>Ly g E 1 λ g e=>C3 M g (.func qkl) [.nils,d,e,(.bool false),(.bool false)] H λ g a H1=>B3 g ((Op.extract 0) [a]) λ g _=>B3 g ((Op.extract 1) [a]) λ g b=>aB g Q .ret ((4,b)::(8,b)::E) D H1) /\
 (WE M c (zf 6) λ Q E D H=>Lz E 0 λ g e=>Cb g .lss e (.int .u64 100) (λ g=>Ly g E 0 λ g a=>B3 g ((Op.wrap .i64) [a]) λ g b=>C3 M g (.func wu) [b] H λ g d H1=>aB g (aw (W M c (zf 14)) Q) .ret ((4,d)::E) D H1) (λ g=>Gt g M c (zf 14) Q E D H)) /\
 (WE M c (zf 14) λ Q E D H=>A3 true ME (List.replicate 24 (.int .u8 0)) H λ g b H1=>Ly g E 0 λ g i=>C3 M g (.func yy) [i] H1 λ g a H2=>B3 g ((Op.eN 24 1 [none,(some 0),none]) [b,a]) λ g e=>Ly g E 0 λ g d=>C3 M g (.func jy) [e,d] H2 λ g _ H3=>B3 g ((Op.eN 24 1 [none,(some 0),none]) [b,a]) λ g f=>B3 g (Op.eu [f] H3) λ g h=>aB g Q .ret ((4,h)::(6,a)::(5,b)::E) D H3):=by (repeat' apply And.intro)<;>(intro _ _ _ _;refine aL ?_;kernel_rfl)
theorem qkq:(ak Tryz.prog).func yi=some PA/\PA.results=[.tmp 4]:=xw (by kernel_rfl)
theorem qkr (h:W M ⟨none,yi⟩ (zf 0) true (aU M [.tmp 4] Q) [(0,a0),(1,a1)] [] H):kj M yi [a0,a1] H Q:=aM (by decide) qkq (ks:=qfj) (by kernel_rfl) h
def Nq:aq:=funcAt Tryz.prog ya
def qgh:Kp:=⟨[0],false,[0]⟩
def qgi (k:Nat):Kp × ab:=(qgh,part Nq.body k)
theorem qgj (M:aO) (c:Ctx):(WE M c (qgi 0) λ Q E D H=>Lz E 0 λ g h=>Nf g 0 h H λ g i=>B3 g ((Op.eq .ptr false) [i,.nilp] H) λ g j=>cB g j (λ g=>Ly g E 0 λ g a=>B3 g ((Op.fF (fY Tryz.prog 74)) [a] H) λ g l=>B3 g (Op.gS [l]) λ g b=>B3 g ((Op.fF (fY Tryz.prog 74)) [b] H) λ g d=>Ns g 0 a d H λ g u H1=>aB g Q .normal E D H1) (λ g=>Ly g E 0 λ g a=>Nf g 0 a H λ g e=>B3 g ((Op.eq .ptr true) [e,a] H) λ g f=>cB g f (λ g=>False) (λ g=>aB g Q .normal E D H))):=by intro _ _ _ _;refine aL ?_;kernel_rfl
theorem qm3:(ak Tryz.prog).func ya=some Nq/\Nq.results=[]:=xw (by kernel_rfl)
theorem qm4 (h:W M ⟨none,ya⟩ (qgi 0) true (aU M [] Q) [(0,a0)] [] H):kj M ya [a0] H Q:=aM (by decide) qm3 (ks:=qgh) (by kernel_rfl) h
def Px:aq:=funcAt Tryz.prog Iq
def qjm:Kp:=⟨[0,1,4],false,[0]⟩
def qjn (k:Nat):Kp × ab:=(qjm,part Px.body k)
theorem qp1 (M:aO) (c:Ctx):(WE M c (qjn 0) λ Q E D H=>Lz E 0 λ g e=>Nf g 1 e H λ g m=>B3 g (Op.cap [m]) λ g n=>Bn g .mul (.int .i64 2) n λ g f=>Ly g E 1 λ g p=>Bn g .add f p λ g h=>Nf g 1 e H λ g i=>B3 g (Op.aS [i]) λ g j=>bA g ((Op.makeNoZero ph) [h]) λ g o1 k1=>B3 g ((Op.bc 1 [none,(some 0),none]) [(k1 H.next),j]) λ g a=>Ly g E 0 λ g b=>Nf g 1 b (H.alloc o1) λ g l=>bA g ((Op.copy 1) [a,l] (H.alloc o1)) λ g _ H2=>Ly g E 0 λ g d=>Ns g 1 d a H2 λ g u H3=>aB g Q .normal ((4,a)::E) D H3):=by intro _ _ _ _;refine aL ?_;kernel_rfl
theorem qpz:(ak Tryz.prog).func Iq=some Px/\Px.results=[]:=xw (by kernel_rfl)
theorem qp0 (h:W M ⟨none,Iq⟩ (qjn 0) true (aU M [] Q) [(0,a0),(1,a1)] [] H):kj M Iq [a0,a1] H Q:=aM (by decide) qpz (ks:=qjm) (by kernel_rfl) h
def MD:aq:=funcAt Tryz.prog wu
def qig:Kp:=⟨[0,2],false,[0,2,10]⟩
def vd (k:Nat):Kp × ab:=(qig,part MD.body k)
theorem qih (M:aO) (c:Ctx):(WE M c (vd 0) λ Q E D H=>W M c (vd 2) true Q ((2,(.str []))::E) D H) /\
 (WE M c (vd 2) λ Q E D H=>Lz E 0 λ g b=>Cb g .lss b (.int .i64 10) (λ g=>Ly g E 0 λ g a=>Bn g .add a (.int .i64 1) λ g d=>B3 g ((Op.cz [(some 0),(some 1)]) [(.str OH),a,d]) λ g e=>aB g (aw (W M c (vd 10)) Q) .ret ((2,e)::E) D H) (λ g=>Gt g M c (vd 10) Q E D H)) /\
 (WE M c (vd 10) λ Q E D H=>Lz E 0 λ g a=>Bn g .mul a (.int .i64 2) λ g b=>Bn g .mul a (.int .i64 2) λ g d=>Bn g .add d (.int .i64 2) λ g e=>B3 g ((Op.cz [(some 0),(some 1)]) [(.str mE),b,e]) λ g f=>aB g Q .ret ((2,f)::E) D H):=by (repeat' apply And.intro)<;>(intro _ _ _ _;refine aL ?_;kernel_rfl)
theorem qob:(ak Tryz.prog).func wu=some MD/\MD.results=[.tmp 2]:=xw (by kernel_rfl)
theorem qoc (h:W M ⟨none,wu⟩ (vd 0) true (aU M [.tmp 2] Q) [(0,a0)] [] H):kj M wu [a0] H Q:=aM (by decide) qob (ks:=qig) (by kernel_rfl) h
def Pg:aq:=funcAt Tryz.prog yy
def qfy:Kp:=⟨[0,2,3],false,[0]⟩
def qfz (k:Nat):Kp × ab:=(qfy,part Pg.body k)
theorem wc (M:aO) (c:Ctx):(WE M c (qfz 0) λ Q E D H=>Lz E 0 λ g j=>C3 M g (.func Ds) [j] H λ g l H1=>C3 M g (.func yx) [l] H1 λ g a H2=>Ly g E 0 λ g b=>B3 g ((Op.bp 20 1) [(.ptr jo 0),a]) λ g d=>B3 g (Op.aa [d] H2) λ g e=>Bn g .geq b e λ g f=>C3 M g (.func yw) [f] H2 λ g h H3=>Bn g .add a h λ g i=>aB g Q .ret ((2,i)::(3,a)::(2,(.int .i64 0))::E) D H3):=by intro _ _ _ _;refine aL ?_;kernel_rfl
theorem qls:(ak Tryz.prog).func yy=some Pg/\Pg.results=[.tmp 2]:=xw (by kernel_rfl)
theorem qlt (h:W M ⟨none,yy⟩ (qfz 0) true (aU M [.tmp 2] Q) [(0,a0)] [] H):kj M yy [a0] H Q:=aM (by decide) qls (ks:=qfy) (by kernel_rfl) h
def O6:aq:=funcAt Tryz.prog jy
def qe0:Kp:=⟨[0,1,4,5,6,7,8,9,10,11,12,13,14,15,16],false,[0,2,5,11,16,20,24,31,33,39,43,49,61]⟩
def qj (k:Nat):Kp × ab:=(qe0,part O6.body k)
theorem jg (M:aO) (c:Ctx):(WE M c (qj 0) λ Q E D H=>Lz E 0 λ g b=>B3 g (Op.aS [b]) λ g a=>W M c (qj 2) g Q ((4,a)::E) D H) /\
 (WE M c (qj 2) λ Q E D H=>bS (W M c (qj 5)) (aR 0 (aw (W M c (qj 31)) Q)) E D H) /\
 (WE M c (qj 31) λ Q E D H=>Lz E 1 λ g b=>B3 g ((Op.wrap .u32) [b]) λ g a=>W M c (qj 33) g Q ((12,a)::E) D H) /\
 (WE M c (qj 5) λ Q E D H=>Lz E 4 λ g a=>Cb g .geq a (.int .i64 8) (λ g=>Gt g M c (qj 11) Q E D H) (λ g=>aB g (aw (W M c (qj 11)) Q) (.exit 0) E D H)) /\
 (WE M c (qj 33) λ Q E D H=>Lz E 4 λ g d=>Cb g .geq d (.int .i64 4) (λ g=>Ly g E 12 λ g b=>Bn g .rem b (.int .u32 10000) λ g a=>W M c (qj 39) g (aw (W M c (qj 49)) Q) ((13,a)::E) D H) (λ g=>Gt g M c (qj 49) Q E D H)) /\
 (WE M c (qj 11) λ Q E D H=>Lz E 1 λ g f=>Bn g .rem f (.int .u64 100000000) λ g b=>B3 g ((Op.wrap .u32) [b]) λ g d=>Ly g E 1 λ g a=>Bn g .quo a (.int .u64 100000000) λ g e=>W M c (qj 16) g (aR 1 Q) ((1,e)::(5,d)::E) D H) /\
 (WE M c (qj 49) λ Q E D H=>Lz E 4 λ g s=>Cb g .geq s (.int .i64 2) (λ g=>Ly g E 12 λ g q=>Bn g .rem q (.int .u32 100) λ g e=>Bn g .mul e (.int .u32 2) λ g a=>Ly g E 12 λ g d=>Bn g .quo d (.int .u32 100) λ g f=>Ly g E 0 λ g r=>Ly g E 4 λ g b=>Bn g .sub b (.int .i64 1) λ g h=>Bn g .sub b (.int .i64 2) λ g i=>Bn g .add a (.int .u32 1) λ g j=>B3 g (Op.aY [(.str mE),j]) λ g l=>B3 g (Op.aY [(.str mE),a]) λ g m=>Xs g r h l H λ g u H1=>Xs g r i m H1 λ g u_1 H2=>Ly g E 4 λ g n=>Bn g .sub n (.int .i64 2) λ g p=>Gt g M c (qj 61) Q ((4,p)::(12,f)::(16,a)::E) D H2) (λ g=>Gt g M c (qj 61) Q E D H)) /\
 (WE M c (qj 39) λ Q E D H=>Lz E 12 λ g i=>Bn g .quo i (.int .u32 10000) λ g b=>Ly g E 13 λ g a=>Bn g .quo a (.int .u32 100) λ g d=>Bn g .mul d (.int .u32 2) λ g e=>Bn g .rem a (.int .u32 100) λ g f=>Bn g .mul f (.int .u32 2) λ g h=>W M c (qj 43) g Q ((15,h)::(14,e)::(12,b)::E) D H) /\
 (WE M c (qj 16) λ Q E D H=>Lz E 5 λ g b=>Bn g .quo b (.int .u32 10000) λ g d=>Bn g .rem b (.int .u32 10000) λ g a=>Bn g .quo a (.int .u32 100) λ g e=>Bn g .mul e (.int .u32 2) λ g f=>Bn g .rem a (.int .u32 100) λ g h=>Bn g .mul h (.int .u32 2) λ g i=>W M c (qj 20) g Q ((9,i)::(8,f)::(7,a)::(6,d)::E) D H) /\
 (WE M c (qj 61) λ Q E D H=>Lz E 4 λ g e=>Cb g .gtr e (.int .i64 0) (λ g=>Ly g E 0 λ g f=>Ly g E 12 λ g d=>Bn g .add (.int .u32 48) d λ g a=>B3 g ((Op.wrap .u8) [a]) λ g b=>Xs g f (.int .i64 0) b H λ g u H1=>aB g Q .normal E D H1) (λ g=>aB g Q .normal E D H)) /\
 (WE M c (qj 43) λ Q E D H=>Lz E 0 λ g x=>Ly g E 4 λ g y=>Bn g .sub y (.int .i64 1) λ g f=>Bn g .sub y (.int .i64 2) λ g h=>Ly g E 15 λ g d=>Bn g .add d (.int .u32 1) λ g i=>B3 g (Op.aY [(.str mE),i]) λ g j=>B3 g (Op.aY [(.str mE),d]) λ g l=>Xs g x f j H λ g u H1=>Xs g x h l H1 λ g u_1 H2=>Ly g E 0 λ g a=>Ly g E 4 λ g b=>Bn g .sub b (.int .i64 3) λ g m=>Bn g .sub b (.int .i64 4) λ g n=>Ly g E 14 λ g e=>Bn g .add e (.int .u32 1) λ g p=>B3 g (Op.aY [(.str mE),p]) λ g q=>B3 g (Op.aY [(.str mE),e]) λ g r=>Xs g a m q H2 λ g u_2 H3=>Xs g a n r H3 λ g u_3 H4=>Ly g E 4 λ g s=>Bn g .sub s (.int .i64 4) λ g v=>aB g Q .normal ((4,v)::E) D H4) /\
 (WE M c (qj 20) λ Q E D H=>Lz E 6 λ g a=>Bn g .quo a (.int .u32 100) λ g b=>Bn g .mul b (.int .u32 2) λ g d=>Bn g .rem a (.int .u32 100) λ g e=>Bn g .mul e (.int .u32 2) λ g f=>Ly g E 0 λ g h=>Ly g E 4 λ g i=>Bn g .sub i (.int .i64 1) λ g j=>Bn g .sub i (.int .i64 2) λ g l=>Ly g E 9 λ g m=>Bn g .add m (.int .u32 1) λ g n=>B3 g (Op.aY [(.str mE),n]) λ g p=>B3 g (Op.aY [(.str mE),m]) λ g q=>Xs g h j p H λ g u H1=>Xs g h l q H1 λ g u_1 H2=>W M c (qj 24) g Q ((11,f)::(10,d)::E) D H2) /\
 (WE M c (qj 24) λ Q E D H=>Lz E 0 λ g j=>Ly g E 4 λ g l=>Bn g .sub l (.int .i64 3) λ g m=>Bn g .sub l (.int .i64 4) λ g n=>Ly g E 8 λ g p=>Bn g .add p (.int .u32 1) λ g q=>B3 g (Op.aY [(.str mE),q]) λ g r=>B3 g (Op.aY [(.str mE),p]) λ g s=>Xs g j m r H λ g u H1=>Xs g j n s H1 λ g u_1 H2=>Ly g E 0 λ g a=>Ly g E 4 λ g b=>Bn g .sub b (.int .i64 5) λ g v=>Bn g .sub b (.int .i64 6) λ g x=>Ly g E 11 λ g f=>Bn g .add f (.int .u32 1) λ g y=>B3 g (Op.aY [(.str mE),y]) λ g z=>B3 g (Op.aY [(.str mE),f]) λ g A=>Xs g a v z H2 λ g u_2 H3=>Xs g a x A H3 λ g u_3 H4=>Ly g E 0 λ g d=>Ly g E 4 λ g e=>Bn g .sub e (.int .i64 7) λ g B=>Bn g .sub e (.int .i64 8) λ g C=>Ly g E 10 λ g h=>Bn g .add h (.int .u32 1) λ g F=>B3 g (Op.aY [(.str mE),F]) λ g G=>B3 g (Op.aY [(.str mE),h]) λ g I=>Xs g d B G H4 λ g u_4 H5=>Xs g d C I H5 λ g u_5 H6=>Ly g E 4 λ g i=>Bn g .sub i (.int .i64 8) λ g J=>aB g Q .normal ((4,J)::E) D H6):=by (repeat' apply And.intro)<;>(intro _ _ _ _;refine aL ?_;kernel_rfl)
theorem qjy:(ak Tryz.prog).func jy=some O6/\O6.results=[]:=xw (by kernel_rfl)
theorem qjz (h:W M ⟨none,jy⟩ (qj 0) true (aU M [] Q) [(0,a0),(1,a1)] [] H):kj M jy [a0,a1] H Q:=aM (by decide) qjy (ks:=qe0) (by kernel_rfl) h
def NV:aq:=funcAt Tryz.prog yx
def qfw:Kp:=⟨[0,2],false,[0]⟩
def qfx (k:Nat):Kp × ab:=(qfw,part NV.body k)
theorem qlr (M:aO) (c:Ctx):(WE M c (qfx 0) λ Q E D H=>Lz E 0 λ g a=>Bn g .mul a (.int .i64 78913) λ g b=>Bn g .shr b (.int .u64 18) λ g d=>aB g Q .ret ((2,d)::(2,(.int .i64 0))::E) D H):=by intro _ _ _ _;refine aL ?_;kernel_rfl
theorem qlp:(ak Tryz.prog).func yx=some NV/\NV.results=[.tmp 2]:=xw (by kernel_rfl)
theorem qlq (h:W M ⟨none,yx⟩ (qfx 0) true (aU M [.tmp 2] Q) [(0,a0)] [] H):kj M yx [a0] H Q:=aM (by decide) qlp (ks:=qfw) (by kernel_rfl) h
def N4:aq:=funcAt Tryz.prog Ds
def qoj:Kp:=⟨[0,2],false,[0,2,10,18,26]⟩
def jn (k:Nat):Kp × ab:=(qoj,part N4.body k)
theorem Ln (M:aO) (c:Ctx):(WE M c (jn 0) λ Q E D H=>W M c (jn 2) true Q ((2,(.int .i64 0))::E) D H) /\
 (WE M c (jn 2) λ Q E D H=>Lz E 0 λ g b=>Cb g .geq b (.int .u64 4294967296) (λ g=>Ly g E 0 λ g a=>Bn g .shr a (.int .u64 32) λ g d=>Gt g M c (jn 10) Q ((2,(.int .i64 32))::(0,d)::E) D H) (λ g=>Gt g M c (jn 10) Q E D H)) /\
 (WE M c (jn 10) λ Q E D H=>Lz E 0 λ g e=>Cb g .geq e (.int .u64 65536) (λ g=>Ly g E 0 λ g a=>Bn g .shr a (.int .u64 16) λ g b=>Ly g E 2 λ g f=>Bn g .add f (.int .i64 16) λ g d=>Gt g M c (jn 18) Q ((2,d)::(0,b)::E) D H) (λ g=>Gt g M c (jn 18) Q E D H)) /\
 (WE M c (jn 18) λ Q E D H=>Lz E 0 λ g e=>Cb g .geq e (.int .u64 256) (λ g=>Ly g E 0 λ g a=>Bn g .shr a (.int .u64 8) λ g b=>Ly g E 2 λ g f=>Bn g .add f (.int .i64 8) λ g d=>Gt g M c (jn 26) Q ((2,d)::(0,b)::E) D H) (λ g=>Gt g M c (jn 26) Q E D H)) /\
 (WE M c (jn 26) λ Q E D H=>Lz E 2 λ g f=>Ly g E 0 λ g h=>B3 g ((Op.wrap .u8) [h]) λ g a=>B3 g (Op.aY [(.str Lm),a]) λ g b=>B3 g ((Op.wrap .i64) [b]) λ g d=>Bn g .add f d λ g e=>aB g Q .ret ((2,e)::E) D H):=by (repeat' apply And.intro)<;>(intro _ _ _ _;refine aL ?_;kernel_rfl)
theorem qv2:(ak Tryz.prog).func Ds=some N4/\N4.results=[.tmp 2]:=xw (by kernel_rfl)
theorem qv3 (h:W M ⟨none,Ds⟩ (jn 0) true (aU M [.tmp 2] Q) [(0,a0)] [] H):kj M Ds [a0] H Q:=aM (by decide) qv2 (ks:=qoj) (by kernel_rfl) h
def Nk:aq:=funcAt Tryz.prog yw
def qfv:Kp:=⟨[0,2],false,[0,2,10]⟩
def ku (k:Nat):Kp × ab:=(qfv,part Nk.body k)
theorem qlo (M:aO) (c:Ctx):(WE M c (ku 0) λ Q E D H=>W M c (ku 2) true Q ((2,(.int .i64 0))::E) D H) /\
 (WE M c (ku 2) λ Q E D H=>Lz E 0 λ g a=>cB g a (λ g=>aB g (aw (W M c (ku 10)) Q) .ret ((2,(.int .i64 1))::E) D H) (λ g=>Gt g M c (ku 10) Q E D H)) /\
 (WE M c (ku 10) λ Q E D H=>aB true Q .ret ((2,(.int .i64 0))::E) D H):=by (repeat' apply And.intro)<;>(intro _ _ _ _;refine aL ?_;kernel_rfl)
theorem qlm:(ak Tryz.prog).func yw=some Nk/\Nk.results=[.tmp 2]:=xw (by kernel_rfl)
theorem qln (h:W M ⟨none,yw⟩ (ku 0) true (aU M [.tmp 2] Q) [(0,a0)] [] H):kj M yw [a0] H Q:=aM (by decide) qlm (ks:=qfv) (by kernel_rfl) h
end
end Go.Am
namespace Go.Am
abbrev yz:Nat:=92
abbrev tP:Nat:=11
abbrev Gu:Nat:=41
abbrev p6:Nat:=25
abbrev FU:Nat:=40
abbrev Ge:Nat:=96
abbrev Hk:Nat:=95
abbrev vk:Nat:=68
abbrev GM:Nat:=67
abbrev jj:Nat:=66
abbrev CR:Nat:=26
abbrev jk:Nat:=44
abbrev xh:Nat:=42
abbrev Dr:Nat:=62
abbrev qvc:Nat:=90
abbrev F8:Nat:=91
abbrev Fb:Nat:=60
abbrev yr:Nat:=63
abbrev Cd:Nat:=43
abbrev xf:Nat:=34
abbrev Ki:Nat:=4
abbrev bu:Nat:=3
abbrev yo:Nat:=76
abbrev Ig:Nat:=74
def q9x:List UInt8:=[115,116,114,105,110,103,115,58,32,110,101,103,97,116,105,118,101,32,82,101,112,101,97,116,32,99,111,117,110,116]
def q9y:List UInt8:=[115,116,114,105,110,103,115,58,32,82,101,112,101,97,116,32,111,117,116,112,117,116,32,108,101,110,103,116,104,32,111,118,101,114,102,108,111,119]
def EC:List UInt8:=[32,32,32,32,32,32,32,32,32,32,32,32,32,32,32,32,32,32,32,32,32,32,32,32,32,32,32,32,32,32,32,32,32,32,32,32,32,32,32,32,32,32,32,32,32,32,32,32,32,32,32,32,32,32,32,32,32,32,32,32,32,32,32,32,32,32,32,32,32,32,32,32,32,32,32,32,32,32,32,32,32,32,32,32,32,32,32,32,32,32,32,32,32,32,32,32,32,32,32,32,32,32,32,32,32,32,32,32,32,32,32,32,32,32,32,32,32,32,32,32,32,32,32,32,32,32,32,32]
def q0s:List UInt8:=[45,45,45,45,45,45,45,45,45,45,45,45,45,45,45,45,45,45,45,45,45,45,45,45,45,45,45,45,45,45,45,45,45,45,45,45,45,45,45,45,45,45,45,45,45,45,45,45,45,45,45,45,45,45,45,45,45,45,45,45,45,45,45,45,45,45,45,45,45,45,45,45,45,45,45,45,45,45,45,45,45,45,45,45,45,45,45,45,45,45,45,45,45,45,45,45,45,45,45,45,45,45,45,45,45,45,45,45,45,45,45,45,45,45,45,45,45,45,45,45,45,45,45,45,45,45,45,45]
def q0t:List UInt8:=[48,48,48,48,48,48,48,48,48,48,48,48,48,48,48,48,48,48,48,48,48,48,48,48,48,48,48,48,48,48,48,48,48,48,48,48,48,48,48,48,48,48,48,48,48,48,48,48,48,48,48,48,48,48,48,48,48,48,48,48,48,48,48,48]
def q0u:List UInt8:=[61,61,61,61,61,61,61,61,61,61,61,61,61,61,61,61,61,61,61,61,61,61,61,61,61,61,61,61,61,61,61,61,61,61,61,61,61,61,61,61,61,61,61,61,61,61,61,61,61,61,61,61,61,61,61,61,61,61,61,61,61,61,61,61,61,61,61,61,61,61,61,61,61,61,61,61,61,61,61,61,61,61,61,61,61,61,61,61,61,61,61,61,61,61,61,61,61,61,61,61,61,61,61,61,61,61,61,61,61,61,61,61,61,61,61,61,61,61,61,61,61,61,61,61,61,61,61,61]
def q0v:List UInt8:=[9,9,9,9,9,9,9,9,9,9,9,9,9,9,9,9,9,9,9,9,9,9,9,9,9,9,9,9,9,9,9,9,9,9,9,9,9,9,9,9,9,9,9,9,9,9,9,9,9,9,9,9,9,9,9,9,9,9,9,9,9,9,9,9]
def q9z:List UInt8:=[116,104,101,32,114,101,115,117,108,116,32,111,102,32,40,108,101,110,40,120,41,32,42,32,99,111,117,110,116,41,32,111,118,101,114,102,108,111,119,115]
noncomputable section
open Go.Proofs Go.Proofs.YtbimikjajohflaaGreatDoor
variable {M:aO} [MK M] {H:AHeap} {Q:bE->AHeap->Prop} {a0 a1 a2:AV}
def Mf:aq:=funcAt Tryz.prog tP
def qwu:Kp:=⟨[0,2,3,4],false,[0,2,10,14,22]⟩
def rT (k:Nat):Kp × ab:=(qwu,part Mf.body k)
theorem qww (M:aO) (c:Ctx):(WE M c (rT 0) λ Q E D H=>W M c (rT 2) true Q ((3,(.int .i64 0))::(2,(.str []))::E) D H) /\
 (WE M c (rT 2) λ Q E D H=>Lz E 0 λ g a=>C3 M g (.func p6) [a] H λ g b H1=>B3 g ((Op.un .not) [b]) λ g d=>cB g d (λ g=>aB g (aw (W M c (rT 10)) Q) .ret ((3,(.int .i64 2))::(2,(.str []))::E) D H1) (λ g=>Gt g M c (rT 10) Q E D H1)) /\
 (WE M c (rT 10) λ Q E D H=>Lz E 0 λ g f=>B3 g ((Op.build [.nilp,.nils,.nils,(.int .i64 0),(.int .i64 0)] [(2,1)]) [f]) λ g h=>A3 g yo (AV.cells h) H λ g a H1=>Ly g E 0 λ g b=>B3 g (Op.aS [b]) λ g d=>Bn g .sub d (.int .i64 1) λ g e=>C3 M g (.func CR) [a,e,(.int .i64 0)] H1 λ g _ H2=>W M c (rT 14) g Q ((4,a)::E) D H2) /\
 (WE M c (rT 14) λ Q E D H=>Lz E 4 λ g b=>Nf g 4 b H λ g a=>Cb g .gtr a (.int .i64 50) (λ g=>aB g (aw (W M c (rT 22)) Q) .ret ((3,(.int .i64 2))::(2,(.str []))::E) D H) (λ g=>Gt g M c (rT 22) Q E D H)) /\
 (WE M c (rT 22) λ Q E D H=>Lz E 4 λ g e=>B3 g (Op.nilCheck [e]) λ g a=>B3 g ((Op.fieldAddr 0) [a]) λ g b=>C3 M g (.func yd) [b] H λ g d H1=>aB g Q .ret ((3,(.int .i64 0))::(2,d)::E) D H1):=by (repeat' apply And.intro)<;>(intro _ _ _ _;refine aL ?_;kernel_rfl)
theorem q45:(ak Tryz.prog).func tP=some Mf/\Mf.results=[.tmp 2,.tmp 3]:=xw (by kernel_rfl)
theorem qwv (h:W M ⟨none,tP⟩ (rT 0) true (aU M [.tmp 2,.tmp 3] Q) [(0,a0)] [] H):kj M tP [a0] H Q:=aM (by decide) q45 (ks:=qwu) (by kernel_rfl) h
def Qe:aq:=funcAt Tryz.prog p6
def q1i:Kp:=⟨[0,2,3,4,5,6,7,8,9,10,11,33,34,35,70,71,72],false,[0,2,10,14,19,25,31,39,41,46,52,56,64,65,66,70,78,80,81,82]⟩
def x7 (k:Nat):Kp × ab:=(q1i,part Qe.body k)
theorem q1j (M:aO) (c:Ctx):(WE M c (x7 0) λ Q E D H=>W M c (x7 2) true Q ((2,(.bool false))::E) D H) /\
 (WE M c (x7 2) λ Q E D H=>Lz E 0 λ g a=>B3 g (Op.aS [a]) λ g p=>Bn g .lss p (.int .i64 1) λ g e=>JN (λ (k:Bool->AV->AV->AV->AHeap->Prop)=>B3 g (aE false (some e)) λ g w=>c9 g w (λ g=>B3 g (Op.aS [a]) λ g f=>Bn g .gtr f (.int .i64 2000) λ g q=>k g q f a H) (λ g=>k g uu uu uu H)) (λ g b _ _ H1=>B3 g (Op.pick [e,(.bool true),b]) λ g h=>JN (λ (k:Bool->AV->AV->AV->AV->AV->AV->AV->AV->AHeap->Prop)=>B3 g (aE false (some h)) λ g w=>c9 g w (λ g=>B3 g (Op.aS [a]) λ g i=>Bn g .sub i (.int .i64 1) λ g j=>B3 g ((Op.aJ 3) [a,j]) λ g l=>B3 g ((Op.fieldAddr 0) [l]) λ g m=>B3 g (Op.aa [m] H1) λ g n=>Bn g .neq n (.int .i64 20) λ g r=>k g r n m l j i a a H1) (λ g=>k g uu uu uu uu uu uu uu uu H1)) (λ g d _ _ _ _ _ _ _ H2=>B3 g (Op.pick [h,(.bool true),d]) λ g s=>cB g s (λ g=>aB g (aw (W M c (x7 10)) Q) .ret ((2,(.bool false))::E) D H2) (λ g=>Gt g M c (x7 10) Q E D H2)))) /\
 (WE M c (x7 10) λ Q E D H=>Lz E 0 λ g b=>B3 g (Op.aS [b]) λ g a=>bA g ((Op.mkSlice Ki 1 [(.bool false)]) [a,a]) λ g o1 k1=>W M c (x7 14) g Q ((4,(k1 H.next))::(3,.nils)::E) D (H.alloc o1)) /\
 (WE M c (x7 14) λ Q E D H=>Lz E 0 λ g a=>B3 g (Op.aS [a]) λ g b=>bS (W M c (x7 19)) (aR 0 (aw (W M c (x7 82)) Q)) ((35,(.int .i64 0))::(34,b)::(33,a)::E) D H) /\
 (WE M c (x7 82) λ Q E D H=>Lz E 3 λ g d=>B3 g (Op.aS [d]) λ g a=>Bn g .eql a (.int .i64 1) λ g b=>aB g Q .ret ((2,b)::E) D H) /\
 (WE M c (x7 19) λ Q E D H=>Lz E 35 λ g a=>Ly g E 34 λ g b=>Cb g .lss a b (λ g=>Gt g M c (x7 25) Q E D H) (λ g=>aB g (aw (W M c (x7 25)) Q) (.exit 0) E D H)) /\
 (WE M c (x7 25) λ Q E D H=>Lz E 35 λ g a=>Ly g E 33 λ g e=>B3 g ((Op.aJ 3) [e,a]) λ g f=>B3 g ((Op.au 3) [f] H) λ g h=>A3 g xf [(.int .i64 0),(.int .u64 0),.nils] H λ g d H1=>bA g ((Op.store 3) [d,h] H1) λ g u H2=>B3 g ((Op.au 3) [d] H2) λ g i=>C3 M g (.func FU) [i] H2 λ g b H3=>B3 g ((Op.extract 0) [b]) λ g j=>B3 g ((Op.extract 1) [b]) λ g l=>W M c (x7 31) g (aR 1 (aw (W M c (x7 81)) Q)) ((8,l)::(7,j)::(5,a)::(6,d)::E) D H3) /\
 (WE M c (x7 81) λ Q E D H=>Lz E 35 λ g b=>Bn g .add b (.int .i64 1) λ g a=>aB g Q .normal ((35,a)::E) D H) /\
 (WE M c (x7 31) λ Q E D H=>Lz E 8 λ g x=>B3 g ((Op.un .not) [x]) λ g e=>JN (λ (k:Bool->AV->AV->AV->AV->AV->AV->AHeap->Prop)=>B3 g (aE false (some e)) λ g w=>c9 g w (λ g=>Ly g E 7 λ g p=>B3 g (Op.aS [p]) λ g f=>Ly g E 6 λ g y=>B3 g ((Op.fieldAddr 2) [y]) λ g h=>B3 g (Op.aa [h] H) λ g i=>B3 g (Op.aS [i]) λ g j=>Bn g .neq f j λ g q=>k g q j i h f p H) (λ g=>k g uu uu uu uu uu uu H)) (λ g b _ _ _ _ _ H1=>B3 g (Op.pick [e,(.bool true),b]) λ g l=>JN (λ (k:Bool->AV->AV->AV->AV->AV->AHeap->Prop)=>B3 g (aE false (some l)) λ g w=>c9 g w (λ g=>Ly g E 7 λ g a=>B3 g (Op.aS [a]) λ g m=>Ly g E 3 λ g r=>B3 g (Op.aS [r]) λ g n=>Bn g .gtr m n λ g s=>k g s n r m a H1) (λ g=>k g uu uu uu uu uu H1)) (λ g d _ _ _ _ H2=>B3 g (Op.pick [l,(.bool true),d]) λ g v=>cB g v (λ g=>aB g (aw (W M c (x7 39)) Q) .ret ((2,(.bool false))::E) D H2) (λ g=>Gt g M c (x7 39) Q E D H2)))) /\
 (WE M c (x7 39) λ Q E D H=>Lz E 3 λ g a=>B3 g (Op.aS [a]) λ g b=>Ly g E 7 λ g h=>B3 g (Op.aS [h]) λ g d=>Bn g .sub b d λ g e=>B3 g ((Op.bc 1 [(some 0),none,none]) [a,e]) λ g f=>W M c (x7 41) g Q ((9,f)::E) D H) /\
 (WE M c (x7 41) λ Q E D H=>Lz E 6 λ g d=>Fl g 2 d H λ g a=>B3 g (Op.aS [a]) λ g b=>bS (W M c (x7 46)) (aR 2 (aw (W M c (x7 66)) Q)) ((72,(.int .i64 0))::(71,b)::(70,a)::E) D H) /\
 (WE M c (x7 66) λ Q E D H=>Lz E 6 λ g b=>Fl g 0 b H λ g a=>Cb g .eql a (.int .i64 18) (λ g=>W M c (x7 70) g (aw (W M c (x7 80)) Q) E D H) (λ g=>Gt g M c (x7 80) Q E D H)) /\
 (WE M c (x7 46) λ Q E D H=>Lz E 72 λ g a=>Ly g E 71 λ g b=>Cb g .lss a b (λ g=>Gt g M c (x7 52) Q E D H) (λ g=>aB g (aw (W M c (x7 52)) Q) (.exit 2) E D H)) /\
 (WE M c (x7 80) λ Q E D H=>Lz E 3 λ g h=>B3 g (Op.aS [h]) λ g a=>Ly g E 7 λ g i=>B3 g (Op.aS [i]) λ g b=>Bn g .sub a b λ g d=>B3 g ((Op.bc 1 [none,(some 0),none]) [h,d]) λ g e=>Ly g E 5 λ g j=>bA g ((Op.buildSlice bu 1 [(.int .i64 0)] [(0,1)]) [j]) λ g o1 k1=>bA g ((Op.append bu 1 8) [e,(k1 H.next)] (H.alloc o1)) λ g f H2=>aB g Q .normal ((3,f)::E) D H2) /\
 (WE M c (x7 70) λ Q E D H=>Lz E 4 λ g b=>Ly g E 5 λ g d=>Xl g b d H λ g a=>cB g a (λ g=>aB g (aw (W M c (x7 78)) Q) .ret ((2,(.bool false))::E) D H) (λ g=>Gt g M c (x7 78) Q E D H)) /\
 (WE M c (x7 52) λ Q E D H=>Lz E 72 λ g a=>Ly g E 70 λ g b=>Xl g b a H λ g d=>W M c (x7 56) g (aR 3 (aw (W M c (x7 65)) Q)) ((11,d)::(10,a)::E) D H) /\
 (WE M c (x7 78) λ Q E D H=>Lz E 4 λ g a=>Ly g E 5 λ g b=>Xs g a b (.bool true) H λ g u H1=>aB g Q .normal E D H1) /\
 (WE M c (x7 65) λ Q E D H=>Lz E 72 λ g b=>Bn g .add b (.int .i64 1) λ g a=>aB g Q .normal ((72,a)::E) D H) /\
 (WE M c (x7 56) λ Q E D H=>Lz E 9 λ g v=>Ly g E 10 λ g a=>Xl g v a H λ g n=>Ly g E 11 λ g b=>Bn g .neq n b λ g h=>JN (λ (k:Bool->AV->AV->AV->AV->AV->AV->AV->AV->AV->AV->AV->AHeap->Prop)=>B3 g (aE false (some h)) λ g w=>c9 g w (λ g=>Ly g E 0 λ g p=>B3 g ((Op.aJ 3) [p,b]) λ g i=>B3 g ((Op.fieldAddr 0) [i]) λ g j=>B3 g (Op.aa [j] H) λ g l=>Ly g E 7 λ g q=>B3 g ((Op.aJ 1) [q,a]) λ g d=>B3 g (Op.aa [d] H) λ g e=>C3 M g (.func Gu) [l] H λ g m H1=>kA g (Op.aa [d] H1) (some e) λ g=>Bn g .neq m e λ g r=>k g r m e d a q l j i b p H1) (λ g=>k g uu uu uu uu uu uu uu uu uu uu uu H)) (λ g f _ _ _ _ _ _ _ _ _ _ H2=>B3 g (Op.pick [h,(.bool true),f]) λ g s=>cB g s (λ g=>aB g (aw (W M c (x7 64)) Q) .ret ((2,(.bool false))::E) D H2) (λ g=>Gt g M c (x7 64) Q E D H2))) /\
 (WE M c (x7 64) λ Q E D H=>Lz E 4 λ g e=>Ly g E 5 λ g j=>Xl g e j H λ g a=>JN (λ (k:Bool->AV->AV->AV->AV->AHeap->Prop)=>B3 g (aE false (some a)) λ g w=>c9 g w (λ g=>Ly g E 11 λ g f=>B3 g ((Op.aJ 1) [e,f]) λ g b=>B3 g (Op.aa [b] H) λ g h=>k g h b f e H) (λ g=>k g uu uu uu uu H)) (λ g d _ _ _ H1=>B3 g (Op.pick [a,(.bool true),d]) λ g i=>Xs g e j i H1 λ g u H2=>aB g Q .normal E D H2)):=by (repeat' apply And.intro)<;>(intro _ _ _ _;refine aL ?_;kernel_rfl)
theorem xa8:(ak Tryz.prog).func p6=some Qe/\Qe.results=[.tmp 2]:=xw (by kernel_rfl)
theorem xa9 (h:W M ⟨none,p6⟩ (x7 0) true (aU M [.tmp 2] Q) [(0,a0)] [] H):kj M p6 [a0] H Q:=aM (by decide) xa8 (ks:=q1i) (by kernel_rfl) h
def N7:aq:=funcAt Tryz.prog CR
def qnj:Kp:=⟨[0,1,2,7,15,16,17],false,[0,4,10,19]⟩
def wh (k:Nat):Kp × ab:=(qnj,part N7.body k)
theorem Gg (M:aO) (c:Ctx):(WE M c (wh 0) λ Q E D H=>Lz E 0 λ g f=>Nf g 2 f H λ g b=>Ly g E 1 λ g h=>B3 g ((Op.aJ 3) [b,h]) λ g d=>Fl g 2 d H λ g a=>B3 g (Op.aS [a]) λ g e=>bS (W M c (wh 4)) (aR 0 Q) ((17,(.int .i64 0))::(16,e)::(15,a)::E) D H) /\
 (WE M c (wh 4) λ Q E D H=>Lz E 17 λ g a=>Ly g E 16 λ g b=>Cb g .lss a b (λ g=>Gt g M c (wh 10) Q E D H) (λ g=>aB g (aw (W M c (wh 10)) Q) (.exit 0) E D H)) /\
 (WE M c (wh 10) λ Q E D H=>Lz E 15 λ g f=>Ly g E 17 λ g h=>Xl g f h H λ g a=>Ly g E 0 λ g j=>Ly g E 2 λ g l=>C3 M g (.func Cd) [(.str [32,32]),l] H λ g i H1=>C3 M g (.func xh) [j,i] H1 λ g _ H2=>Ly g E 0 λ g b=>Ly g E 2 λ g d=>C3 M g (.func jk) [b,a,d] H2 λ g _ H3=>Ly g E 0 λ g e=>C3 M g (.func xh) [e,(.str [10])] H3 λ g _ H4=>aB g (aR 1 (aw (W M c (wh 19)) Q)) .normal ((7,a)::E) D H4) /\
 (WE M c (wh 19) λ Q E D H=>Lz E 17 λ g a=>Bn g .add a (.int .i64 1) λ g b=>aB g Q .normal ((17,b)::E) D H):=by (repeat' apply And.intro)<;>(intro _ _ _ _;refine aL ?_;kernel_rfl)
theorem qt8:(ak Tryz.prog).func CR=some N7/\N7.results=[]:=xw (by kernel_rfl)
theorem qt9 (h:W M ⟨none,CR⟩ (wh 0) true (aU M [] Q) [(0,a0),(1,a1),(2,a2)] [] H):kj M CR [a0,a1,a2] H Q:=aM (by decide) qt8 (ks:=qnj) (by kernel_rfl) h
def PN:aq:=funcAt Tryz.prog FU
def qwy:Kp:=⟨[0,1,2,3,4,33,43,51,75],false,[0,4,12,24,28,34,38,44,54,60,70,77]⟩
def zr (k:Nat):Kp × ab:=(qwy,part PN.body k)
theorem yq (M:aO) (c:Ctx):(WE M c (zr 0) λ Q E D H=>Lz E 0 λ g j=>A3 g xf (AV.cells j) H λ g d H1=>Fl g 0 d H1 λ g l=>Bn g .eql l (.int .i64 2) λ g e=>JN (λ (k:Bool->AV->AV->AV->AHeap->Prop)=>B3 g (aE false (some e)) λ g w=>c9 g w (λ g=>B3 g ((Op.fieldAddr 0) [d]) λ g f=>B3 g (Op.aa [f] H1) λ g b=>Bn g .eql b (.int .i64 14) λ g h=>k g h b f H1) (λ g=>k g uu uu uu H1)) (λ g a _ _ H2=>B3 g (Op.pick [e,(.bool true),a]) λ g i=>W M c (zr 4) g Q ((4,i)::(3,(.bool false))::(2,.nils)::(1,d)::E) D H2)) /\
 (WE M c (zr 4) λ Q E D H=>Lz E 4 λ g e=>JN (λ (k:Bool->AV->AV->AV->AHeap->Prop)=>B3 g (aE true (some e)) λ g w=>c9 g w (λ g=>Ly g E 1 λ g G=>B3 g ((Op.fieldAddr 1) [G]) λ g l=>B3 g (Op.aa [l] H) λ g m=>Bn g .gtr m (.int .u64 7) λ g z=>k g z m l H) (λ g=>k g uu uu uu H)) (λ g f _ _ H1=>B3 g (Op.pick [e,f,(.bool false)]) λ g a=>JN (λ (k:Bool->AV->AV->AV->AHeap->Prop)=>B3 g (aE false (some a)) λ g w=>c9 g w (λ g=>B3 g ((Op.un .not) [e]) λ g n=>k g n n e H1) (λ g=>k g uu uu uu H1)) (λ g b _ _ H2=>JN (λ (k:Bool->AV->AV->AV->AHeap->Prop)=>B3 g (aE true (some b)) λ g w=>c9 g w (λ g=>Ly g E 1 λ g x=>B3 g ((Op.fieldAddr 0) [x]) λ g p=>B3 g (Op.aa [p] H2) λ g q=>Bn g .neq q (.int .i64 1) λ g A=>k g A q p H2) (λ g=>k g uu uu uu H2)) (λ g h _ _ H3=>JN (λ (k:Bool->AV->AV->AHeap->Prop)=>B3 g (aE false (some a)) λ g w=>c9 g w (λ g=>B3 g (Op.pick [b,h,(.bool false)]) λ g r=>k g r r H3) (λ g=>k g uu uu H3)) (λ g d _ H4=>JN (λ (k:Bool->AV->AV->AV->AHeap->Prop)=>B3 g (aE true (some d)) λ g w=>c9 g w (λ g=>Ly g E 1 λ g y=>B3 g ((Op.fieldAddr 1) [y]) λ g s=>B3 g (Op.aa [s] H4) λ g v=>Bn g .neq v (.int .u64 0) λ g B=>k g B v s H4) (λ g=>k g uu uu uu H4)) (λ g i _ _ H5=>JN (λ (k:Bool->AV->AHeap->Prop)=>B3 g (aE false (some a)) λ g w=>c9 g w (λ g=>B3 g (Op.pick [d,i,(.bool false)]) λ g C=>k g C H5) (λ g=>k g uu H5)) (λ g j H6=>B3 g (Op.pick [a,(.bool true),j]) λ g F=>cB g F (λ g=>aB g (aw (W M c (zr 12)) Q) .ret ((3,(.bool false))::(2,.nils)::E) D H6) (λ g=>Gt g M c (zr 12) Q E D H6)))))))) /\
 (WE M c (zr 12) λ Q E D H=>Lz E 1 λ g l=>Fl g 0 l H λ g f=>Bn g .eql f (.int .i64 1) λ g a=>cB g a (λ g=>Gt g M c (zr 24) (aR 0 (aw (W M c (zr 77)) Q)) ((33,a)::E) D H) (λ g=>Ly g E 1 λ g d=>Fl g 0 d H λ g h=>Bn g .eql h (.int .i64 2) λ g b=>cB g b (λ g=>Gt g M c (zr 24) (aR 0 (aw (W M c (zr 77)) Q)) ((33,b)::(33,a)::E) D H) (λ g=>Ly g E 1 λ g e=>Fl g 0 e H λ g i=>Bn g .eql i (.int .i64 19) λ g j=>Gt g M c (zr 24) (aR 0 (aw (W M c (zr 77)) Q)) ((33,j)::(33,b)::(33,a)::E) D H))) /\
 (WE M c (zr 77) λ Q E D H=>aB true Q .ret ((3,(.bool false))::(2,.nils)::E) D H) /\
 (WE M c (zr 24) λ Q E D H=>Lz E 33 λ g a=>cB g a (λ g=>aB g Q .ret ((3,(.bool true))::(2,.nils)::E) D H) (λ g=>W M c (zr 28) g Q E D H)) /\
 (WE M c (zr 28) λ Q E D H=>Lz E 1 λ g h=>Fl g 0 h H λ g d=>Bn g .eql d (.int .i64 3) λ g a=>cB g a (λ g=>Gt g M c (zr 34) Q ((43,a)::E) D H) (λ g=>Ly g E 1 λ g b=>Fl g 0 b H λ g e=>Bn g .eql e (.int .i64 14) λ g f=>Gt g M c (zr 34) Q ((43,f)::(43,a)::E) D H)) /\
 (WE M c (zr 34) λ Q E D H=>Lz E 43 λ g a=>cB g a (λ g=>bA g ((Op.buildSlice bu 1 [(.int .i64 0)] [(0,1)]) [(.int .i64 1)]) λ g o1 k1=>aB g Q .ret ((3,(.bool true))::(2,(k1 H.next))::E) D (H.alloc o1)) (λ g=>W M c (zr 38) g Q E D H)) /\
 (WE M c (zr 38) λ Q E D H=>Lz E 1 λ g i=>Fl g 0 i H λ g j=>Bn g .geq j (.int .i64 4) λ g d=>JN (λ (k:Bool->AV->AV->AV->AHeap->Prop)=>B3 g (aE true (some d)) λ g w=>c9 g w (λ g=>B3 g ((Op.fieldAddr 0) [i]) λ g e=>B3 g (Op.aa [e] H) λ g f=>Bn g .leq f (.int .i64 13) λ g l=>k g l f e H) (λ g=>k g uu uu uu H)) (λ g b _ _ H1=>B3 g (Op.pick [d,b,(.bool false)]) λ g a=>cB g a (λ g=>Gt g M c (zr 44) Q ((51,a)::E) D H1) (λ g=>Ly g E 1 λ g h=>Fl g 0 h H1 λ g m=>Bn g .eql m (.int .i64 15) λ g n=>Gt g M c (zr 44) Q ((51,n)::(51,a)::E) D H1))) /\
 (WE M c (zr 44) λ Q E D H=>Lz E 51 λ g h=>cB g h (λ g=>bA g ((Op.buildSlice bu 2 [(.int .i64 0)] [(0,1),(1,1)]) [(.int .i64 1),(.int .i64 1)]) λ g o1 k1=>aB g Q .ret ((3,(.bool true))::(2,(k1 H.next))::E) D (H.alloc o1)) (λ g=>Ly g E 1 λ g i=>Fl g 0 i H λ g j=>Bn g .eql j (.int .i64 16) λ g b=>JN (λ (k:Bool->AV->AV->AV->AV->AHeap->Prop)=>B3 g (aE true (some b)) λ g w=>c9 g w (λ g=>B3 g ((Op.fieldAddr 2) [i]) λ g d=>B3 g (Op.aa [d] H) λ g e=>B3 g (Op.aS [e]) λ g f=>Bn g .eql f (.int .i64 3) λ g l=>k g l f e d H) (λ g=>k g uu uu uu uu H)) (λ g a _ _ _ H1=>B3 g (Op.pick [b,a,(.bool false)]) λ g m=>cB g m (λ g=>bA g ((Op.buildSlice bu 3 [(.int .i64 0)] [(0,1),(1,1),(2,1)]) [(.int .i64 2),(.int .i64 4),(.int .i64 4)]) λ g o2 k2=>aB g Q .ret ((3,(.bool true))::(2,(k2 H1.next))::E) D (H1.alloc o2)) (λ g=>W M c (zr 54) g Q E D H1)))) /\
 (WE M c (zr 54) λ Q E D H=>Lz E 1 λ g h=>Fl g 0 h H λ g d=>Bn g .eql d (.int .i64 16) λ g a=>cB g a (λ g=>Gt g M c (zr 60) Q ((75,a)::E) D H) (λ g=>Ly g E 1 λ g b=>Fl g 0 b H λ g e=>Bn g .eql e (.int .i64 17) λ g f=>Gt g M c (zr 60) Q ((75,f)::(75,a)::E) D H)) /\
 (WE M c (zr 60) λ Q E D H=>Lz E 75 λ g a=>cB g a (λ g=>bA g ((Op.buildSlice bu 2 [(.int .i64 0)] [(0,1),(1,1)]) [(.int .i64 2),(.int .i64 4)]) λ g o1 k1=>aB g Q .ret ((3,(.bool true))::(2,(k1 H.next))::E) D (H.alloc o1)) (λ g=>Ly g E 1 λ g d=>Fl g 0 d H λ g b=>Cb g .eql b (.int .i64 18) (λ g=>bA g ((Op.buildSlice bu 1 [(.int .i64 0)] [(0,1)]) [(.int .i64 4)]) λ g o1 k1=>aB g Q .ret ((3,(.bool true))::(2,(k1 H.next))::E) D (H.alloc o1)) (λ g=>W M c (zr 70) g Q E D H))) /\
 (WE M c (zr 70) λ Q E D H=>Lz E 1 λ g h=>Fl g 0 h H λ g b=>Cb g .eql b (.int .i64 20) (λ g=>bA g ((Op.buildSlice bu 1 [(.int .i64 0)] [(0,1)]) [(.int .i64 3)]) λ g o1 k1=>Ly g E 1 λ g a=>Fl g 2 a (H.alloc o1) λ g d=>B3 g (Op.aS [d]) λ g e=>C3 M g (.func Fb) [(k1 H.next),e] (H.alloc o1) λ g f H2=>aB g Q .ret ((3,(.bool true))::(2,f)::E) D H2) (λ g=>aB g Q .normal E D H)):=by (repeat' apply And.intro)<;>(intro _ _ _ _;refine aL ?_;kernel_rfl)
theorem q48:(ak Tryz.prog).func FU=some PN/\PN.results=[.tmp 2,.tmp 3]:=xw (by kernel_rfl)
theorem q49 (h:W M ⟨none,FU⟩ (zr 0) true (aU M [.tmp 2,.tmp 3] Q) [(0,a0)] [] H):kj M FU [a0] H Q:=aM (by decide) q48 (ks:=qwy) (by kernel_rfl) h
def Mh:aq:=funcAt Tryz.prog Gu
def qwx:Kp:=⟨[0,2],false,[0,2,16,29]⟩
def xX (k:Nat):Kp × ab:=(qwx,part Mh.body k)
theorem Ho (M:aO) (c:Ctx):(WE M c (xX 0) λ Q E D H=>W M c (xX 2) true Q ((2,(.int .i64 0))::E) D H) /\
 (WE M c (xX 2) λ Q E D H=>Lz E 0 λ g e=>Bn g .geq e (.int .i64 1) λ g h=>JN (λ (k:Bool->AV->AV->AHeap->Prop)=>B3 g (aE true (some h)) λ g w=>c9 g w (λ g=>Bn g .leq e (.int .i64 10) λ g l=>k g l e H) (λ g=>k g uu uu H)) (λ g f _ H1=>B3 g (Op.pick [h,f,(.bool false)]) λ g m=>cB g m (λ g=>aB g (aR 0 (aw (W M c (xX 29)) Q)) .ret ((2,(.int .i64 1))::E) D H1) (λ g=>Ly g E 0 λ g a=>Bn g .geq a (.int .i64 11) λ g d=>JN (λ (k:Bool->AV->AV->AHeap->Prop)=>B3 g (aE true (some d)) λ g w=>c9 g w (λ g=>Bn g .leq a (.int .i64 13) λ g i=>k g i a H1) (λ g=>k g uu uu H1)) (λ g b _ H2=>B3 g (Op.pick [d,b,(.bool false)]) λ g j=>cB g j (λ g=>aB g (aR 0 (aw (W M c (xX 29)) Q)) .ret ((2,(.int .i64 2))::E) D H2) (λ g=>W M c (xX 16) g (aR 0 (aw (W M c (xX 29)) Q)) E D H2))))) /\
 (WE M c (xX 29) λ Q E D H=>aB true Q .ret ((2,(.int .i64 0))::E) D H) /\
 (WE M c (xX 16) λ Q E D H=>Lz E 0 λ g d=>Bn g .geq d (.int .i64 14) λ g b=>JN (λ (k:Bool->AV->AV->AHeap->Prop)=>B3 g (aE true (some b)) λ g w=>c9 g w (λ g=>Bn g .leq d (.int .i64 19) λ g f=>k g f d H) (λ g=>k g uu uu H)) (λ g a _ H1=>B3 g (Op.pick [b,a,(.bool false)]) λ g h=>cB g h (λ g=>aB g Q .ret ((2,(.int .i64 3))::E) D H1) (λ g=>Ly g E 0 λ g e=>Cb g .eql e (.int .i64 20) (λ g=>aB g Q .ret ((2,(.int .i64 4))::E) D H1) (λ g=>aB g Q .normal E D H1)))):=by (repeat' apply And.intro)<;>(intro _ _ _ _;refine aL ?_;kernel_rfl)
theorem q46:(ak Tryz.prog).func Gu=some Mh/\Mh.results=[.tmp 2]:=xw (by kernel_rfl)
theorem q47 (h:W M ⟨none,Gu⟩ (xX 0) true (aU M [.tmp 2] Q) [(0,a0)] [] H):kj M Gu [a0] H Q:=aM (by decide) q46 (ks:=qwx) (by kernel_rfl) h
def Ol:aq:=funcAt Tryz.prog xh
def qnk:Kp:=⟨[0,1,5,7,8,11,12,34],false,[0,5,11,18,23,27,33,36]⟩
def zp (k:Nat):Kp × ab:=(qnk,part Ol.body k)
theorem qnl (M:aO) (c:Ctx):(WE M c (zp 0) λ Q E D H=>Lz E 1 λ g a=>bA g (Op.fo [a]) λ g o1 k1=>bS (W M c (zp 5)) (aR 0 (aw (W M c (zp 36)) Q)) ((7,(k1 H.next))::E) D (H.alloc o1)) /\
 (WE M c (zp 36) λ Q E D H=>Lz E 0 λ g d=>B3 g (Op.nilCheck [d]) λ g a=>B3 g ((Op.fieldAddr 0) [a]) λ g b=>Ly g E 1 λ g e=>C3 M g (.func jp) [b,e] H λ g _ H1=>aB g Q .normal E D H1) /\
 (WE M c (zp 5) λ Q E D H=>Lz E 7 λ g b=>bA g (Op.ez [b] H) λ g a H1=>B3 g ((Op.extract 0) [a]) λ g d=>cB g d (λ g=>Gt g M c (zp 11) Q ((8,a)::E) D H1) (λ g=>aB g (aw (W M c (zp 11)) Q) (.exit 0) ((8,a)::E) D H1)) /\
 (WE M c (zp 11) λ Q E D H=>Lz E 8 λ g b=>B3 g ((Op.extract 2) [b]) λ g a=>W M c (zp 18) g (aw (W M c (zp 23)) (aR 2 (aR 1 Q))) ((11,a)::(5,a)::E) D H) /\
 (WE M c (zp 23) λ Q E D H=>Lz E 12 λ g b=>cB g b (λ g=>Ly g E 0 λ g d=>Nf g 3 d H λ g e=>Bn g .add e (.int .i64 1) λ g f=>Ns g 3 d f H λ g u H1=>Ly g E 0 λ g a=>Nf g 4 a H1 λ g h=>Nf g 3 a H1 λ g i=>B3 g ((Op.fy true) [h,i]) λ g j=>Ns g 4 a j H1 λ g u_1 H2=>aB g Q .normal E D H2) (λ g=>W M c (zp 27) g Q E D H)) /\
 (WE M c (zp 18) λ Q E D H=>Lz E 11 λ g d=>Bn g .eql d (.int .i32 40) λ g a=>cB g a (λ g=>aB g Q .normal ((12,a)::E) D H) (λ g=>Ly g E 11 λ g b=>Bn g .eql b (.int .i32 123) λ g e=>aB g Q .normal ((12,e)::(12,a)::E) D H)) /\
 (WE M c (zp 27) λ Q E D H=>Lz E 11 λ g d=>Bn g .eql d (.int .i32 41) λ g a=>cB g a (λ g=>Gt g M c (zp 33) Q ((34,a)::E) D H) (λ g=>Ly g E 11 λ g b=>Bn g .eql b (.int .i32 125) λ g e=>Gt g M c (zp 33) Q ((34,e)::(34,a)::E) D H)) /\
 (WE M c (zp 33) λ Q E D H=>Lz E 34 λ g a=>cB g a (λ g=>Ly g E 0 λ g b=>Nf g 3 b H λ g d=>Bn g .sub d (.int .i64 1) λ g e=>Ns g 3 b e H λ g u H1=>aB g Q .normal E D H1) (λ g=>aB g Q .normal E D H)):=by (repeat' apply And.intro)<;>(intro _ _ _ _;refine aL ?_;kernel_rfl)
theorem qua:(ak Tryz.prog).func xh=some Ol/\Ol.results=[]:=xw (by kernel_rfl)
theorem qub (h:W M ⟨none,xh⟩ (zp 0) true (aU M [] Q) [(0,a0),(1,a1)] [] H):kj M xh [a0,a1] H Q:=aM (by decide) qua (ks:=qnk) (by kernel_rfl) h
def Nu:aq:=funcAt Tryz.prog Cd
def qpt:Kp:=⟨[0,1,4,5,6,7,8,9,10,11,42,43],false,[0,2,19,25,27,33,35,43,52,60,65,79,91,99,101,107,113,117,119,122,128,132]⟩
def qo (k:Nat):Kp × ab:=(qpt,part Nu.body k)
theorem qxp (M:aO) (c:Ctx):(WE M c (qo 0) λ Q E D H=>W M c (qo 2) true Q ((4,(.str []))::E) D H) /\
 (WE M c (qo 2) λ Q E D H=>Lz E 1 λ g a=>Cb g .eql a (.int .i64 0) (λ g=>aB g (aR 0 (aw (W M c (qo 19)) Q)) .ret ((4,(.str []))::(11,a)::E) D H) (λ g=>Cb g .eql a (.int .i64 1) (λ g=>Ly g E 0 λ g b=>aB g (aR 0 (aw (W M c (qo 19)) Q)) .ret ((4,b)::(11,a)::E) D H) (λ g=>aB g (aR 0 (aw (W M c (qo 19)) Q)) .normal ((11,a)::E) D H))) /\
 (WE M c (qo 19) λ Q E D H=>Lz E 1 λ g a=>Cb g .lss a (.int .i64 0) (λ g=>B3 g ((Op.cM oG) [(.str q9x)]) λ g _=>False) (λ g=>Gt g M c (qo 25) Q E D H)) /\
 (WE M c (qo 25) λ Q E D H=>Lz E 0 λ g i=>B3 g (Op.dj [i]) λ g b=>B3 g ((Op.wrap .u64) [b]) λ g d=>Ly g E 1 λ g j=>B3 g ((Op.wrap .u64) [j]) λ g e=>C3 M g (.func Dr) [d,e] H λ g a H1=>B3 g ((Op.extract 0) [a]) λ g f=>B3 g ((Op.extract 1) [a]) λ g h=>W M c (qo 27) g Q ((6,h)::(5,f)::E) D H1) /\
 (WE M c (qo 27) λ Q E D H=>Lz E 5 λ g h=>Bn g .gtr h (.int .u64 0) λ g b=>JN (λ (k:Bool->AV->AV->AHeap->Prop)=>B3 g (aE false (some b)) λ g w=>c9 g w (λ g=>Ly g E 6 λ g d=>Bn g .gtr d (.int .u64 9223372036854775807) λ g e=>k g e d H) (λ g=>k g uu uu H)) (λ g a _ H1=>B3 g (Op.pick [b,(.bool true),a]) λ g f=>cB g f (λ g=>B3 g ((Op.cM oG) [(.str q9y)]) λ g _=>False) (λ g=>Gt g M c (qo 33) Q E D H1))) /\
 (WE M c (qo 33) λ Q E D H=>Lz E 6 λ g b=>B3 g ((Op.wrap .i64) [b]) λ g a=>W M c (qo 35) g Q ((7,a)::E) D H) /\
 (WE M c (qo 35) λ Q E D H=>Lz E 0 λ g b=>B3 g (Op.dj [b]) λ g a=>Cb g .eql a (.int .i64 0) (λ g=>aB g (aw (W M c (qo 43)) Q) .ret ((4,(.str []))::E) D H) (λ g=>Gt g M c (qo 43) Q E D H)) /\
 (WE M c (qo 43) λ Q E D H=>Lz E 0 λ g d=>B3 g (Op.aY [d,(.int .i64 0)]) λ g a=>Bn g .eql a (.int .u8 32) λ g b=>cB g b (λ g=>Gt g M c (qo 65) (aR 1 (aw (W M c (qo 99)) Q)) ((43,b)::(42,a)::E) D H) (λ g=>W M c (qo 52) g (aw (W M c (qo 65)) (aR 1 (aw (W M c (qo 99)) Q))) ((43,b)::(42,a)::E) D H)) /\
 (WE M c (qo 99) λ Q E D H=>Lz E 7 λ g a=>W M c (qo 101) g Q ((8,a)::E) D H) /\
 (WE M c (qo 65) λ Q E D H=>Lz E 43 λ g j=>cB g j (λ g=>Ly g E 7 λ g v=>Bn g .leq v (.int .i64 128) λ g f=>JN (λ (k:Bool->AV->AV->AHeap->Prop)=>B3 g (aE true (some f)) λ g w=>c9 g w (λ g=>Ly g E 0 λ g l=>C3 M g (.func yr) [(.str EC),l] H λ g m H1=>k g m l H1) (λ g=>k g uu uu H)) (λ g d _ H2=>B3 g (Op.pick [f,d,(.bool false)]) λ g n=>cB g n (λ g=>Ly g E 7 λ g a=>B3 g ((Op.cz [none,(some 0)]) [(.str EC),a]) λ g p=>aB g (aR 2 Q) .ret ((4,p)::E) D H2) (λ g=>Ly g E 7 λ g a=>Bn g .leq a (.int .i64 128) λ g h=>JN (λ (k:Bool->AV->AV->AHeap->Prop)=>B3 g (aE true (some h)) λ g w=>c9 g w (λ g=>Ly g E 0 λ g b=>C3 M g (.func yr) [(.str q0s),b] H2 λ g q H3=>k g q b H3) (λ g=>k g uu uu H2)) (λ g e _ H4=>B3 g (Op.pick [h,e,(.bool false)]) λ g r=>cB g r (λ g=>Ly g E 7 λ g i=>B3 g ((Op.cz [none,(some 0)]) [(.str q0s),i]) λ g s=>aB g (aR 2 Q) .ret ((4,s)::E) D H4) (λ g=>W M c (qo 79) g (aR 2 Q) E D H4))))) (λ g=>aB g Q .normal E D H)) /\
 (WE M c (qo 52) λ Q E D H=>Lz E 42 λ g e=>Bn g .eql e (.int .u8 45) λ g a=>cB g a (λ g=>aB g Q .normal ((43,a)::E) D H) (λ g=>Ly g E 42 λ g d=>Bn g .eql d (.int .u8 48) λ g b=>cB g b (λ g=>aB g Q .normal ((43,b)::(43,a)::E) D H) (λ g=>W M c (qo 60) g Q ((43,b)::(43,a)::E) D H))) /\
 (WE M c (qo 101) λ Q E D H=>Lz E 7 λ g h=>Cb g .gtr h (.int .i64 8192) (λ g=>Ly g E 0 λ g d=>B3 g (Op.dj [d]) λ g e=>Bn g .quo (.int .i64 8192) e λ g f=>B3 g (Op.dj [d]) λ g a=>Bn g .mul f a λ g b=>W M c (qo 107) g (aw (W M c (qo 113)) Q) ((8,b)::E) D H) (λ g=>Gt g M c (qo 113) Q E D H)) /\
 (WE M c (qo 79) λ Q E D H=>Lz E 7 λ g s=>Bn g .leq s (.int .i64 64) λ g f=>JN (λ (k:Bool->AV->AV->AHeap->Prop)=>B3 g (aE true (some f)) λ g w=>c9 g w (λ g=>Ly g E 0 λ g j=>C3 M g (.func yr) [(.str q0t),j] H λ g l H1=>k g l j H1) (λ g=>k g uu uu H)) (λ g d _ H2=>B3 g (Op.pick [f,d,(.bool false)]) λ g m=>cB g m (λ g=>Ly g E 7 λ g a=>B3 g ((Op.cz [none,(some 0)]) [(.str q0t),a]) λ g n=>aB g Q .ret ((4,n)::E) D H2) (λ g=>Ly g E 7 λ g a=>Bn g .leq a (.int .i64 128) λ g h=>JN (λ (k:Bool->AV->AV->AHeap->Prop)=>B3 g (aE true (some h)) λ g w=>c9 g w (λ g=>Ly g E 0 λ g b=>C3 M g (.func yr) [(.str q0u),b] H2 λ g p H3=>k g p b H3) (λ g=>k g uu uu H2)) (λ g e _ H4=>B3 g (Op.pick [h,e,(.bool false)]) λ g q=>cB g q (λ g=>Ly g E 7 λ g i=>B3 g ((Op.cz [none,(some 0)]) [(.str q0u),i]) λ g r=>aB g Q .ret ((4,r)::E) D H4) (λ g=>W M c (qo 91) g Q E D H4))))) /\
 (WE M c (qo 60) λ Q E D H=>Lz E 42 λ g d=>Bn g .eql d (.int .u8 61) λ g a=>cB g a (λ g=>aB g Q .normal ((43,a)::E) D H) (λ g=>Ly g E 42 λ g b=>Bn g .eql b (.int .u8 9) λ g e=>aB g Q .normal ((43,e)::(43,a)::E) D H)) /\
 (WE M c (qo 113) λ Q E D H=>A3 true Ig [.nilp,.nils] H λ g a H1=>Ly g E 7 λ g b=>C3 M g (.func FX) [a,b] H1 λ g _ H2=>W M c (qo 117) g Q ((9,a)::E) D H2) /\
 (WE M c (qo 107) λ Q E D H=>Lz E 8 λ g b=>Cb g .eql b (.int .i64 0) (λ g=>Ly g E 0 λ g d=>B3 g (Op.dj [d]) λ g a=>aB g Q .normal ((8,a)::E) D H) (λ g=>aB g Q .normal E D H)) /\
 (WE M c (qo 91) λ Q E D H=>Lz E 7 λ g j=>Bn g .leq j (.int .i64 64) λ g b=>JN (λ (k:Bool->AV->AV->AHeap->Prop)=>B3 g (aE true (some b)) λ g w=>c9 g w (λ g=>Ly g E 0 λ g e=>C3 M g (.func yr) [(.str q0v),e] H λ g f H1=>k g f e H1) (λ g=>k g uu uu H)) (λ g a _ H2=>B3 g (Op.pick [b,a,(.bool false)]) λ g h=>cB g h (λ g=>Ly g E 7 λ g d=>B3 g ((Op.cz [none,(some 0)]) [(.str q0v),d]) λ g i=>aB g Q .ret ((4,i)::E) D H2) (λ g=>aB g Q .normal E D H2))) /\
 (WE M c (qo 117) λ Q E D H=>Lz E 0 λ g a=>Ly g E 9 λ g b=>C3 M g (.func jp) [b,a] H λ g _ H1=>W M c (qo 119) g Q E D H1) /\
 (WE M c (qo 119) λ Q E D H=>bS (W M c (qo 122)) (aR 3 (aw (W M c (qo 132)) Q)) E D H) /\
 (WE M c (qo 132) λ Q E D H=>Lz E 9 λ g b=>C3 M g (.func yd) [b] H λ g a H1=>aB g Q .ret ((4,a)::E) D H1) /\
 (WE M c (qo 122) λ Q E D H=>Lz E 9 λ g b=>C3 M g (.func vi) [b] H λ g a H1=>Ly g E 7 λ g d=>Cb g .lss a d (λ g=>Gt g M c (qo 128) Q E D H1) (λ g=>aB g (aw (W M c (qo 128)) Q) (.exit 3) E D H1)) /\
 (WE M c (qo 128) λ Q E D H=>Lz E 7 λ g l=>Ly g E 9 λ g j=>C3 M g (.func vi) [j] H λ g d H1=>Bn g .sub l d λ g e=>C3 M g (.func vi) [j] H1 λ g f H2=>Ly g E 8 λ g m=>B3 g ((Op.fy false) [e,f,m]) λ g a=>Ly g E 9 λ g b=>C3 M g (.func yd) [b] H2 λ g h H3=>B3 g ((Op.cz [none,(some 0)]) [h,a]) λ g i=>C3 M g (.func jp) [b,i] H3 λ g _ H4=>aB g (aR 4 Q) .normal ((10,a)::E) D H4):=by (repeat' apply And.intro)<;>(intro _ _ _ _;refine aL ?_;kernel_rfl)
theorem qxn:(ak Tryz.prog).func Cd=some Nu/\Nu.results=[.tmp 4]:=xw (by kernel_rfl)
theorem qxo (h:W M ⟨none,Cd⟩ (qo 0) true (aU M [.tmp 4] Q) [(0,a0),(1,a1)] [] H):kj M Cd [a0,a1] H Q:=aM (by decide) qxn (ks:=qpt) (by kernel_rfl) h
def OM:aq:=funcAt Tryz.prog jk
def qiu:Kp:=⟨[0,1,2,6,15,54],false,[0,13,25,31,34,38,53]⟩
def ze (k:Nat):Kp × ab:=(qiu,part OM.body k)
theorem xy (M:aO) (c:Ctx):(WE M c (ze 0) λ Q E D H=>Lz E 0 λ g v=>Nf g 2 v H λ g h=>Ly g E 1 λ g x=>B3 g ((Op.aJ 3) [h,x]) λ g i=>B3 g ((Op.au 3) [i] H) λ g j=>A3 g xf [(.int .i64 0),(.int .u64 0),.nils] H λ g a H1=>bA g ((Op.store 3) [a,j] H1) λ g u H2=>Fl g 0 a H2 λ g b=>Cb g .eql b (.int .i64 14) (λ g=>Ly g E 0 λ g d=>Fl g 1 a H2 λ g l=>Bn g .add (.int .u64 97) l λ g m=>B3 g ((Op.wrap .i32) [m]) λ g n=>B3 g (Op.fB [n]) λ g p=>Bn g .add p (.str [32,61,32]) λ g q=>C3 M g (.func xh) [d,q] H2 λ g _ H3=>Ly g E 0 λ g e=>Fl g 2 a H3 λ g r=>Xl g r (.int .i64 0) H3 λ g s=>C3 M g (.func jj) [e,s,(.int .i64 0)] H3 λ g _ H4=>Ly g E 0 λ g f=>C3 M g (.func xh) [f,(.str [59])] H4 λ g _ H5=>aB g (aR 0 Q) .normal ((15,b)::(6,a)::E) D H5) (λ g=>W M c (ze 13) g (aR 0 Q) ((15,b)::(6,a)::E) D H2)) /\
 (WE M c (ze 13) λ Q E D H=>Lz E 15 λ g h=>Cb g .eql h (.int .i64 15) (λ g=>Ly g E 0 λ g n=>C3 M g (.func xh) [n,(.str [115,116,111,114,101,40])] H λ g _ H1=>Ly g E 0 λ g a=>Ly g E 6 λ g p=>Fl g 2 p H1 λ g i=>Xl g i (.int .i64 0) H1 λ g j=>C3 M g (.func jj) [a,j,(.int .i64 0)] H1 λ g _ H2=>Ly g E 0 λ g b=>C3 M g (.func xh) [b,(.str [44,32])] H2 λ g _ H3=>Ly g E 0 λ g d=>Ly g E 6 λ g e=>Fl g 2 e H3 λ g l=>Xl g l (.int .i64 1) H3 λ g m=>C3 M g (.func jj) [d,m,(.int .i64 0)] H3 λ g _ H4=>Ly g E 0 λ g f=>C3 M g (.func xh) [f,(.str [41,59])] H4 λ g _ H5=>aB g Q .normal E D H5) (λ g=>W M c (ze 25) g Q E D H)) /\
 (WE M c (ze 25) λ Q E D H=>Lz E 15 λ g d=>Bn g .eql d (.int .i64 16) λ g a=>cB g a (λ g=>Gt g M c (ze 31) Q ((54,a)::E) D H) (λ g=>Ly g E 15 λ g b=>Bn g .eql b (.int .i64 17) λ g e=>Gt g M c (ze 31) Q ((54,e)::(54,a)::E) D H)) /\
 (WE M c (ze 31) λ Q E D H=>Lz E 54 λ g f=>cB g f (λ g=>Ly g E 0 λ g a=>bA g ((Op.buildSlice oG 2 [(.str [])] [(0,1),(1,1)]) [(.str [105,102,32,40]),(.str [119,104,105,108,101,32,40])]) λ g o1 k1=>Ly g E 6 λ g b=>Fl g 0 b (H.alloc o1) λ g h=>Bn g .sub h (.int .i64 16) λ g i=>Xl g (k1 H.next) i (H.alloc o1) λ g j=>C3 M g (.func xh) [a,j] (H.alloc o1) λ g _ H2=>W M c (ze 34) g Q E D H2) (λ g=>Ly g E 15 λ g l=>Cb g .eql l (.int .i64 18) (λ g=>Ly g E 0 λ g a=>C3 M g (.func xh) [a,(.str [97,116,111,109,105,99,32])] H λ g _ H1=>Ly g E 0 λ g d=>Ly g E 6 λ g b=>Fl g 2 b H1 λ g m=>Xl g m (.int .i64 0) H1 λ g e=>Ly g E 2 λ g n=>C3 M g (.func vk) [d,e,n] H1 λ g _ H2=>aB g Q .normal E D H2) (λ g=>W M c (ze 53) g Q E D H))) /\
 (WE M c (ze 34) λ Q E D H=>Lz E 0 λ g e=>Ly g E 6 λ g f=>Fl g 2 f H λ g b=>Xl g b (.int .i64 0) H λ g d=>C3 M g (.func GM) [e,d] H λ g _ H1=>Ly g E 0 λ g a=>C3 M g (.func xh) [a,(.str [41,32])] H1 λ g _ H2=>W M c (ze 38) g Q E D H2) /\
 (WE M c (ze 53) λ Q E D H=>Lz E 15 λ g a=>Cb g .eql a (.int .i64 19) (λ g=>Ly g E 0 λ g b=>C3 M g (.func xh) [b,(.str [104,97,108,116,59])] H λ g _ H1=>aB g Q .normal E D H1) (λ g=>aB g Q .normal E D H)) /\
 (WE M c (ze 38) λ Q E D H=>Lz E 0 λ g p=>Ly g E 6 λ g q=>Fl g 2 q H λ g h=>Xl g h (.int .i64 1) H λ g i=>Ly g E 2 λ g r=>C3 M g (.func vk) [p,i,r] H λ g _ H1=>Ly g E 6 λ g a=>Fl g 2 a H1 λ g j=>B3 g (Op.aS [j]) λ g l=>Cb g .eql l (.int .i64 3) (λ g=>Ly g E 0 λ g b=>C3 M g (.func xh) [b,(.str [32,101,108,115,101,32])] H1 λ g _ H2=>Ly g E 0 λ g d=>Ly g E 6 λ g e=>Fl g 2 e H2 λ g m=>Xl g m (.int .i64 2) H2 λ g n=>Ly g E 2 λ g f=>C3 M g (.func vk) [d,n,f] H2 λ g _ H3=>aB g Q .normal E D H3) (λ g=>aB g Q .normal E D H1)):=by (repeat' apply And.intro)<;>(intro _ _ _ _;refine aL ?_;kernel_rfl)
theorem qo2:(ak Tryz.prog).func jk=some OM/\OM.results=[]:=xw (by kernel_rfl)
theorem vn (h:W M ⟨none,jk⟩ (ze 0) true (aU M [] Q) [(0,a0),(1,a1),(2,a2)] [] H):kj M jk [a0,a1,a2] H Q:=aM (by decide) qo2 (ks:=qiu) (by kernel_rfl) h
def M7:aq:=funcAt Tryz.prog Fb
def qmx:Kp:=⟨[0,1,4,5,6,7,8],false,[0,2,8,10,16,20,23,29,31]⟩
def zi (k:Nat):Kp × ab:=(qmx,part M7.body k)
theorem qs1 (M:aO) (c:Ctx):(WE M c (zi 0) λ Q E D H=>W M c (zi 2) true Q ((4,.nils)::E) D H) /\
 (WE M c (zi 2) λ Q E D H=>Lz E 1 λ g a=>Cb g .lss a (.int .i64 0) (λ g=>B3 g ((Op.cM oG) [(.str [99,97,110,110,111,116,32,98,101,32,110,101,103,97,116,105,118,101])]) λ g _=>False) (λ g=>Gt g M c (zi 8) Q E D H)) /\
 (WE M c (zi 8) λ Q E D H=>Lz E 0 λ g i=>B3 g (Op.aS [i]) λ g b=>B3 g ((Op.wrap .u64) [b]) λ g d=>Ly g E 1 λ g j=>B3 g ((Op.wrap .u64) [j]) λ g e=>C3 M g (.func Dr) [d,e] H λ g a H1=>B3 g ((Op.extract 0) [a]) λ g f=>B3 g ((Op.extract 1) [a]) λ g h=>W M c (zi 10) g Q ((6,h)::(5,f)::E) D H1) /\
 (WE M c (zi 10) λ Q E D H=>Lz E 5 λ g h=>Bn g .gtr h (.int .u64 0) λ g b=>JN (λ (k:Bool->AV->AV->AHeap->Prop)=>B3 g (aE false (some b)) λ g w=>c9 g w (λ g=>Ly g E 6 λ g d=>Bn g .gtr d (.int .u64 9223372036854775807) λ g e=>k g e d H) (λ g=>k g uu uu H)) (λ g a _ H1=>B3 g (Op.pick [b,(.bool true),a]) λ g f=>cB g f (λ g=>B3 g ((Op.cM oG) [(.str q9z)]) λ g _=>False) (λ g=>Gt g M c (zi 16) Q E D H1))) /\
 (WE M c (zi 16) λ Q E D H=>Lz E 6 λ g d=>B3 g ((Op.wrap .i64) [d]) λ g a=>bA g ((Op.mkSlice bu 8 [(.int .i64 0)]) [a,a]) λ g o1 k1=>Ly g E 0 λ g e=>bA g ((Op.copy 1) [(k1 H.next),e] (H.alloc o1)) λ g b H2=>W M c (zi 20) g Q ((8,b)::(7,(k1 H.next))::E) D H2) /\
 (WE M c (zi 20) λ Q E D H=>bS (W M c (zi 23)) (aR 0 (aw (W M c (zi 31)) Q)) E D H) /\
 (WE M c (zi 31) λ Q E D H=>Lz E 7 λ g a=>aB g Q .ret ((4,a)::E) D H) /\
 (WE M c (zi 23) λ Q E D H=>Lz E 8 λ g b=>Ly g E 7 λ g d=>B3 g (Op.aS [d]) λ g a=>Cb g .lss b a (λ g=>Gt g M c (zi 29) Q E D H) (λ g=>aB g (aw (W M c (zi 29)) Q) (.exit 0) E D H)) /\
 (WE M c (zi 29) λ Q E D H=>Lz E 8 λ g a=>Ly g E 7 λ g b=>B3 g ((Op.bc 1 [(some 0),none,none]) [b,a]) λ g d=>B3 g ((Op.bc 1 [none,(some 0),none]) [b,a]) λ g e=>bA g ((Op.copy 1) [d,e] H) λ g f H1=>Bn g .add a f λ g h=>aB g (aR 1 Q) .normal ((8,h)::E) D H1):=by (repeat' apply And.intro)<;>(intro _ _ _ _;refine aL ?_;kernel_rfl)
theorem qsz:(ak Tryz.prog).func Fb=some M7/\M7.results=[.tmp 4]:=xw (by kernel_rfl)
theorem qs0 (h:W M ⟨none,Fb⟩ (zi 0) true (aU M [.tmp 4] Q) [(0,a0),(1,a1)] [] H):kj M Fb [a0,a1] H Q:=aM (by decide) qsz (ks:=qmx) (by kernel_rfl) h
def Mq:aq:=funcAt Tryz.prog Dr
def qqf:Kp:=⟨[0,1,4,5,6,7,8,9],false,[0,10]⟩
def Kk (k:Nat):Kp × ab:=(qqf,part Mq.body k)
theorem qqg (M:aO) (c:Ctx):(WE M c (Kk 0) λ Q E D H=>cB true (.bool false) (λ g=>Ly g E 0 λ g j=>B3 g ((Op.wrap .u32) [j]) λ g e=>Ly g E 1 λ g l=>B3 g ((Op.wrap .u32) [l]) λ g f=>C3 M g (.func qvc) [e,f] H λ g a H1=>B3 g ((Op.extract 0) [a]) λ g b=>B3 g ((Op.extract 1) [a]) λ g d=>B3 g ((Op.wrap .u64) [b]) λ g h=>B3 g ((Op.wrap .u64) [d]) λ g i=>aB g (aw (W M c (Kk 10)) Q) .ret ((5,i)::(4,h)::(7,d)::(6,b)::(5,(.int .u64 0))::(4,(.int .u64 0))::E) D H1) (λ g=>Gt g M c (Kk 10) Q ((5,(.int .u64 0))::(4,(.int .u64 0))::E) D H)) /\
 (WE M c (Kk 10) λ Q E D H=>Lz E 0 λ g e=>Ly g E 1 λ g f=>C3 M g (.func F8) [e,f] H λ g a H1=>B3 g ((Op.extract 0) [a]) λ g b=>B3 g ((Op.extract 1) [a]) λ g d=>aB g Q .ret ((5,d)::(4,b)::(9,d)::(8,b)::E) D H1):=by (repeat' apply And.intro)<;>(intro _ _ _ _;refine aL ?_;kernel_rfl)
theorem qy6:(ak Tryz.prog).func Dr=some Mq/\Mq.results=[.tmp 4,.tmp 5]:=xw (by kernel_rfl)
theorem qy7 (h:W M ⟨none,Dr⟩ (Kk 0) true (aU M [.tmp 4,.tmp 5] Q) [(0,a0),(1,a1)] [] H):kj M Dr [a0,a1] H Q:=aM (by decide) qy6 (ks:=qqf) (by kernel_rfl) h
def Pe:aq:=funcAt Tryz.prog yr
def qm5:Kp:=⟨[0,1,4],false,[0]⟩
def qm6 (k:Nat):Kp × ab:=(qm5,part Pe.body k)
theorem qm7 (M:aO) (c:Ctx):(WE M c (qm6 0) λ Q E D H=>Lz E 0 λ g a=>Ly g E 1 λ g b=>C3 M g (.func yz) [a,b] H λ g d H1=>aB g Q .ret ((4,d)::(4,(.bool false))::E) D H1):=by intro _ _ _ _;refine aL ?_;kernel_rfl
theorem qte:(ak Tryz.prog).func yr=some Pe/\Pe.results=[.tmp 4]:=xw (by kernel_rfl)
theorem qtf (h:W M ⟨none,yr⟩ (qm6 0) true (aU M [.tmp 4] Q) [(0,a0),(1,a1)] [] H):kj M yr [a0,a1] H Q:=aM (by decide) qte (ks:=qm5) (by kernel_rfl) h
def PK:aq:=funcAt Tryz.prog jj
def qni:Kp:=⟨[0,1,2,6,7,9,18],false,[0,9,21,25,31,35]⟩
def jw (k:Nat):Kp × ab:=(qni,part PK.body k)
theorem we (M:aO) (c:Ctx):(WE M c (jw 0) λ Q E D H=>Lz E 0 λ g l=>Nf g 2 l H λ g e=>Ly g E 1 λ g m=>B3 g ((Op.aJ 3) [e,m]) λ g f=>B3 g ((Op.au 3) [f] H) λ g h=>A3 g xf [(.int .i64 0),(.int .u64 0),.nils] H λ g a H1=>bA g ((Op.store 3) [a,h] H1) λ g u H2=>Fl g 0 a H2 λ g b=>Cb g .eql b (.int .i64 1) (λ g=>Ly g E 0 λ g d=>Fl g 1 a H2 λ g i=>C3 M g (.func He) [i,(.int .i64 10)] H2 λ g j H3=>C3 M g (.func xh) [d,j] H3 λ g _ H4=>aB g (aR 0 Q) .normal ((18,b)::(6,a)::E) D H4) (λ g=>W M c (jw 9) g (aR 0 Q) ((18,b)::(6,a)::E) D H2)) /\
 (WE M c (jw 9) λ Q E D H=>Lz E 18 λ g h=>Cb g .eql h (.int .i64 2) (λ g=>Ly g E 0 λ g b=>Ly g E 6 λ g d=>Fl g 1 d H λ g i=>Bn g .add (.int .u64 97) i λ g j=>B3 g ((Op.wrap .i32) [j]) λ g l=>B3 g (Op.fB [l]) λ g m=>C3 M g (.func xh) [b,m] H λ g _ H1=>aB g Q .normal E D H1) (λ g=>Ly g E 18 λ g a=>Cb g .eql a (.int .i64 3) (λ g=>Ly g E 0 λ g b=>C3 M g (.func xh) [b,(.str [108,111,97,100,40])] H λ g _ H1=>Ly g E 0 λ g e=>Ly g E 6 λ g d=>Fl g 2 d H1 λ g n=>Xl g n (.int .i64 0) H1 λ g p=>C3 M g (.func jj) [e,p,(.int .i64 0)] H1 λ g _ H2=>Ly g E 0 λ g f=>C3 M g (.func xh) [f,(.str [41])] H2 λ g _ H3=>aB g Q .normal E D H3) (λ g=>W M c (jw 21) g Q E D H))) /\
 (WE M c (jw 21) λ Q E D H=>Lz E 6 λ g f=>Fl g 0 f H λ g d=>C3 M g (.func Hk) [d] H λ g a H1=>C3 M g (.func Ge) [a] H1 λ g b H2=>B3 g ((Op.extract 0) [b]) λ g _=>B3 g ((Op.extract 1) [b]) λ g e=>W M c (jw 25) g Q ((9,e)::(7,a)::E) D H2) /\
 (WE M c (jw 25) λ Q E D H=>Lz E 9 λ g a=>Ly g E 2 λ g b=>Cb g .lss a b (λ g=>Ly g E 0 λ g d=>C3 M g (.func xh) [d,(.str [40])] H λ g _ H1=>Gt g M c (jw 31) Q E D H1) (λ g=>Gt g M c (jw 31) Q E D H)) /\
 (WE M c (jw 31) λ Q E D H=>Lz E 0 λ g h=>Ly g E 6 λ g i=>Fl g 2 i H λ g b=>Xl g b (.int .i64 0) H λ g d=>Ly g E 9 λ g j=>C3 M g (.func jj) [h,d,j] H λ g _ H1=>Ly g E 0 λ g a=>Ly g E 7 λ g l=>Bn g .add (.str [32]) l λ g e=>Bn g .add e (.str [32]) λ g f=>C3 M g (.func xh) [a,f] H1 λ g _ H2=>W M c (jw 35) g Q E D H2) /\
 (WE M c (jw 35) λ Q E D H=>Lz E 0 λ g h=>Ly g E 6 λ g i=>Fl g 2 i H λ g d=>Xl g d (.int .i64 1) H λ g e=>Ly g E 9 λ g j=>Bn g .add j (.int .i64 1) λ g f=>C3 M g (.func jj) [h,e,f] H λ g _ H1=>Ly g E 9 λ g a=>Ly g E 2 λ g l=>Cb g .lss a l (λ g=>Ly g E 0 λ g b=>C3 M g (.func xh) [b,(.str [41])] H1 λ g _ H2=>aB g Q .normal E D H2) (λ g=>aB g Q .normal E D H1)):=by (repeat' apply And.intro)<;>(intro _ _ _ _;refine aL ?_;kernel_rfl)
theorem qt7:(ak Tryz.prog).func jj=some PK/\PK.results=[]:=xw (by kernel_rfl)
theorem L7 (h:W M ⟨none,jj⟩ (jw 0) true (aU M [] Q) [(0,a0),(1,a1),(2,a2)] [] H):kj M jj [a0,a1,a2] H Q:=aM (by decide) qt7 (ks:=qni) (by kernel_rfl) h
def M1:aq:=funcAt Tryz.prog GM
def qng:Kp:=⟨[0,1,4],false,[0]⟩
def qnh (k:Nat):Kp × ab:=(qng,part M1.body k)
theorem LO (M:aO) (c:Ctx):(WE M c (qnh 0) λ Q E D H=>Lz E 0 λ g r=>Nf g 2 r H λ g s=>Ly g E 1 λ g v=>B3 g ((Op.aJ 3) [s,v]) λ g f=>B3 g ((Op.au 3) [f] H) λ g h=>A3 g xf [(.int .i64 0),(.int .u64 0),.nils] H λ g a H1=>bA g ((Op.store 3) [a,h] H1) λ g u H2=>Ly g E 0 λ g b=>Fl g 2 a H2 λ g i=>Xl g i (.int .i64 0) H2 λ g j=>C3 M g (.func jj) [b,j,(.int .i64 0)] H2 λ g _ H3=>Ly g E 0 λ g d=>bA g ((Op.buildSlice oG 3 [(.str [])] [(0,1),(1,1),(2,1)]) [(.str [32,61,61,32]),(.str [32,33,61,32]),(.str [32,60,32])]) λ g o4 k4=>Fl g 0 a (H3.alloc o4) λ g l=>Bn g .sub l (.int .i64 11) λ g m=>Xl g (k4 H3.next) m (H3.alloc o4) λ g n=>C3 M g (.func xh) [d,n] (H3.alloc o4) λ g _ H5=>Ly g E 0 λ g e=>Fl g 2 a H5 λ g p=>Xl g p (.int .i64 1) H5 λ g q=>C3 M g (.func jj) [e,q,(.int .i64 0)] H5 λ g _ H6=>aB g Q .normal ((4,a)::E) D H6):=by intro _ _ _ _;refine aL ?_;kernel_rfl
theorem qt5:(ak Tryz.prog).func GM=some M1/\M1.results=[]:=xw (by kernel_rfl)
theorem qt6 (h:W M ⟨none,GM⟩ (qnh 0) true (aU M [] Q) [(0,a0),(1,a1)] [] H):kj M GM [a0,a1] H Q:=aM (by decide) qt5 (ks:=qng) (by kernel_rfl) h
def NP:aq:=funcAt Tryz.prog vk
def qmg:Kp:=⟨[0,1,2],false,[0]⟩
def qmh (k:Nat):Kp × ab:=(qmg,part NP.body k)
theorem Iz (M:aO) (c:Ctx):(WE M c (qmh 0) λ Q E D H=>Lz E 0 λ g i=>C3 M g (.func xh) [i,(.str [123,10])] H λ g _ H1=>Ly g E 0 λ g a=>Ly g E 1 λ g j=>Ly g E 2 λ g l=>Bn g .add l (.int .i64 1) λ g e=>C3 M g (.func CR) [a,j,e] H1 λ g _ H2=>Ly g E 0 λ g b=>Ly g E 2 λ g d=>C3 M g (.func Cd) [(.str [32,32]),d] H2 λ g f H3=>Bn g .add f (.str [125]) λ g h=>C3 M g (.func xh) [b,h] H3 λ g _ H4=>aB g Q .normal E D H4):=by intro _ _ _ _;refine aL ?_;kernel_rfl
theorem qsr:(ak Tryz.prog).func vk=some NP/\NP.results=[]:=xw (by kernel_rfl)
theorem qss (h:W M ⟨none,vk⟩ (qmh 0) true (aU M [] Q) [(0,a0),(1,a1),(2,a2)] [] H):kj M vk [a0,a1,a2] H Q:=aM (by decide) qsr (ks:=qmg) (by kernel_rfl) h
def Oc:aq:=funcAt Tryz.prog F8
def qok:Kp:=⟨[0,1,4,5,6,7,8,9,10,11,12,13],false,[0,4,8,12]⟩
def Cf (k:Nat):Kp × ab:=(qok,part Oc.body k)
theorem qv6 (M:aO) (c:Ctx):(WE M c (Cf 0) λ Q E D H=>Lz E 0 λ g b=>Bn g .and b (.int .u64 4294967295) λ g a=>W M c (Cf 4) g Q ((6,a)::(5,(.int .u64 0))::(4,(.int .u64 0))::E) D H) /\
 (WE M c (Cf 4) λ Q E D H=>Lz E 0 λ g d=>Bn g .shr d (.int .u64 32) λ g a=>Ly g E 1 λ g e=>Bn g .and e (.int .u64 4294967295) λ g b=>W M c (Cf 8) g Q ((8,b)::(7,a)::E) D H) /\
 (WE M c (Cf 8) λ Q E D H=>Lz E 1 λ g d=>Bn g .shr d (.int .u64 32) λ g a=>Ly g E 6 λ g e=>Ly g E 8 λ g f=>Bn g .mul e f λ g b=>W M c (Cf 12) g Q ((10,b)::(9,a)::E) D H) /\
 (WE M c (Cf 12) λ Q E D H=>Lz E 7 λ g v=>Ly g E 8 λ g x=>Bn g .mul v x λ g i=>Ly g E 10 λ g j=>Bn g .shr j (.int .u64 32) λ g l=>Bn g .add i l λ g a=>Bn g .and a (.int .u64 4294967295) λ g b=>Bn g .shr a (.int .u64 32) λ g d=>Ly g E 6 λ g y=>Ly g E 9 λ g z=>Bn g .mul y z λ g m=>Bn g .add b m λ g e=>Ly g E 7 λ g f=>Ly g E 9 λ g h=>Bn g .mul f h λ g n=>Bn g .add n d λ g p=>Bn g .shr e (.int .u64 32) λ g q=>Bn g .add p q λ g r=>Ly g E 0 λ g A=>Ly g E 1 λ g B=>Bn g .mul A B λ g s=>aB g Q .ret ((5,s)::(4,r)::(12,e)::(13,d)::(12,b)::(11,a)::E) D H):=by (repeat' apply And.intro)<;>(intro _ _ _ _;refine aL ?_;kernel_rfl)
theorem qv4:(ak Tryz.prog).func F8=some Oc/\Oc.results=[.tmp 4,.tmp 5]:=xw (by kernel_rfl)
theorem qv5 (h:W M ⟨none,F8⟩ (Cf 0) true (aU M [.tmp 4,.tmp 5] Q) [(0,a0),(1,a1)] [] H):kj M F8 [a0,a1] H Q:=aM (by decide) qv4 (ks:=qok) (by kernel_rfl) h
def PF:aq:=funcAt Tryz.prog yz
def qen:Kp:=⟨[0,1,4],false,[0]⟩
def qeo (k:Nat):Kp × ab:=(qen,part PF.body k)
theorem qjb (M:aO) (c:Ctx):(WE M c (qeo 0) λ Q E D H=>Lz E 0 λ g f=>B3 g (Op.dj [f]) λ g l=>Ly g E 1 λ g a=>B3 g (Op.dj [a]) λ g m=>Bn g .geq l m λ g h=>JN (λ (k:Bool->AV->AV->AV->AV->AV->AV->AHeap->Prop)=>B3 g (aE true (some h)) λ g w=>c9 g w (λ g=>B3 g (Op.dj [a]) λ g d=>B3 g ((Op.cz [none,(some 0)]) [f,d]) λ g e=>Bn g .eql e a λ g i=>k g i a e d a f H) (λ g=>k g uu uu uu uu uu uu H)) (λ g b _ _ _ _ _ H1=>B3 g (Op.pick [h,b,(.bool false)]) λ g j=>aB g Q .ret ((4,j)::(4,(.bool false))::E) D H1)):=by intro _ _ _ _;refine aL ?_;kernel_rfl
theorem qi9:(ak Tryz.prog).func yz=some PF/\PF.results=[.tmp 4]:=xw (by kernel_rfl)
theorem qja (h:W M ⟨none,yz⟩ (qeo 0) true (aU M [.tmp 4] Q) [(0,a0),(1,a1)] [] H):kj M yz [a0,a1] H Q:=aM (by decide) qi9 (ks:=qen) (by kernel_rfl) h
def Ou:aq:=funcAt Tryz.prog Hk
def qwz:Kp:=⟨[0,2],false,[0]⟩
def qw0 (k:Nat):Kp × ab:=(qwz,part Ou.body k)
theorem q5c (M:aO) (c:Ctx):(WE M c (qw0 0) λ Q E D H=>bA true ((Op.buildSlice oG 7 [(.str [])] [(0,1),(1,1),(2,1),(3,1),(4,1),(5,1),(6,1)]) [(.str [43]),(.str [45]),(.str [42]),(.str [38]),(.str [94]),(.str [60,60]),(.str [62,62])]) λ g o1 k1=>Ly g E 0 λ g a=>Bn g .sub a (.int .i64 4) λ g b=>Xl g (k1 H.next) b (H.alloc o1) λ g d=>aB g Q .ret ((2,d)::(2,(.str []))::E) D (H.alloc o1)):=by intro _ _ _ _;refine aL ?_;kernel_rfl
theorem q5a:(ak Tryz.prog).func Hk=some Ou/\Ou.results=[.tmp 2]:=xw (by kernel_rfl)
theorem q5b (h:W M ⟨none,Hk⟩ (qw0 0) true (aU M [.tmp 2] Q) [(0,a0)] [] H):kj M Hk [a0] H Q:=aM (by decide) q5a (ks:=qwz) (by kernel_rfl) h
def P7:aq:=funcAt Tryz.prog Ge
def qy2:Kp:=⟨[0,2,3,4],false,[0,2,18,30,42,49]⟩
def pL (k:Nat):Kp × ab:=(qy2,part P7.body k)
theorem q7c (M:aO) (c:Ctx):(WE M c (pL 0) λ Q E D H=>W M c (pL 2) true Q ((3,(.int .i64 0))::(2,(.int .i64 0))::E) D H) /\
 (WE M c (pL 2) λ Q E D H=>Lz E 0 λ g a=>Cb g .eql a (.str [43]) (λ g=>aB g (aR 0 (aw (W M c (pL 49)) Q)) .ret ((3,(.int .i64 1))::(2,(.int .i64 4))::(4,a)::E) D H) (λ g=>Cb g .eql a (.str [45]) (λ g=>aB g (aR 0 (aw (W M c (pL 49)) Q)) .ret ((3,(.int .i64 1))::(2,(.int .i64 5))::(4,a)::E) D H) (λ g=>W M c (pL 18) g (aR 0 (aw (W M c (pL 49)) Q)) ((4,a)::E) D H))) /\
 (WE M c (pL 49) λ Q E D H=>aB true Q .ret ((3,(.int .i64 0))::(2,(.int .i64 0))::E) D H) /\
 (WE M c (pL 18) λ Q E D H=>Lz E 4 λ g b=>Cb g .eql b (.str [94]) (λ g=>aB g Q .ret ((3,(.int .i64 1))::(2,(.int .i64 8))::E) D H) (λ g=>Ly g E 4 λ g a=>Cb g .eql a (.str [42]) (λ g=>aB g Q .ret ((3,(.int .i64 2))::(2,(.int .i64 6))::E) D H) (λ g=>W M c (pL 30) g Q E D H))) /\
 (WE M c (pL 30) λ Q E D H=>Lz E 4 λ g b=>Cb g .eql b (.str [38]) (λ g=>aB g Q .ret ((3,(.int .i64 2))::(2,(.int .i64 7))::E) D H) (λ g=>Ly g E 4 λ g a=>Cb g .eql a (.str [60,60]) (λ g=>aB g Q .ret ((3,(.int .i64 2))::(2,(.int .i64 9))::E) D H) (λ g=>W M c (pL 42) g Q E D H))) /\
 (WE M c (pL 42) λ Q E D H=>Lz E 4 λ g a=>Cb g .eql a (.str [62,62]) (λ g=>aB g Q .ret ((3,(.int .i64 2))::(2,(.int .i64 10))::E) D H) (λ g=>aB g Q .normal E D H)):=by (repeat' apply And.intro)<;>(intro _ _ _ _;refine aL ?_;kernel_rfl)
theorem q7a:(ak Tryz.prog).func Ge=some P7/\P7.results=[.tmp 2,.tmp 3]:=xw (by kernel_rfl)
theorem q7b (h:W M ⟨none,Ge⟩ (pL 0) true (aU M [.tmp 2,.tmp 3] Q) [(0,a0)] [] H):kj M Ge [a0] H Q:=aM (by decide) q7a (ks:=qy2) (by kernel_rfl) h
end
end Go.Am
namespace Go.Am
abbrev EK:Nat:=8
abbrev Dq:Nat:=23
abbrev Ek:Nat:=58
abbrev GB:Nat:=22
abbrev Fc:Nat:=37
abbrev z4:Nat:=24
abbrev vy:Nat:=39
abbrev vv:Nat:=59
abbrev zx:Nat:=36
abbrev EW:Nat:=38
abbrev ji:Nat:=35
abbrev z6:Nat:=36
abbrev vN:Nat:=24
abbrev IC:Nat:=66
abbrev KJ:Nat:=64
noncomputable section
open Go.Proofs Go.Proofs.YtbimikjajohflaaGreatDoor
variable {M:aO} [MK M] {H:AHeap} {Q:bE->AHeap->Prop} {a0 a1 a2:AV}
def Mu:aq:=funcAt Tryz.prog EK
def qr5:Kp:=⟨[0,1,3,4,5,6],false,[0,2,10,14,22]⟩
def rM (k:Nat):Kp × ab:=(qr5,part Mu.body k)
theorem q0h (M:aO) (c:Ctx):(WE M c (rM 0) λ Q E D H=>Lz E 1 λ g a=>A3 g vN (AV.cells a) H λ g b H1=>W M c (rM 2) g Q ((5,(.int .i64 0))::(4,.nils)::(3,b)::E) D H1) /\
 (WE M c (rM 2) λ Q E D H=>Lz E 0 λ g i=>C3 M g (.func GB) [i] H λ g j H1=>B3 g ((Op.un .not) [j]) λ g e=>JN (λ (k:Bool->AV->AV->AV->AHeap->Prop)=>B3 g (aE false (some e)) λ g w=>c9 g w (λ g=>Ly g E 3 λ g l=>B3 g ((Op.au 3) [l] H1) λ g b=>C3 M g (.func Dq) [b] H1 λ g d H2=>B3 g ((Op.un .not) [d]) λ g f=>k g f d b H2) (λ g=>k g uu uu uu H1)) (λ g a _ _ H3=>B3 g (Op.pick [e,(.bool true),a]) λ g h=>cB g h (λ g=>aB g (aw (W M c (rM 10)) Q) .ret ((5,(.int .i64 2))::(4,.nils)::E) D H3) (λ g=>Gt g M c (rM 10) Q E D H3))) /\
 (WE M c (rM 10) λ Q E D H=>Lz E 0 λ g i=>Ly g E 3 λ g j=>B3 g ((Op.au 3) [j] H) λ g d=>B3 g ((Op.build [.nils,(.int .i64 0),(.int .i64 0),(.int .i64 0),.nils,(.bool false)] [(0,1),(1,3)]) [i,d]) λ g e=>A3 g IC (AV.cells e) H λ g a H1=>Ly g E 0 λ g b=>B3 g (Op.aS [b]) λ g f=>Bn g .sub f (.int .i64 1) λ g h=>C3 M g (.func z4) [a,h] H1 λ g _ H2=>W M c (rM 14) g Q ((6,a)::E) D H2) /\
 (WE M c (rM 14) λ Q E D H=>Lz E 6 λ g i=>Nf g 5 i H λ g b=>JN (λ (k:Bool->AV->AV->AV->AV->AV->AV->AHeap->Prop)=>B3 g (aE false (some b)) λ g w=>c9 g w (λ g=>B3 g (Op.nilCheck [i]) λ g d=>B3 g ((Op.fieldAddr 4) [d]) λ g e=>B3 g (Op.aa [e] H) λ g f=>B3 g (Op.aS [f]) λ g h=>Bn g .gtr h (.int .i64 1024) λ g j=>k g j h f e d i H) (λ g=>k g uu uu uu uu uu uu H)) (λ g a _ _ _ _ _ H1=>B3 g (Op.pick [b,(.bool true),a]) λ g l=>cB g l (λ g=>aB g (aw (W M c (rM 22)) Q) .ret ((5,(.int .i64 210))::(4,.nils)::E) D H1) (λ g=>Gt g M c (rM 22) Q E D H1))) /\
 (WE M c (rM 22) λ Q E D H=>Lz E 6 λ g b=>Nf g 4 b H λ g a=>aB g Q .ret ((5,(.int .i64 0))::(4,a)::E) D H):=by (repeat' apply And.intro)<;>(intro _ _ _ _;refine aL ?_;kernel_rfl)
theorem q0f:(ak Tryz.prog).func EK=some Mu/\Mu.results=[.tmp 4,.tmp 5]:=xw (by kernel_rfl)
theorem q0g (h:W M ⟨none,EK⟩ (rM 0) true (aU M [.tmp 4,.tmp 5] Q) [(0,a0),(1,a1)] [] H):kj M EK [a0,a1] H Q:=aM (by decide) q0f (ks:=qr5) (by kernel_rfl) h
def Pr:aq:=funcAt Tryz.prog GB
def qwl:Kp:=⟨[0,2,4],false,[0]⟩
def qwm (k:Nat):Kp × ab:=(qwl,part Pr.body k)
theorem q4n (M:aO) (c:Ctx):(WE M c (qwm 0) λ Q E D H=>Lz E 0 λ g e=>C3 M g (.func tP) [e] H λ g a H1=>B3 g ((Op.extract 0) [a]) λ g _=>B3 g ((Op.extract 1) [a]) λ g b=>Bn g .eql b (.int .i64 0) λ g d=>aB g Q .ret ((2,d)::(4,b)::(2,(.bool false))::E) D H1):=by intro _ _ _ _;refine aL ?_;kernel_rfl
theorem q4l:(ak Tryz.prog).func GB=some Pr/\Pr.results=[.tmp 2]:=xw (by kernel_rfl)
theorem q4m (h:W M ⟨none,GB⟩ (qwm 0) true (aU M [.tmp 2] Q) [(0,a0)] [] H):kj M GB [a0] H Q:=aM (by decide) q4l (ks:=qwl) (by kernel_rfl) h
def PV:aq:=funcAt Tryz.prog Dq
def qpn:Kp:=⟨[0,1,2],false,[0,2,10]⟩
def CC (k:Nat):Kp × ab:=(qpn,part PV.body k)
theorem qxf (M:aO) (c:Ctx):(WE M c (CC 0) λ Q E D H=>Lz E 0 λ g a=>A3 g vN (AV.cells a) H λ g b H1=>W M c (CC 2) g Q ((2,(.bool false))::(1,b)::E) D H1) /\
 (WE M c (CC 2) λ Q E D H=>Lz E 1 λ g a=>Fl g 0 a H λ g L=>Bn g .lss L (.int .i64 0) λ g z=>JN (λ (k:Bool->AV->AV->AV->AHeap->Prop)=>B3 g (aE false (some z)) λ g w=>c9 g w (λ g=>B3 g ((Op.fieldAddr 0) [a]) λ g A=>B3 g (Op.aa [A] H) λ g B=>Bn g .gtr B (.int .i64 4096) λ g N=>k g N B A H) (λ g=>k g uu uu uu H)) (λ g y _ _ H1=>B3 g (Op.pick [z,(.bool true),y]) λ g h=>JN (λ (k:Bool->AV->AV->AV->AHeap->Prop)=>B3 g (aE false (some h)) λ g w=>c9 g w (λ g=>B3 g ((Op.fieldAddr 1) [a]) λ g i=>B3 g (Op.aa [i] H1) λ g j=>Bn g .lss j (.int .i64 0) λ g C=>k g C j i H1) (λ g=>k g uu uu uu H1)) (λ g b _ _ H2=>B3 g (Op.pick [h,(.bool true),b]) λ g l=>JN (λ (k:Bool->AV->AV->AV->AHeap->Prop)=>B3 g (aE false (some l)) λ g w=>c9 g w (λ g=>B3 g ((Op.fieldAddr 1) [a]) λ g m=>B3 g (Op.aa [m] H2) λ g n=>Bn g .gtr n (.int .i64 4096) λ g F=>k g F n m H2) (λ g=>k g uu uu uu H2)) (λ g d _ _ H3=>B3 g (Op.pick [l,(.bool true),d]) λ g p=>JN (λ (k:Bool->AV->AV->AV->AHeap->Prop)=>B3 g (aE false (some p)) λ g w=>c9 g w (λ g=>B3 g ((Op.fieldAddr 2) [a]) λ g q=>B3 g (Op.aa [q] H3) λ g r=>Bn g .lss r (.int .i64 0) λ g G=>k g G r q H3) (λ g=>k g uu uu uu H3)) (λ g e _ _ H4=>B3 g (Op.pick [p,(.bool true),e]) λ g s=>JN (λ (k:Bool->AV->AV->AV->AHeap->Prop)=>B3 g (aE false (some s)) λ g w=>c9 g w (λ g=>B3 g ((Op.fieldAddr 2) [a]) λ g v=>B3 g (Op.aa [v] H4) λ g x=>Bn g .gtr x (.int .i64 4096) λ g I=>k g I x v H4) (λ g=>k g uu uu uu H4)) (λ g f _ _ H5=>B3 g (Op.pick [s,(.bool true),f]) λ g J=>cB g J (λ g=>aB g (aw (W M c (CC 10)) Q) .ret ((2,(.bool false))::E) D H5) (λ g=>Gt g M c (CC 10) Q E D H5))))))) /\
 (WE M c (CC 10) λ Q E D H=>Lz E 1 λ g a=>Fl g 2 a H λ g y=>Bn g .eql y (.int .i64 0) λ g e=>JN (λ (k:Bool->AV->AV->AV->AV->AV->AV->AHeap->Prop)=>B3 g (aE false (some e)) λ g w=>c9 g w (λ g=>B3 g ((Op.fieldAddr 0) [a]) λ g f=>B3 g (Op.aa [f] H) λ g h=>Bn g .add h (.int .i64 8) λ g i=>B3 g ((Op.fieldAddr 1) [a]) λ g j=>B3 g (Op.aa [j] H) λ g l=>Bn g .leq i l λ g z=>k g z l j i h f H) (λ g=>k g uu uu uu uu uu uu H)) (λ g b _ _ _ _ _ H1=>B3 g (Op.pick [e,(.bool true),b]) λ g m=>JN (λ (k:Bool->AV->AV->AV->AV->AV->AV->AV->AV->AHeap->Prop)=>B3 g (aE false (some m)) λ g w=>c9 g w (λ g=>B3 g ((Op.fieldAddr 1) [a]) λ g n=>B3 g (Op.aa [n] H1) λ g p=>B3 g ((Op.fieldAddr 2) [a]) λ g q=>B3 g (Op.aa [q] H1) λ g r=>Bn g .add p r λ g s=>B3 g ((Op.fieldAddr 0) [a]) λ g v=>B3 g (Op.aa [v] H1) λ g x=>Bn g .leq s x λ g A=>k g A x v s r q p n H1) (λ g=>k g uu uu uu uu uu uu uu uu H1)) (λ g d _ _ _ _ _ _ _ H2=>B3 g (Op.pick [m,(.bool true),d]) λ g B=>aB g Q .ret ((2,B)::E) D H2))):=by (repeat' apply And.intro)<;>(intro _ _ _ _;refine aL ?_;kernel_rfl)
theorem qxd:(ak Tryz.prog).func Dq=some PV/\PV.results=[.tmp 2]:=xw (by kernel_rfl)
theorem qxe (h:W M ⟨none,Dq⟩ (CC 0) true (aU M [.tmp 2] Q) [(0,a0)] [] H):kj M Dq [a0] H Q:=aM (by decide) qxd (ks:=qpn) (by kernel_rfl) h
def PQ:aq:=funcAt Tryz.prog z4
def qpo:Kp:=⟨[0,1,4,6,7,8,9,10,19,23,24,25],false,[0,8,12,18,23,24,40,45,61,70]⟩
def zu (k:Nat):Kp × ab:=(qpo,part PQ.body k)
theorem BG (M:aO) (c:Ctx):(WE M c (zu 0) λ Q E D H=>Lz E 0 λ g h=>Nf g 0 h H λ g d=>Ly g E 1 λ g i=>B3 g ((Op.aJ 3) [d,i]) λ g e=>B3 g ((Op.au 3) [e] H) λ g f=>A3 g xf [(.int .i64 0),(.int .u64 0),.nils] H λ g b H1=>bA g ((Op.store 3) [b,f] H1) λ g u H2=>Fl g 0 b H2 λ g a=>Cb g .eql a (.int .i64 20) (λ g=>W M c (zu 8) g (aR 0 Q) ((19,a)::(4,b)::E) D H2) (λ g=>W M c (zu 24) g (aR 0 Q) ((19,a)::(4,b)::E) D H2)) /\
 (WE M c (zu 8) λ Q E D H=>Lz E 4 λ g d=>Fl g 2 d H λ g a=>B3 g (Op.aS [a]) λ g b=>bS (W M c (zu 12)) (aR 1 Q) ((25,(.int .i64 0))::(24,b)::(23,a)::E) D H) /\
 (WE M c (zu 24) λ Q E D H=>Lz E 19 λ g j=>Cb g .eql j (.int .i64 14) (λ g=>Ly g E 0 λ g f=>Ly g E 4 λ g h=>Fl g 2 h H λ g l=>Xl g l (.int .i64 0) H λ g m=>C3 M g (.func ji) [f,m,(.int .i64 0)] H λ g _ H1=>Ly g E 0 λ g a=>B3 g (Op.nilCheck [a]) λ g n=>B3 g ((Op.fieldAddr 1) [n]) λ g p=>Fl g 0 p H1 λ g q=>Ly g E 4 λ g b=>Fl g 1 b H1 λ g r=>B3 g ((Op.wrap .i64) [r]) λ g s=>Bn g .add q s λ g v=>B3 g ((Op.build [(.int .i64 0),(.int .i64 0),(.int .i64 0),(.int .i64 0),(.int .i64 0)] [(0,1),(1,1),(2,1),(4,1)]) [(.int .i64 12),(.int .i64 0),(.int .i64 7),v]) λ g x=>bA g ((Op.buildSlice z6 1 [(.int .i64 0),(.int .i64 0),(.int .i64 0),(.int .i64 0),(.int .i64 0)] [(0,5)]) [x]) λ g o2 k2=>C3 M g (.func zx) [a,(k2 H1.next)] (H1.alloc o2) λ g _ H3=>aB g Q .normal E D H3) (λ g=>Ly g E 19 λ g e=>Cb g .eql e (.int .i64 15) (λ g=>Ly g E 0 λ g f=>Ly g E 4 λ g h=>Fl g 2 h H λ g y=>Xl g y (.int .i64 0) H λ g z=>C3 M g (.func ji) [f,z,(.int .i64 0)] H λ g _ H1=>Ly g E 0 λ g a=>Ly g E 4 λ g b=>Fl g 2 b H1 λ g A=>Xl g A (.int .i64 1) H1 λ g B=>C3 M g (.func ji) [a,B,(.int .i64 1)] H1 λ g _ H2=>Ly g E 0 λ g i=>C3 M g (.func Fc) [i,(.int .i64 0)] H2 λ g _ H3=>Ly g E 0 λ g d=>B3 g (Op.nilCheck [d]) λ g C=>B3 g ((Op.fieldAddr 1) [C]) λ g F=>Fl g 1 F H3 λ g G=>B3 g ((Op.build [(.int .i64 0),(.int .i64 0),(.int .i64 0),(.int .i64 0),(.int .i64 0)] [(0,1),(1,1),(2,1),(4,1)]) [(.int .i64 12),(.int .i64 1),(.int .i64 0),G]) λ g I=>bA g ((Op.buildSlice z6 1 [(.int .i64 0),(.int .i64 0),(.int .i64 0),(.int .i64 0),(.int .i64 0)] [(0,5)]) [I]) λ g o4 k4=>C3 M g (.func zx) [d,(k4 H3.next)] (H3.alloc o4) λ g _ H5=>aB g Q .normal E D H5) (λ g=>W M c (zu 40) g Q E D H))) /\
 (WE M c (zu 12) λ Q E D H=>Lz E 25 λ g a=>Ly g E 24 λ g b=>Cb g .lss a b (λ g=>Gt g M c (zu 18) Q E D H) (λ g=>aB g (aw (W M c (zu 18)) Q) (.exit 1) E D H)) /\
 (WE M c (zu 40) λ Q E D H=>Lz E 19 λ g b=>Cb g .eql b (.int .i64 16) (λ g=>Ly g E 0 λ g h=>Ly g E 4 λ g i=>Fl g 2 i H λ g d=>Xl g d (.int .i64 0) H λ g e=>C3 M g (.func EW) [h,e] H λ g f H1=>W M c (zu 45) g Q ((7,f)::E) D H1) (λ g=>Ly g E 19 λ g a=>Cb g .eql a (.int .i64 17) (λ g=>W M c (zu 61) g Q E D H) (λ g=>W M c (zu 70) g Q E D H))) /\
 (WE M c (zu 18) λ Q E D H=>Lz E 23 λ g b=>Ly g E 25 λ g d=>Xl g b d H λ g a=>Ly g E 0 λ g e=>C3 M g (.func z4) [e,a] H λ g _ H1=>aB g (aR 2 (aw (W M c (zu 23)) Q)) .normal ((6,a)::E) D H1) /\
 (WE M c (zu 45) λ Q E D H=>Lz E 0 λ g s=>Ly g E 4 λ g v=>Fl g 2 v H λ g m=>Xl g m (.int .i64 1) H λ g n=>C3 M g (.func z4) [s,n] H λ g _ H1=>Ly g E 4 λ g b=>Fl g 2 b H1 λ g p=>B3 g (Op.aS [p]) λ g q=>Cb g .eql q (.int .i64 3) (λ g=>Ly g E 0 λ g d=>B3 g ((Op.build [(.int .i64 0),(.int .i64 0),(.int .i64 0),(.int .i64 0),(.int .i64 0)] [(0,1)]) [(.int .i64 13)]) λ g r=>C3 M g (.func vy) [d,r] H1 λ g a H2=>Ly g E 7 λ g e=>V3 g [e] λ g f vs=>C3 M g f vs H2 λ g _ H3=>Ly g E 0 λ g h=>Ly g E 4 λ g i=>Fl g 2 i H3 λ g j=>Xl g j (.int .i64 2) H3 λ g l=>C3 M g (.func z4) [h,l] H3 λ g _ H4=>V3 g [a] λ g f vs=>C3 M g f vs H4 λ g _ H5=>aB g Q .normal ((8,a)::E) D H5) (λ g=>Ly g E 7 λ g e=>V3 g [e] λ g f vs=>C3 M g f vs H1 λ g _ H2=>aB g Q .normal E D H2)) /\
 (WE M c (zu 61) λ Q E D H=>Lz E 0 λ g r=>Nf g 4 r H λ g d=>B3 g (Op.aS [d]) λ g a=>Ly g E 0 λ g e=>Ly g E 4 λ g s=>Fl g 2 s H λ g h=>Xl g h (.int .i64 0) H λ g i=>C3 M g (.func EW) [e,i] H λ g b H1=>Ly g E 0 λ g j=>Ly g E 4 λ g l=>Fl g 2 l H1 λ g m=>Xl g m (.int .i64 1) H1 λ g n=>C3 M g (.func z4) [j,n] H1 λ g _ H2=>Ly g E 0 λ g p=>B3 g ((Op.build [(.int .i64 0),(.int .i64 0),(.int .i64 0),(.int .i64 0),(.int .i64 0)] [(0,1),(4,1)]) [(.int .i64 13),a]) λ g q=>bA g ((Op.buildSlice z6 1 [(.int .i64 0),(.int .i64 0),(.int .i64 0),(.int .i64 0),(.int .i64 0)] [(0,5)]) [q]) λ g o3 k3=>C3 M g (.func zx) [p,(k3 H2.next)] (H2.alloc o3) λ g _ H4=>V3 g [b] λ g f vs=>C3 M g f vs H4 λ g _ H5=>aB g Q .normal ((10,b)::(9,a)::E) D H5) /\
 (WE M c (zu 70) λ Q E D H=>Lz E 19 λ g m=>Cb g .eql m (.int .i64 18) (λ g=>Ly g E 0 λ g b=>B3 g ((Op.build [(.int .i64 0),(.int .i64 0),(.int .i64 0),(.int .i64 0),(.int .i64 0)] [(0,1)]) [(.int .i64 17)]) λ g d=>bA g ((Op.buildSlice z6 1 [(.int .i64 0),(.int .i64 0),(.int .i64 0),(.int .i64 0),(.int .i64 0)] [(0,5)]) [d]) λ g o1 k1=>C3 M g (.func zx) [b,(k1 H.next)] (H.alloc o1) λ g _ H2=>Ly g E 0 λ g e=>Ly g E 4 λ g n=>Fl g 2 n H2 λ g f=>Xl g f (.int .i64 0) H2 λ g h=>C3 M g (.func z4) [e,h] H2 λ g _ H3=>Ly g E 0 λ g i=>B3 g ((Op.build [(.int .i64 0),(.int .i64 0),(.int .i64 0),(.int .i64 0),(.int .i64 0)] [(0,1)]) [(.int .i64 18)]) λ g j=>bA g ((Op.buildSlice z6 1 [(.int .i64 0),(.int .i64 0),(.int .i64 0),(.int .i64 0),(.int .i64 0)] [(0,5)]) [j]) λ g o4 k4=>C3 M g (.func zx) [i,(k4 H3.next)] (H3.alloc o4) λ g _ H5=>aB g Q .normal E D H5) (λ g=>Ly g E 19 λ g a=>Cb g .eql a (.int .i64 19) (λ g=>Ly g E 0 λ g b=>B3 g ((Op.build [(.int .i64 0),(.int .i64 0),(.int .i64 0),(.int .i64 0),(.int .i64 0)] [(0,1)]) [(.int .i64 1)]) λ g l=>bA g ((Op.buildSlice z6 1 [(.int .i64 0),(.int .i64 0),(.int .i64 0),(.int .i64 0),(.int .i64 0)] [(0,5)]) [l]) λ g o1 k1=>C3 M g (.func zx) [b,(k1 H.next)] (H.alloc o1) λ g _ H2=>aB g Q .normal E D H2) (λ g=>aB g Q .normal E D H))) /\
 (WE M c (zu 23) λ Q E D H=>Lz E 25 λ g a=>Bn g .add a (.int .i64 1) λ g b=>aB g Q .normal ((25,b)::E) D H):=by (repeat' apply And.intro)<;>(intro _ _ _ _;refine aL ?_;kernel_rfl)
theorem qxg:(ak Tryz.prog).func z4=some PQ/\PQ.results=[]:=xw (by kernel_rfl)
theorem BP (h:W M ⟨none,z4⟩ (zu 0) true (aU M [] Q) [(0,a0),(1,a1)] [] H):kj M z4 [a0,a1] H Q:=aM (by decide) qxg (ks:=qpo) (by kernel_rfl) h
def OC:aq:=funcAt Tryz.prog ji
def ql9:Kp:=⟨[0,1,2,6,20],false,[0,8,17,29]⟩
def vm (k:Nat):Kp × ab:=(ql9,part OC.body k)
theorem Jv (M:aO) (c:Ctx):(WE M c (vm 0) λ Q E D H=>Lz E 2 λ g a=>Cb g .geq a (.int .i64 6) (λ g=>Ly g E 0 λ g b=>Ns g 5 b (.bool true) H λ g u H1=>aB g (aw (W M c (vm 8)) Q) .ret E D H1) (λ g=>Gt g M c (vm 8) Q E D H)) /\
 (WE M c (vm 8) λ Q E D H=>Lz E 0 λ g m=>Nf g 0 m H λ g e=>Ly g E 1 λ g n=>B3 g ((Op.aJ 3) [e,n]) λ g f=>B3 g ((Op.au 3) [f] H) λ g h=>A3 g xf [(.int .i64 0),(.int .u64 0),.nils] H λ g a H1=>bA g ((Op.store 3) [a,h] H1) λ g u H2=>Fl g 0 a H2 λ g b=>Cb g .eql b (.int .i64 1) (λ g=>Ly g E 0 λ g d=>Ly g E 2 λ g p=>Fl g 1 a H2 λ g i=>B3 g ((Op.wrap .i64) [i]) λ g j=>B3 g ((Op.build [(.int .i64 0),(.int .i64 0),(.int .i64 0),(.int .i64 0),(.int .i64 0)] [(0,1),(1,1),(4,1)]) [(.int .i64 2),p,j]) λ g l=>bA g ((Op.buildSlice z6 1 [(.int .i64 0),(.int .i64 0),(.int .i64 0),(.int .i64 0),(.int .i64 0)] [(0,5)]) [l]) λ g o3 k3=>C3 M g (.func zx) [d,(k3 H2.next)] (H2.alloc o3) λ g _ H4=>aB g (aR 0 Q) .normal ((20,b)::(6,a)::E) D H4) (λ g=>W M c (vm 17) g (aR 0 Q) ((20,b)::(6,a)::E) D H2)) /\
 (WE M c (vm 17) λ Q E D H=>Lz E 20 λ g l=>Cb g .eql l (.int .i64 2) (λ g=>Ly g E 0 λ g d=>Ly g E 2 λ g f=>B3 g (Op.nilCheck [d]) λ g m=>B3 g ((Op.fieldAddr 1) [m]) λ g n=>Fl g 0 n H λ g p=>Ly g E 6 λ g h=>Fl g 1 h H λ g q=>B3 g ((Op.wrap .i64) [q]) λ g r=>Bn g .add p r λ g s=>B3 g ((Op.build [(.int .i64 0),(.int .i64 0),(.int .i64 0),(.int .i64 0),(.int .i64 0)] [(0,1),(1,1),(2,1),(4,1)]) [(.int .i64 11),f,(.int .i64 7),s]) λ g v=>bA g ((Op.buildSlice z6 1 [(.int .i64 0),(.int .i64 0),(.int .i64 0),(.int .i64 0),(.int .i64 0)] [(0,5)]) [v]) λ g o1 k1=>C3 M g (.func zx) [d,(k1 H.next)] (H.alloc o1) λ g _ H2=>aB g Q .normal E D H2) (λ g=>Ly g E 20 λ g e=>Cb g .eql e (.int .i64 3) (λ g=>Ly g E 0 λ g d=>Ly g E 6 λ g h=>Fl g 2 h H λ g x=>Xl g x (.int .i64 0) H λ g y=>Ly g E 2 λ g f=>C3 M g (.func ji) [d,y,f] H λ g _ H1=>Ly g E 0 λ g i=>Ly g E 2 λ g j=>C3 M g (.func Fc) [i,j] H1 λ g _ H2=>Ly g E 0 λ g a=>Ly g E 2 λ g b=>B3 g (Op.nilCheck [a]) λ g z=>B3 g ((Op.fieldAddr 1) [z]) λ g A=>Fl g 1 A H2 λ g B=>B3 g ((Op.build [(.int .i64 0),(.int .i64 0),(.int .i64 0),(.int .i64 0),(.int .i64 0)] [(0,1),(1,1),(2,1),(4,1)]) [(.int .i64 11),b,b,B]) λ g C=>bA g ((Op.buildSlice z6 1 [(.int .i64 0),(.int .i64 0),(.int .i64 0),(.int .i64 0),(.int .i64 0)] [(0,5)]) [C]) λ g o3 k3=>C3 M g (.func zx) [a,(k3 H2.next)] (H2.alloc o3) λ g _ H4=>aB g Q .normal E D H4) (λ g=>W M c (vm 29) g Q E D H))) /\
 (WE M c (vm 29) λ Q E D H=>Lz E 0 λ g v=>Ly g E 6 λ g x=>Fl g 2 x H λ g i=>Xl g i (.int .i64 0) H λ g j=>Ly g E 2 λ g y=>C3 M g (.func ji) [v,j,y] H λ g _ H1=>Ly g E 0 λ g b=>Ly g E 6 λ g d=>Fl g 2 d H1 λ g l=>Xl g l (.int .i64 1) H1 λ g m=>Ly g E 2 λ g e=>Bn g .add e (.int .i64 1) λ g n=>C3 M g (.func ji) [b,m,n] H1 λ g _ H2=>Ly g E 0 λ g f=>Ly g E 6 λ g h=>Fl g 0 h H2 λ g p=>C3 M g (.func Ek) [p] H2 λ g q H3=>Ly g E 2 λ g a=>Bn g .add a (.int .i64 1) λ g r=>B3 g ((Op.build [(.int .i64 0),(.int .i64 0),(.int .i64 0),(.int .i64 0),(.int .i64 0)] [(0,1),(1,1),(2,1),(3,1)]) [q,a,a,r]) λ g s=>bA g ((Op.buildSlice z6 1 [(.int .i64 0),(.int .i64 0),(.int .i64 0),(.int .i64 0),(.int .i64 0)] [(0,5)]) [s]) λ g o4 k4=>C3 M g (.func zx) [f,(k4 H3.next)] (H3.alloc o4) λ g _ H5=>aB g Q .normal E D H5):=by (repeat' apply And.intro)<;>(intro _ _ _ _;refine aL ?_;kernel_rfl)
theorem qsl:(ak Tryz.prog).func ji=some OC/\OC.results=[]:=xw (by kernel_rfl)
theorem Kd (h:W M ⟨none,ji⟩ (vm 0) true (aU M [] Q) [(0,a0),(1,a1),(2,a2)] [] H):kj M ji [a0,a1,a2] H Q:=aM (by decide) qsl (ks:=ql9) (by kernel_rfl) h
def PB:aq:=funcAt Tryz.prog zx
def qn2:Kp:=⟨[0,1],false,[0]⟩
def qn3 (k:Nat):Kp × ab:=(qn2,part PB.body k)
theorem qvp (M:aO) (c:Ctx):(WE M c (qn3 0) λ Q E D H=>Lz E 0 λ g a=>Nf g 4 a H λ g d=>Ly g E 1 λ g e=>bA g ((Op.append z6 5 40) [d,e] H) λ g b H1=>Ns g 4 a b H1 λ g u H2=>aB g Q .normal E D H2):=by intro _ _ _ _;refine aL ?_;kernel_rfl
theorem qvn:(ak Tryz.prog).func zx=some PB/\PB.results=[]:=xw (by kernel_rfl)
theorem qvo (h:W M ⟨none,zx⟩ (qn3 0) true (aU M [] Q) [(0,a0),(1,a1)] [] H):kj M zx [a0,a1] H Q:=aM (by decide) qvn (ks:=qn2) (by kernel_rfl) h
def Oj:aq:=funcAt Tryz.prog Fc
def qkz:Kp:=⟨[0,1,4],false,[0]⟩
def qk0 (k:Nat):Kp × ab:=(qkz,part Oj.body k)
theorem qrm (M:aO) (c:Ctx):(WE M c (qk0 0) λ Q E D H=>Lz E 0 λ g e=>B3 g (Op.nilCheck [e]) λ g m=>B3 g ((Op.fieldAddr 1) [m]) λ g n=>Fl g 2 n H λ g h=>B3 g ((Op.build [(.int .i64 0),(.int .i64 0),(.int .i64 0),(.int .i64 0),(.int .i64 0)] [(0,1),(1,1),(4,1)]) [(.int .i64 2),(.int .i64 6),h]) λ g i=>bA g ((Op.buildSlice z6 1 [(.int .i64 0),(.int .i64 0),(.int .i64 0),(.int .i64 0),(.int .i64 0)] [(0,5)]) [i]) λ g o1 k1=>C3 M g (.func zx) [e,(k1 H.next)] (H.alloc o1) λ g _ H2=>Ly g E 0 λ g b=>Ly g E 1 λ g p=>B3 g ((Op.build [(.int .i64 0),(.int .i64 0),(.int .i64 0),(.int .i64 0),(.int .i64 0)] [(0,1),(1,1),(2,1)]) [(.int .i64 16),p,(.int .i64 6)]) λ g j=>C3 M g (.func vy) [b,j] H2 λ g a H3=>Ly g E 0 λ g d=>B3 g ((Op.build [(.int .i64 0),(.int .i64 0),(.int .i64 0),(.int .i64 0),(.int .i64 0)] []) []) λ g l=>bA g ((Op.buildSlice z6 1 [(.int .i64 0),(.int .i64 0),(.int .i64 0),(.int .i64 0),(.int .i64 0)] [(0,5)]) [l]) λ g o4 k4=>C3 M g (.func zx) [d,(k4 H3.next)] (H3.alloc o4) λ g _ H5=>V3 g [a] λ g f vs=>C3 M g f vs H5 λ g _ H6=>aB g Q .normal ((4,a)::E) D H6):=by intro _ _ _ _;refine aL ?_;kernel_rfl
theorem qrk:(ak Tryz.prog).func Fc=some Oj/\Oj.results=[]:=xw (by kernel_rfl)
theorem qrl (h:W M ⟨none,Fc⟩ (qk0 0) true (aU M [] Q) [(0,a0),(1,a1)] [] H):kj M Fc [a0,a1] H Q:=aM (by decide) qrk (ks:=qkz) (by kernel_rfl) h
def PG:aq:=funcAt Tryz.prog EW
def qk3:Kp:=⟨[0,1,4,5,6,7],false,[0,4]⟩
def Lu (k:Nat):Kp × ab:=(qk3,part PG.body k)
theorem qrs (M:aO) (c:Ctx):(WE M c (Lu 0) λ Q E D H=>Lz E 0 λ g f=>Nf g 0 f H λ g a=>Ly g E 1 λ g h=>B3 g ((Op.aJ 3) [a,h]) λ g b=>B3 g ((Op.au 3) [b] H) λ g d=>A3 g xf [(.int .i64 0),(.int .u64 0),.nils] H λ g e H1=>bA g ((Op.store 3) [e,d] H1) λ g u H2=>W M c (Lu 4) g Q ((5,e)::(4,.nilf)::E) D H2) /\
 (WE M c (Lu 4) λ Q E D H=>Lz E 0 λ g x=>Ly g E 5 λ g y=>Fl g 2 y H λ g l=>Xl g l (.int .i64 0) H λ g m=>C3 M g (.func ji) [x,m,(.int .i64 0)] H λ g _ H1=>Ly g E 0 λ g d=>Ly g E 5 λ g e=>Fl g 2 e H1 λ g n=>Xl g n (.int .i64 1) H1 λ g p=>C3 M g (.func ji) [d,p,(.int .i64 1)] H1 λ g _ H2=>Ly g E 0 λ g h=>Ly g E 5 λ g i=>Fl g 0 i H2 λ g q=>C3 M g (.func Ek) [q] H2 λ g r H3=>B3 g ((Op.build [(.int .i64 0),(.int .i64 0),(.int .i64 0),(.int .i64 0),(.int .i64 0)] [(0,1),(1,1),(2,1)]) [r,(.int .i64 0),(.int .i64 1)]) λ g s=>C3 M g (.func vy) [h,s] H3 λ g a H4=>Ly g E 0 λ g j=>B3 g ((Op.build [(.int .i64 0),(.int .i64 0),(.int .i64 0),(.int .i64 0),(.int .i64 0)] [(0,1)]) [(.int .i64 13)]) λ g v=>C3 M g (.func vy) [j,v] H4 λ g b H5=>V3 g [a] λ g f vs=>C3 M g f vs H5 λ g _ H6=>aB g Q .ret ((4,b)::(7,b)::(6,a)::E) D H6):=by (repeat' apply And.intro)<;>(intro _ _ _ _;refine aL ?_;kernel_rfl)
theorem qrq:(ak Tryz.prog).func EW=some PG/\PG.results=[.tmp 4]:=xw (by kernel_rfl)
theorem qrr (h:W M ⟨none,EW⟩ (Lu 0) true (aU M [.tmp 4] Q) [(0,a0),(1,a1)] [] H):kj M EW [a0,a1] H Q:=aM (by decide) qrq (ks:=qk3) (by kernel_rfl) h
def Pl:aq:=funcAt Tryz.prog vy
def qnd:Kp:=⟨[0,1,2,3,4,5],false,[0]⟩
def qne (k:Nat):Kp × ab:=(qnd,part Pl.body k)
theorem qtv (M:aO) (c:Ctx):(WE M c (qne 0) λ Q E D H=>Lz E 0 λ g j=>A3 g KJ (AV.cells j) H λ g a H1=>Ly g E 1 λ g l=>A3 g z6 (AV.cells l) H1 λ g d H2=>B3 g (Op.aa [a] H2) λ g m=>Nf g 4 m H2 λ g n=>B3 g (Op.aS [n]) λ g e=>A3 g bu [(.int .i64 0)] H2 λ g b H3=>bA g ((Op.store 1) [b,e] H3) λ g u H4=>B3 g (Op.aa [a] H4) λ g f=>B3 g ((Op.au 5) [d] H4) λ g h=>bA g ((Op.buildSlice z6 1 [(.int .i64 0),(.int .i64 0),(.int .i64 0),(.int .i64 0),(.int .i64 0)] [(0,5)]) [h]) λ g o5 k5=>C3 M g (.func zx) [f,(k5 H4.next)] (H4.alloc o5) λ g _ H6=>B3 g ((Op.bm vv 0) [a,b]) λ g i=>aB g Q .ret ((4,i)::(5,b)::(4,.nilf)::(3,d)::(2,a)::E) D H6):=by intro _ _ _ _;refine aL ?_;kernel_rfl
theorem qtt:(ak Tryz.prog).func vy=some Pl/\Pl.results=[.tmp 4]:=xw (by kernel_rfl)
theorem qtu (h:W M ⟨none,vy⟩ (qne 0) true (aU M [.tmp 4] Q) [(0,a0),(1,a1)] [] H):kj M vy [a0,a1] H Q:=aM (by decide) qtt (ks:=qnd) (by kernel_rfl) h
def PY:aq:=funcAt Tryz.prog Ek
def q4j:Kp:=⟨[0,2],false,[0]⟩
def q4k (k:Nat):Kp × ab:=(q4j,part PY.body k)
theorem xc7 (M:aO) (c:Ctx):(WE M c (q4k 0) λ Q E D H=>bA true (Op.mkMap []) λ g o1 k1=>bA g ((Op.mapUpdate .int) [(k1 H.next),(.int .i64 4),(.int .i64 4)] (H.alloc o1)) λ g u H2=>bA g ((Op.mapUpdate .int) [(k1 H.next),(.int .i64 5),(.int .i64 5)] H2) λ g u_1 H3=>bA g ((Op.mapUpdate .int) [(k1 H.next),(.int .i64 6),(.int .i64 6)] H3) λ g u_2 H4=>bA g ((Op.mapUpdate .int) [(k1 H.next),(.int .i64 7),(.int .i64 7)] H4) λ g u_3 H5=>bA g ((Op.mapUpdate .int) [(k1 H.next),(.int .i64 8),(.int .i64 8)] H5) λ g u_4 H6=>bA g ((Op.mapUpdate .int) [(k1 H.next),(.int .i64 9),(.int .i64 9)] H6) λ g u_5 H7=>bA g ((Op.mapUpdate .int) [(k1 H.next),(.int .i64 10),(.int .i64 10)] H7) λ g u_6 H8=>bA g ((Op.mapUpdate .int) [(k1 H.next),(.int .i64 11),(.int .i64 14)] H8) λ g u_7 H9=>bA g ((Op.mapUpdate .int) [(k1 H.next),(.int .i64 12),(.int .i64 15)] H9) λ g u_8 H10=>bA g ((Op.mapUpdate .int) [(k1 H.next),(.int .i64 13),(.int .i64 16)] H10) λ g u_9 H11=>Ly g E 0 λ g a=>B3 g ((Op.lookup .int (.int .i64 0) false) [(k1 H.next),a] H11) λ g b=>aB g Q .ret ((2,b)::(2,(.int .i64 0))::E) D H11):=by intro _ _ _ _;refine aL ?_;kernel_rfl
theorem xc5:(ak Tryz.prog).func Ek=some PY/\PY.results=[.tmp 2]:=xw (by kernel_rfl)
theorem xc6 (h:W M ⟨none,Ek⟩ (q4k 0) true (aU M [.tmp 2] Q) [(0,a0)] [] H):kj M Ek [a0] H Q:=aM (by decide) xc5 (ks:=q4j) (by kernel_rfl) h
def Me:aq:=funcAt Tryz.prog vv
def qk1:Kp:=⟨[0,1],false,[0]⟩
def qk2 (k:Nat):Kp × ab:=(qk1,part Me.body k)
theorem qrp (M:aO) (c:Ctx):(WE M c (qk2 0) λ Q E D H=>Lz E 0 λ g a=>B3 g (Op.aa [a] H) λ g f=>Nf g 4 f H λ g h=>Ly g E 1 λ g i=>B3 g (Op.aa [i] H) λ g j=>B3 g (Op.aa [a] H) λ g l=>Nf g 4 l H λ g b=>B3 g (Op.aS [b]) λ g d=>B3 g ((Op.aJ 5) [h,j]) λ g e=>Fs g 4 e d H λ g u H1=>aB g Q .normal E D H1):=by intro _ _ _ _;refine aL ?_;kernel_rfl
theorem qrn:(ak Tryz.prog).func vv=some Me/\Me.results=[]:=xw (by kernel_rfl)
theorem qro (h:W M ⟨none,vv⟩ (qk2 0) true (aU M [] Q) [(0,a0),(1,a1)] [] H):kj M vv [a0,a1] H Q:=aM (by decide) qrn (ks:=qk1) (by kernel_rfl) h
end
end Go.Am
