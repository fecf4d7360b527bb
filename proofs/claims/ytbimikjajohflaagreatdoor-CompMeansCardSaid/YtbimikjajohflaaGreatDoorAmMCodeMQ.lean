/- CodeMQ: CodeMA CodeMT CodeIS CodeSO CodeCM. -/
import Derived.Test.YtbimikjajohflaaGreatDoorAmMB4
import Derived.Test.YtbimikjajohflaaGreatDoorAmMB1
import Derived.KernelRfl
import Derived.Test.YtbimikjajohflaaGreatDoorAmMCodeM
import Derived.Test.YtbimikjajohflaaGreatDoorRows
set_option linter.unusedVariables false
set_option maxRecDepth 100000
namespace Go.Am
abbrev ER:Nat:=13
abbrev tq:Nat:=29
abbrev zD:Nat:=48
abbrev Da:Nat:=45
abbrev EE:Nat:=74
abbrev vz:Nat:=97
abbrev yc:Nat:=49
abbrev DM:Nat:=70
abbrev Dz:Nat:=73
abbrev Ix:Nat:=47
abbrev ke:Nat:=71
abbrev B9:Nat:=72
abbrev kx:Nat:=46
abbrev cQ:Nat:=46
abbrev jh:Nat:=48
abbrev vt:Nat:=108
abbrev yg:Nat:=137
abbrev rj:Nat:=105
abbrev vq:Nat:=31
noncomputable section
open Go.Proofs Go.Proofs.YtbimikjajohflaaGreatDoor
variable {M:aO} [MK M] {H:AHeap} {Q:bE->AHeap->Prop} {a0 a1 a2 a3 a4:AV}
def Ph:aq:=funcAt Tryz.prog ER
def q1l:Kp:=⟨[0,1,2,3,6,8,9,13],false,[0]⟩
def q1m (k:Nat):Kp × ab:=(q1l,part Ph.body k)
theorem q1n (M:aO) (c:Ctx):(WE M c (q1m 0) λ Q E D H=>Lz E 2 λ g m=>A3 g cQ (AV.cells m) H λ g d H1=>A3 g jh [.nils,(.int .u64 0),(.int .u64 0),(.int .u64 0),(.int .u64 0),(.int .u64 0),(.int .u64 0),(.int .u64 0),(.int .u64 0),(.int .i64 0),(.int .i64 0),(.int .i64 0),(.int .i64 0)] H1 λ g e H2=>Ly g E 0 λ g f=>B3 g (Op.aS [f]) λ g h=>Bn g .sub h (.int .i64 1) λ g a=>Ly g E 1 λ g n=>B3 g ((Op.au 8) [d] H2) λ g i=>Ly g E 3 λ g p=>C3 M g (.func tq) [f,a,n,i,p] H2 λ g b H3=>B3 g ((Op.extract 0) [b]) λ g j=>B3 g ((Op.extract 1) [b]) λ g l=>bA g ((Op.store 13) [e,j] H3) λ g u H4=>aB g Q .ret ((9,l)::(13,a)::(9,(.int .i64 0))::(8,e)::(6,d)::E) D H4):=by intro _ _ _ _;refine aL ?_;kernel_rfl
theorem xbh:(ak Tryz.prog).func ER=some Ph/\Ph.results=[.dA 13 8,.tmp 9]:=xw (by kernel_rfl)
theorem xbi (h:W M ⟨none,ER⟩ (q1m 0) true (aU M [.dA 13 8,.tmp 9] Q) [(0,a0),(1,a1),(2,a2),(3,a3)] [] H):kj M ER [a0,a1,a2,a3] H Q:=aM (by decide) xbh (ks:=q1l) (by kernel_rfl) h
def OP:aq:=funcAt Tryz.prog tq
def qy8:Kp:=⟨[0,1,2,3,4,6,8,10,11,12,13],false,[0,2,10]⟩
def BA (k:Nat):Kp × ab:=(qy8,part OP.body k)
theorem qy9 (M:aO) (c:Ctx):(WE M c (BA 0) λ Q E D H=>Lz E 1 λ g b=>A3 g bu (AV.cells b) H λ g d H1=>Ly g E 3 λ g e=>A3 g cQ (AV.cells e) H1 λ g f H2=>A3 g jh [.nils,(.int .u64 0),(.int .u64 0),(.int .u64 0),(.int .u64 0),(.int .u64 0),(.int .u64 0),(.int .u64 0),(.int .u64 0),(.int .i64 0),(.int .i64 0),(.int .i64 0),(.int .i64 0)] H2 λ g a H3=>W M c (BA 2) g Q ((11,(.int .i64 0))::(10,a)::(8,f)::(6,d)::E) D H3) /\
 (WE M c (BA 2) λ Q E D H=>Lz E 0 λ g a=>Ly g E 2 λ g G=>Ly g E 4 λ g I=>C3 M g (.func Da) [a,G,I] H λ g x H1=>B3 g ((Op.un .not) [x]) λ g f=>JN (λ (k:Bool->AV->AV->AHeap->Prop)=>B3 g (aE false (some f)) λ g w=>c9 g w (λ g=>Ly g E 6 λ g J=>B3 g (Op.aa [J] H1) λ g h=>Bn g .lss h (.int .i64 0) λ g y=>k g y h H1) (λ g=>k g uu uu H1)) (λ g b _ H2=>B3 g (Op.pick [f,(.bool true),b]) λ g i=>JN (λ (k:Bool->AV->AV->AV->AV->AHeap->Prop)=>B3 g (aE false (some i)) λ g w=>c9 g w (λ g=>Ly g E 6 λ g s=>B3 g (Op.aa [s] H2) λ g j=>B3 g (Op.aS [a]) λ g l=>Bn g .geq j l λ g z=>k g z l a j H2) (λ g=>k g uu uu uu uu H2)) (λ g d _ _ _ H3=>B3 g (Op.pick [i,(.bool true),d]) λ g m=>JN (λ (k:Bool->AV->AV->AV->AV->AV->AV->AHeap->Prop)=>B3 g (aE false (some m)) λ g w=>c9 g w (λ g=>Ly g E 6 λ g v=>B3 g (Op.aa [v] H3) λ g n=>B3 g ((Op.aJ 3) [a,n]) λ g p=>B3 g ((Op.fieldAddr 0) [p]) λ g q=>B3 g (Op.aa [q] H3) λ g r=>Bn g .lss r (.int .i64 14) λ g A=>k g A r q p n a H3) (λ g=>k g uu uu uu uu uu uu H3)) (λ g e _ _ _ _ _ H4=>B3 g (Op.pick [m,(.bool true),e]) λ g B=>cB g B (λ g=>B3 g ((Op.build [.nils,(.int .u64 0),(.int .u64 0),(.int .u64 0),(.int .u64 0),(.int .u64 0),(.int .u64 0),(.int .u64 0),(.int .u64 0),(.int .i64 0),(.int .i64 0),(.int .i64 0),(.int .i64 0)] []) []) λ g C=>Ly g E 10 λ g F=>bA g ((Op.store 13) [F,C] H4) λ g u H5=>aB g (aw (W M c (BA 10)) Q) .ret ((11,(.int .i64 2))::(13,a)::E) D H5) (λ g=>Gt g M c (BA 10) Q ((13,a)::E) D H4))))) /\
 (WE M c (BA 10) λ Q E D H=>Lz E 0 λ g z=>Ly g E 2 λ g A=>Ly g E 8 λ g e=>B3 g ((Op.au 8) [e] H) λ g b=>Ly g E 4 λ g B=>C3 M g (.func kx) [A] H λ g f H1=>kA g ((Op.au 8) [e] H1) (some b) λ g=>B3 g ((Op.build [.nils,(.int .u64 0),(.int .u64 0),(.int .u64 0),(.int .u64 0),(.int .u64 0),(.int .u64 0),(.int .u64 0),(.int .u64 0),(.int .i64 0),(.int .i64 0),(.int .i64 0),(.int .i64 0)] [(0,1),(1,8),(10,1)]) [f,b,B]) λ g h=>B3 g ((Op.build [.nils,.nils,(.int .u64 0),(.int .u64 0),(.int .u64 0),(.int .u64 0),(.int .u64 0),(.int .u64 0),(.int .u64 0),(.int .u64 0),(.int .i64 0),(.int .i64 0),(.int .i64 0),(.int .i64 0),(.bool false),(.bool false)] [(0,1),(1,13)]) [z,h]) λ g i=>A3 g vt (AV.cells i) H1 λ g j H2=>A3 g rj [.nilp] H2 λ g a H3=>bA g ((Op.store 1) [a,j] H3) λ g u H4=>B3 g (Op.aa [a] H4) λ g d=>B3 g (Op.aa [a] H4) λ g l=>Ly g E 6 λ g C=>B3 g ((Op.bm zD 0) [a,C]) λ g m=>C3 M g (.func Ix) [l,m] H4 λ g n H5=>kA g (Op.aa [a] H5) (some d) λ g=>B3 g (Op.nilCheck [d]) λ g p=>B3 g ((Op.fieldAddr 1) [p]) λ g q=>Fs g 12 q n H5 λ g u_1 H6=>B3 g (Op.aa [a] H6) λ g r=>B3 g (Op.nilCheck [r]) λ g s=>B3 g ((Op.fieldAddr 1) [s]) λ g v=>B3 g ((Op.au 13) [v] H6) λ g x=>Ly g E 10 λ g y=>bA g ((Op.store 13) [y,x] H6) λ g u_2 H7=>aB g Q .ret ((11,(.int .i64 0))::(12,a)::E) D H7):=by (repeat' apply And.intro)<;>(intro _ _ _ _;refine aL ?_;kernel_rfl)
theorem q7f:(ak Tryz.prog).func tq=some OP/\OP.results=[.dA 13 10,.tmp 11]:=xw (by kernel_rfl)
theorem q7g (h:W M ⟨none,tq⟩ (BA 0) true (aU M [.dA 13 10,.tmp 11] Q) [(0,a0),(1,a1),(2,a2),(3,a3),(4,a4)] [] H):kj M tq [a0,a1,a2,a3,a4] H Q:=aM (by decide) q7f (ks:=qy8) (by kernel_rfl) h
def Oo:aq:=funcAt Tryz.prog Da
def q1o:Kp:=⟨[0,1,2,6,8],false,[0,2,10]⟩
def E9 (k:Nat):Kp × ab:=(q1o,part Oo.body k)
theorem xbl (M:aO) (c:Ctx):(WE M c (E9 0) λ Q E D H=>W M c (E9 2) true Q ((6,(.bool false))::E) D H) /\
 (WE M c (E9 2) λ Q E D H=>Lz E 1 λ g n=>B3 g (Op.aS [n]) λ g h=>Bn g .gtr h (.int .i64 4096) λ g e=>JN (λ (k:Bool->AV->AV->AHeap->Prop)=>B3 g (aE false (some e)) λ g w=>c9 g w (λ g=>Ly g E 2 λ g i=>Bn g .lss i (.int .i64 0) λ g j=>k g j i H) (λ g=>k g uu uu H)) (λ g b _ H1=>B3 g (Op.pick [e,(.bool true),b]) λ g f=>JN (λ (k:Bool->AV->AV->AHeap->Prop)=>B3 g (aE false (some f)) λ g w=>c9 g w (λ g=>Ly g E 2 λ g a=>Bn g .gtr a (.int .i64 1048576) λ g l=>k g l a H1) (λ g=>k g uu uu H1)) (λ g d _ H2=>B3 g (Op.pick [f,(.bool true),d]) λ g m=>cB g m (λ g=>aB g (aw (W M c (E9 10)) Q) .ret ((6,(.bool false))::E) D H2) (λ g=>Gt g M c (E9 10) Q E D H2)))) /\
 (WE M c (E9 10) λ Q E D H=>Lz E 0 λ g e=>C3 M g (.func tP) [e] H λ g a H1=>B3 g ((Op.extract 0) [a]) λ g _=>B3 g ((Op.extract 1) [a]) λ g b=>Bn g .eql b (.int .i64 0) λ g d=>aB g Q .ret ((6,d)::(8,b)::E) D H1):=by (repeat' apply And.intro)<;>(intro _ _ _ _;refine aL ?_;kernel_rfl)
theorem xbj:(ak Tryz.prog).func Da=some Oo/\Oo.results=[.tmp 6]:=xw (by kernel_rfl)
theorem xbk (h:W M ⟨none,Da⟩ (E9 0) true (aU M [.tmp 6] Q) [(0,a0),(1,a1),(2,a2)] [] H):kj M Da [a0,a1,a2] H Q:=aM (by decide) xbj (ks:=q1o) (by kernel_rfl) h
def NL:aq:=funcAt Tryz.prog kx
def qkf:Kp:=⟨[0,2],false,[0,2,10]⟩
def CG (k:Nat):Kp × ab:=(qkf,part NL.body k)
theorem FQ (M:aO) (c:Ctx):(WE M c (CG 0) λ Q E D H=>W M c (CG 2) true Q ((2,.nils)::E) D H) /\
 (WE M c (CG 2) λ Q E D H=>Lz E 0 λ g a=>B3 g ((Op.eq .slice false) [a,.nils] H) λ g b=>cB g b (λ g=>aB g (aw (W M c (CG 10)) Q) .ret ((2,.nils)::E) D H) (λ g=>Gt g M c (CG 10) Q E D H)) /\
 (WE M c (CG 10) λ Q E D H=>bA true ((Op.buildSlice vq 0 [(.int .u64 0)] []) []) λ g o1 k1=>Ly g E 0 λ g a=>bA g ((Op.append vq 1 8) [(k1 H.next),a] (H.alloc o1)) λ g b H2=>aB g Q .ret ((2,b)::E) D H2):=by (repeat' apply And.intro)<;>(intro _ _ _ _;refine aL ?_;kernel_rfl)
theorem qqm:(ak Tryz.prog).func kx=some NL/\NL.results=[.tmp 2]:=xw (by kernel_rfl)
theorem qkg (h:W M ⟨none,kx⟩ (CG 0) true (aU M [.tmp 2] Q) [(0,a0)] [] H):kj M kx [a0] H Q:=aM (by decide) qqm (ks:=qkf) (by kernel_rfl) h
def MF:aq:=funcAt Tryz.prog zD
def qud:Kp:=⟨[0,1],true,[0]⟩
def que (k:Nat):Kp × ab:=(qud,part MF.body k)
theorem q29 (M:aO) (c:Ctx):(WE M c (que 0) λ Q E D H=>Lz E 0 λ g a=>B3 g (Op.aa [a] H) λ g b=>Ly g E 1 λ g d=>B3 g (Op.aa [d] H) λ g e=>P3 M g (PX (some []) [3,2] Q E D) (.func yc) [b,e] H λ g _ H1=>aB g Q .normal E D H1):=by intro _ _ _ _;refine aL ?_;kernel_rfl
theorem q27:(ak Tryz.prog).func zD=some MF/\MF.results=[]:=xw (by kernel_rfl)
theorem q28 (h:W M ⟨none,zD⟩ (que 0) true (aU M [] Q) [(0,a0),(1,a1)] [] H):kj M zD [a0,a1] H Q:=aM (by decide) q27 (ks:=qud) (by kernel_rfl) h
def OT:aq:=funcAt Tryz.prog yc
def qui:Kp:=⟨[0,1,4,6,7,8,27,31,32,33],true,[0,2,8,14,15,17,21,27,31,37,38,43,59,64,69,75,78,84,89,92,98]⟩
def qz (k:Nat):Kp × ab:=(qui,part OT.body k)
theorem zh (M:aO) (c:Ctx):(WE M c (qz 0) λ Q E D H=>Lz E 0 λ g f=>Nf g 0 f H λ g a=>Ly g E 1 λ g h=>B3 g ((Op.aJ 3) [a,h]) λ g b=>B3 g ((Op.au 3) [b] H) λ g d=>A3 g xf [(.int .i64 0),(.int .u64 0),.nils] H λ g e H1=>bA g ((Op.store 3) [e,d] H1) λ g u H2=>W M c (qz 2) g Q ((4,e)::E) D H2) /\
 (WE M c (qz 2) λ Q E D H=>Lz E 4 λ g f=>Fl g 0 f H λ g h=>Bn g .neq h (.int .i64 20) λ g b=>JN (λ (k:Bool->AV->AV->AV->AHeap->Prop)=>B3 g (aE true (some b)) λ g w=>c9 g w (λ g=>B3 g ((Op.fieldAddr 0) [f]) λ g d=>B3 g (Op.aa [d] H) λ g e=>Bn g .neq e (.int .i64 17) λ g i=>k g i e d H) (λ g=>k g uu uu uu H)) (λ g a _ _ H1=>B3 g (Op.pick [b,a,(.bool false)]) λ g j=>cB g j (λ g=>Ly g E 0 λ g l=>P3 M g (PX (some []) [24] (aw (W M c (qz 8)) Q) E D) (.func DM) [l] H1 λ g _ H2=>Gt g M c (qz 8) Q E D H2) (λ g=>Gt g M c (qz 8) Q E D H1))) /\
 (WE M c (qz 8) λ Q E D H=>Lz E 4 λ g q=>Fl g 0 q H λ g a=>Cb g .eql a (.int .i64 20) (λ g=>W M c (qz 14) g (aR 0 Q) ((27,a)::E) D H) (λ g=>Cb g .eql a (.int .i64 14) (λ g=>Ly g E 0 λ g f=>Ly g E 4 λ g b=>B3 g ((Op.fieldAddr 1) [b]) λ g d=>B3 g (Op.aa [d] H) λ g e=>Fl g 2 b H λ g h=>Xl g h (.int .i64 0) H λ g i=>B3 g (Op.nilCheck [f]) λ g j=>B3 g ((Op.fieldAddr 1) [j]) λ g l=>B3 g ((Op.fieldAddr 1) [l]) λ g m=>P3 M g (PX (some [47,48,49,50,51,52,53,54,55,56,57,58,59]) [58,57,56,54,53,52,51,50,49,48,47] (aR 0 Q) ((27,a)::E) D) (.func ke) [f,i] H λ g n H1=>kA g (Op.aa [d] H1) (some e) λ g=>B3 g ((Op.bp 8 1) [m,e]) λ g p=>bA g ((Op.store 1) [p,n] H1) λ g u H2=>aB g (aR 0 Q) .normal ((27,a)::E) D H2) (λ g=>W M c (qz 43) g (aR 0 Q) ((27,a)::E) D H))) /\
 (WE M c (qz 14) λ Q E D H=>W M c (qz 15) true (pA (qz 15).2 Q) E D H) /\
 (WE M c (qz 43) λ Q E D H=>Lz E 27 λ g n=>Cb g .eql n (.int .i64 15) (λ g=>Ly g E 0 λ g l=>Ly g E 4 λ g m=>Fl g 2 m H λ g p=>Xl g p (.int .i64 0) H λ g q=>P3 M g (PX (some []) [66,65,64,63,62] Q E D) (.func ke) [l,q] H λ g d H1=>Ly g E 0 λ g a=>Ly g E 4 λ g b=>Fl g 2 b H1 λ g r=>Xl g r (.int .i64 1) H1 λ g s=>P3 M g (PX (some []) [72,71,70,69,68] Q ((7,d)::E) D) (.func ke) [a,s] H1 λ g e H2=>Ly g E 0 λ g f=>B3 g (Op.nilCheck [f]) λ g v=>B3 g ((Op.fieldAddr 1) [v]) λ g x=>B3 g ((Op.fieldAddr 0) [x]) λ g i=>B3 g (Op.aa [i] H2) λ g j=>P3 M g (PX (some [74,75,76,77,78,79,80,81,82,83]) [82,80,79,78,77,76,75,74] Q ((8,e)::(7,d)::E) D) (.func B9) [f,d] H2 λ g y H3=>kA g (Op.aa [i] H3) (some j) λ g=>Xs g j y e H3 λ g u H4=>aB g Q .normal ((8,e)::(7,d)::E) D H4) (λ g=>Ly g E 27 λ g h=>Cb g .eql h (.int .i64 16) (λ g=>Ly g E 0 λ g l=>Ly g E 4 λ g m=>Fl g 2 m H λ g z=>Xl g z (.int .i64 0) H λ g A=>P3 M g (PX (some []) [91,90,89,88,87] (aR 3 Q) E D) (.func Dz) [l,A] H λ g B H1=>cB g B (λ g=>Ly g E 0 λ g a=>Ly g E 4 λ g b=>Fl g 2 b H1 λ g C=>Xl g C (.int .i64 1) H1 λ g F=>P3 M g (PX (some []) [97,96,95,94,93] (aR 3 Q) E D) (.func yc) [a,F] H1 λ g _ H2=>aB g (aR 3 Q) .normal E D H2) (λ g=>W M c (qz 59) g (aR 3 Q) E D H1)) (λ g=>W M c (qz 64) g Q E D H))) /\
 (WE M c (qz 15) λ Q E D H=>Gt true M c (qz 17) Q E D H) /\
 (WE M c (qz 59) λ Q E D H=>Lz E 4 λ g h=>Fl g 2 h H λ g a=>B3 g (Op.aS [a]) λ g b=>Cb g .eql b (.int .i64 3) (λ g=>Ly g E 0 λ g i=>Ly g E 4 λ g d=>Fl g 2 d H λ g e=>Xl g e (.int .i64 2) H λ g f=>P3 M g (PX (some []) [108,107,106,105,104] Q E D) (.func yc) [i,f] H λ g _ H1=>aB g Q .normal E D H1) (λ g=>aB g Q .normal E D H)) /\
 (WE M c (qz 64) λ Q E D H=>Lz E 27 λ g e=>Cb g .eql e (.int .i64 17) (λ g=>bS (W M c (qz 69)) (aR 4 Q) E D H) (λ g=>Ly g E 27 λ g a=>Cb g .eql a (.int .i64 18) (λ g=>Ly g E 0 λ g f=>Ly g E 4 λ g h=>Fl g 2 h H λ g b=>Xl g b (.int .i64 0) H λ g d=>P3 M g (PX (some []) [138,137,136,135,134] Q E D) (.func EE) [f,d] H λ g _ H1=>aB g Q .normal E D H1) (λ g=>W M c (qz 89) g Q E D H))) /\
 (WE M c (qz 17) λ Q E D H=>Lz E 4 λ g d=>Fl g 2 d H λ g a=>B3 g (Op.aS [a]) λ g b=>bS (W M c (qz 21)) (aR 1 Q) ((33,(.int .i64 0))::(32,b)::(31,a)::E) D H) /\
 (WE M c (qz 69) λ Q E D H=>Lz E 0 λ g d=>Nf g 15 d H λ g a=>B3 g ((Op.un .not) [a]) λ g b=>cB g b (λ g=>Gt g M c (qz 75) Q E D H) (λ g=>aB g (aw (W M c (qz 75)) Q) (.exit 4) E D H)) /\
 (WE M c (qz 89) λ Q E D H=>Lz E 27 λ g a=>Cb g .eql a (.int .i64 19) (λ g=>W M c (qz 92) g Q E D H) (λ g=>aB g Q .normal E D H)) /\
 (WE M c (qz 21) λ Q E D H=>Lz E 33 λ g a=>Ly g E 32 λ g b=>Cb g .lss a b (λ g=>Gt g M c (qz 27) Q E D H) (λ g=>aB g (aw (W M c (qz 27)) Q) (.exit 1) E D H)) /\
 (WE M c (qz 75) λ Q E D H=>Lz E 0 λ g a=>P3 M g (PX (some []) [117] (aR 5 Q) E D) (.func DM) [a] H λ g _ H1=>W M c (qz 78) g (aR 5 Q) E D H1) /\
 (WE M c (qz 92) λ Q E D H=>Lz E 0 λ g e=>Nf g 14 e H λ g a=>cB g a (λ g=>B3 g ((Op.build [(.int .i64 0)] [(0,1)]) [(.int .i64 111)]) λ g b=>B3 g ((Op.cM yg) [b]) λ g d=>dc [d] H (PX (some []) [147,146] (aw (W M c (qz 98)) Q) E D)) (λ g=>Gt g M c (qz 98) Q E D H)) /\
 (WE M c (qz 27) λ Q E D H=>Lz E 31 λ g a=>Ly g E 33 λ g b=>Xl g a b H λ g d=>W M c (qz 31) g (aR 2 (aw (W M c (qz 38)) Q)) ((6,d)::E) D H) /\
 (WE M c (qz 78) λ Q E D H=>Lz E 0 λ g f=>Ly g E 4 λ g h=>Fl g 2 h H λ g a=>Xl g a (.int .i64 0) H λ g b=>P3 M g (PX (some []) [123,122,121,120,119] (aw (W M c (qz 84)) Q) E D) (.func Dz) [f,b] H λ g d H1=>B3 g ((Op.un .not) [d]) λ g e=>cB g e (λ g=>aB g (aw (W M c (qz 84)) Q) .ret E D H1) (λ g=>Gt g M c (qz 84) Q E D H1)) /\
 (WE M c (qz 98) λ Q E D H=>Lz E 0 λ g a=>Ns g 15 a (.bool true) H λ g u H1=>aB g Q .normal E D H1) /\
 (WE M c (qz 38) λ Q E D H=>Lz E 33 λ g a=>Bn g .add a (.int .i64 1) λ g b=>aB g Q .normal ((33,b)::E) D H) /\
 (WE M c (qz 31) λ Q E D H=>Lz E 0 λ g b=>Nf g 15 b H λ g a=>cB g a (λ g=>aB g (aw (W M c (qz 37)) Q) (.exit 1) E D H) (λ g=>Gt g M c (qz 37) Q E D H)) /\
 (WE M c (qz 84) λ Q E D H=>Lz E 0 λ g d=>Ly g E 4 λ g e=>Fl g 2 e H λ g a=>Xl g a (.int .i64 1) H λ g b=>P3 M g (PX (some []) [130,129,128,127,126] Q E D) (.func yc) [d,b] H λ g _ H1=>aB g Q .normal E D H1) /\
 (WE M c (qz 37) λ Q E D H=>Lz E 0 λ g a=>Ly g E 6 λ g b=>P3 M g (PX (some []) [42,41] Q E D) (.func yc) [a,b] H λ g _ H1=>aB g Q .normal E D H1):=by (repeat' apply And.intro)<;>(intro _ _ _ _;refine aL ?_;kernel_rfl)
theorem q3a:(ak Tryz.prog).func yc=some OT/\OT.results=[]:=xw (by kernel_rfl)
theorem O7 (h:W M ⟨none,yc⟩ (qz 0) true (aU M [] Q) [(0,a0),(1,a1)] [] H):kj M yc [a0,a1] H Q:=aM (by decide) q3a (ks:=qui) (by kernel_rfl) h
def OU:aq:=funcAt Tryz.prog DM
def qr9:Kp:=⟨[0],true,[0,6]⟩
def IX (k:Nat):Kp × ab:=(qr9,part OU.body k)
theorem qsa (M:aO) (c:Ctx):(WE M c (IX 0) λ Q E D H=>Lz E 0 λ g a=>B3 g (Op.nilCheck [a]) λ g b=>B3 g ((Op.fieldAddr 1) [b]) λ g d=>Fl g 10 d H λ g e=>Cb g .eql e (.int .i64 0) (λ g=>B3 g ((Op.build [(.int .i64 0)] [(0,1)]) [(.int .i64 190)]) λ g f=>B3 g ((Op.cM yg) [f]) λ g h=>dc [h] H (PX (some []) [9,8] (aw (W M c (IX 6)) Q) E D)) (λ g=>Gt g M c (IX 6) Q E D H)) /\
 (WE M c (IX 6) λ Q E D H=>Lz E 0 λ g a=>B3 g (Op.nilCheck [a]) λ g b=>B3 g ((Op.fieldAddr 1) [b]) λ g d=>Fl g 10 d H λ g e=>Bn g .sub e (.int .i64 1) λ g f=>B3 g (Op.nilCheck [a]) λ g h=>B3 g ((Op.fieldAddr 1) [h]) λ g i=>Fs g 10 i f H λ g u H1=>aB g Q .normal E D H1):=by (repeat' apply And.intro)<;>(intro _ _ _ _;refine aL ?_;kernel_rfl)
theorem q0k:(ak Tryz.prog).func DM=some OU/\OU.results=[]:=xw (by kernel_rfl)
theorem q0l (h:W M ⟨none,DM⟩ (IX 0) true (aU M [] Q) [(0,a0)] [] H):kj M DM [a0] H Q:=aM (by decide) q0k (ks:=qr9) (by kernel_rfl) h
def NA:aq:=funcAt Tryz.prog ke
def qpq:Kp:=⟨[0,1,4,5,6,7,16,61],true,[0,4,20,27,29,46,52,58,64,70,76,81,82,83,87,88,92,93,97,98,102,103,107,108]⟩
def qm (k:Nat):Kp × ab:=(qpq,part NA.body k)
theorem jr (M:aO) (c:Ctx):(WE M c (qm 0) λ Q E D H=>Lz E 0 λ g f=>Nf g 0 f H λ g a=>Ly g E 1 λ g h=>B3 g ((Op.aJ 3) [a,h]) λ g b=>B3 g ((Op.au 3) [b] H) λ g d=>A3 g xf [(.int .i64 0),(.int .u64 0),.nils] H λ g e H1=>bA g ((Op.store 3) [e,d] H1) λ g u H2=>W M c (qm 4) g Q ((5,e)::(4,(.int .u64 0))::E) D H2) /\
 (WE M c (qm 4) λ Q E D H=>Lz E 5 λ g m=>Fl g 0 m H λ g a=>Cb g .eql a (.int .i64 1) (λ g=>Ly g E 5 λ g b=>Fl g 1 b H λ g d=>aB g (aR 0 (aw (W M c (qm 27)) Q)) .ret ((4,d)::(16,a)::E) D H) (λ g=>Cb g .eql a (.int .i64 2) (λ g=>Ly g E 0 λ g n=>Ly g E 5 λ g b=>Fl g 1 b H λ g e=>B3 g (Op.nilCheck [n]) λ g f=>B3 g ((Op.fieldAddr 1) [f]) λ g h=>B3 g ((Op.fieldAddr 1) [h]) λ g i=>B3 g ((Op.bp 8 1) [i,e]) λ g j=>B3 g (Op.aa [j] H) λ g l=>aB g (aR 0 (aw (W M c (qm 27)) Q)) .ret ((4,l)::(16,a)::E) D H) (λ g=>W M c (qm 20) g (aR 0 (aw (W M c (qm 27)) Q)) ((16,a)::E) D H))) /\
 (WE M c (qm 27) λ Q E D H=>Lz E 0 λ g f=>Ly g E 5 λ g h=>Fl g 2 h H λ g i=>Xl g i (.int .i64 0) H λ g j=>B3 g ((Op.fieldAddr 2) [h]) λ g a=>B3 g (Op.aa [a] H) λ g b=>B3 g ((Op.aJ 1) [b,(.int .i64 1)]) λ g d=>B3 g (Op.aa [d] H) λ g e=>P3 M g (PX (some [48,49,50,51,52,53,54,55,56,57,58,59,6,7]) [58,57,56,55,54,52,51,50,49,48] Q E D) (.func ke) [f,j] H λ g l H1=>kA g (Op.aa [a] H1) (some b) λ g=>kA g (Op.aa [d] H1) (some e) λ g=>P3 M g (PX (some [48,49,50,51,52,53,54,55,56,57,58,59,6,7]) [53,58,57,56,55,54,52,51,50,49,48] Q E D) (.func ke) [f,e] H1 λ g m H2=>W M c (qm 29) g Q ((7,m)::(6,l)::E) D H2) /\
 (WE M c (qm 20) λ Q E D H=>Lz E 16 λ g e=>Cb g .eql e (.int .i64 3) (λ g=>Ly g E 0 λ g d=>B3 g (Op.nilCheck [d]) λ g f=>B3 g ((Op.fieldAddr 1) [f]) λ g h=>B3 g ((Op.fieldAddr 0) [h]) λ g a=>B3 g (Op.aa [a] H) λ g b=>Ly g E 5 λ g p=>Fl g 2 p H λ g i=>Xl g i (.int .i64 0) H λ g j=>P3 M g (PX (some [33,34,35,36,37,38,39,40,41,42,43,44,45,46,47,4]) [43,42,41,40,39,38,37,36,35,34,33] Q E D) (.func ke) [d,j] H λ g l H1=>kA g (Op.aa [a] H1) (some b) λ g=>P3 M g (PX (some [33,34,35,36,37,38,39,40,41,42,43,44,45,46,47,4]) [44,43,42,41,40,39,38,37,36,35,34,33] Q E D) (.func B9) [d,l] H1 λ g m H2=>kA g (Op.aa [a] H2) (some b) λ g=>Xl g b m H2 λ g n=>aB g Q .ret ((4,n)::E) D H2) (λ g=>aB g Q .normal E D H)) /\
 (WE M c (qm 29) λ Q E D H=>Lz E 5 λ g b=>Fl g 0 b H λ g a=>W M c (qm 46) g (aw (W M c (qm 81)) (aR 2 (aw (W M c (qm 82)) (aR 3 (aw (W M c (qm 83)) (aR 4 (aw (W M c (qm 88)) (aR 5 (aw (W M c (qm 93)) (aR 6 (aw (W M c (qm 98)) (aR 7 (aw (W M c (qm 103)) (aR 1 (aw (W M c (qm 108)) Q))))))))))))))) ((61,a)::E) D H) /\
 (WE M c (qm 108) λ Q E D H=>Lz E 6 λ g d=>Ly g E 7 λ g e=>Bn g .rem e (.int .u64 64) λ g a=>Bn g .shr d a λ g b=>aB g Q .ret ((4,b)::E) D H) /\
 (WE M c (qm 103) λ Q E D H=>Lz E 6 λ g d=>Ly g E 7 λ g e=>Bn g .rem e (.int .u64 64) λ g a=>Bn g .shl d a λ g b=>aB g (aw (W M c (qm 107)) Q) .ret ((4,b)::E) D H) /\
 (WE M c (qm 98) λ Q E D H=>Lz E 6 λ g b=>Ly g E 7 λ g d=>Bn g .xor b d λ g a=>aB g (aw (W M c (qm 102)) Q) .ret ((4,a)::E) D H) /\
 (WE M c (qm 93) λ Q E D H=>Lz E 6 λ g b=>Ly g E 7 λ g d=>Bn g .and b d λ g a=>aB g (aw (W M c (qm 97)) Q) .ret ((4,a)::E) D H) /\
 (WE M c (qm 88) λ Q E D H=>Lz E 6 λ g b=>Ly g E 7 λ g d=>Bn g .mul b d λ g a=>aB g (aw (W M c (qm 92)) Q) .ret ((4,a)::E) D H) /\
 (WE M c (qm 83) λ Q E D H=>Lz E 6 λ g b=>Ly g E 7 λ g d=>Bn g .add b d λ g a=>aB g (aw (W M c (qm 87)) Q) .ret ((4,a)::E) D H) /\
 (WE M c (qm 82) λ Q E D H=>Lz E 7 λ g b=>B3 g ((Op.un .neg) [b]) λ g a=>aB g Q .normal ((7,a)::E) D H) /\
 (WE M c (qm 81) λ Q E D H=>aB true Q (.exit 1) E D H) /\
 (WE M c (qm 46) λ Q E D H=>Lz E 61 λ g a=>Cb g .eql a (.int .i64 5) (λ g=>aB g (aw (W M c (qm 52)) Q) (.exit 2) E D H) (λ g=>Gt g M c (qm 52) Q E D H)) /\
 (WE M c (qm 107) λ Q E D H=>aB true Q (.exit 1) E D H) /\
 (WE M c (qm 102) λ Q E D H=>aB true Q (.exit 1) E D H) /\
 (WE M c (qm 97) λ Q E D H=>aB true Q (.exit 1) E D H) /\
 (WE M c (qm 92) λ Q E D H=>aB true Q (.exit 1) E D H) /\
 (WE M c (qm 87) λ Q E D H=>aB true Q (.exit 1) E D H) /\
 (WE M c (qm 52) λ Q E D H=>Lz E 61 λ g a=>Cb g .eql a (.int .i64 4) (λ g=>aB g (aw (W M c (qm 58)) Q) (.exit 3) E D H) (λ g=>Gt g M c (qm 58) Q E D H)) /\
 (WE M c (qm 58) λ Q E D H=>Lz E 61 λ g a=>Cb g .eql a (.int .i64 6) (λ g=>aB g (aw (W M c (qm 64)) Q) (.exit 4) E D H) (λ g=>Gt g M c (qm 64) Q E D H)) /\
 (WE M c (qm 64) λ Q E D H=>Lz E 61 λ g a=>Cb g .eql a (.int .i64 7) (λ g=>aB g (aw (W M c (qm 70)) Q) (.exit 5) E D H) (λ g=>Gt g M c (qm 70) Q E D H)) /\
 (WE M c (qm 70) λ Q E D H=>Lz E 61 λ g a=>Cb g .eql a (.int .i64 8) (λ g=>aB g (aw (W M c (qm 76)) Q) (.exit 6) E D H) (λ g=>Gt g M c (qm 76) Q E D H)) /\
 (WE M c (qm 76) λ Q E D H=>Lz E 61 λ g a=>Cb g .eql a (.int .i64 9) (λ g=>aB g Q (.exit 7) E D H) (λ g=>aB g Q .normal E D H)):=by (repeat' apply And.intro)<;>(intro _ _ _ _;refine aL ?_;kernel_rfl)
theorem qxk:(ak Tryz.prog).func ke=some NA/\NA.results=[.tmp 4]:=xw (by kernel_rfl)
theorem LB (h:W M ⟨none,ke⟩ (qm 0) true (aU M [.tmp 4] Q) [(0,a0),(1,a1)] [] H):kj M ke [a0,a1] H Q:=aM (by decide) qxk (ks:=qpq) (by kernel_rfl) h
def N5:aq:=funcAt Tryz.prog B9
def qqi:Kp:=⟨[0,1,4],true,[0,2,8]⟩
def Ec (k:Nat):Kp × ab:=(qqi,part N5.body k)
theorem qqj (M:aO) (c:Ctx):(WE M c (Ec 0) λ Q E D H=>W M c (Ec 2) true Q ((4,(.int .i64 0))::E) D H) /\
 (WE M c (Ec 2) λ Q E D H=>Lz E 1 λ g h=>Ly g E 0 λ g i=>B3 g (Op.nilCheck [i]) λ g j=>B3 g ((Op.fieldAddr 1) [j]) λ g l=>Fl g 0 l H λ g a=>B3 g (Op.aS [a]) λ g b=>B3 g ((Op.wrap .u64) [b]) λ g d=>Cb g .geq h d (λ g=>B3 g ((Op.build [(.int .i64 0)] [(0,1)]) [(.int .i64 111)]) λ g e=>B3 g ((Op.cM yg) [e]) λ g f=>dc [f] H (PX (some []) [15,14] (aw (W M c (Ec 8)) Q) E D)) (λ g=>Gt g M c (Ec 8) Q E D H)) /\
 (WE M c (Ec 8) λ Q E D H=>Lz E 1 λ g b=>B3 g ((Op.wrap .i64) [b]) λ g a=>aB g Q .ret ((4,a)::E) D H):=by (repeat' apply And.intro)<;>(intro _ _ _ _;refine aL ?_;kernel_rfl)
theorem qzb:(ak Tryz.prog).func B9=some N5/\N5.results=[.tmp 4]:=xw (by kernel_rfl)
theorem qzc (h:W M ⟨none,B9⟩ (Ec 0) true (aU M [.tmp 4] Q) [(0,a0),(1,a1)] [] H):kj M B9 [a0,a1] H Q:=aM (by decide) qzb (ks:=qqi) (by kernel_rfl) h
def NQ:aq:=funcAt Tryz.prog Dz
def quj:Kp:=⟨[0,1,4,5,6,7,28],true,[0,4,6,23]⟩
def yE (k:Nat):Kp × ab:=(quj,part NQ.body k)
theorem Ei (M:aO) (c:Ctx):(WE M c (yE 0) λ Q E D H=>Lz E 0 λ g f=>Nf g 0 f H λ g a=>Ly g E 1 λ g h=>B3 g ((Op.aJ 3) [a,h]) λ g b=>B3 g ((Op.au 3) [b] H) λ g d=>A3 g xf [(.int .i64 0),(.int .u64 0),.nils] H λ g e H1=>bA g ((Op.store 3) [e,d] H1) λ g u H2=>W M c (yE 4) g Q ((5,e)::(4,(.bool false))::E) D H2) /\
 (WE M c (yE 4) λ Q E D H=>Lz E 0 λ g f=>Ly g E 5 λ g h=>Fl g 2 h H λ g i=>Xl g i (.int .i64 0) H λ g j=>B3 g ((Op.fieldAddr 2) [h]) λ g a=>B3 g (Op.aa [a] H) λ g b=>B3 g ((Op.aJ 1) [b,(.int .i64 1)]) λ g d=>B3 g (Op.aa [d] H) λ g e=>P3 M g (PX (some [15,16,17,18,19,20,21,22,23,24,25,26,6,7]) [25,24,23,22,21,19,18,17,16,15] Q E D) (.func ke) [f,j] H λ g l H1=>kA g (Op.aa [a] H1) (some b) λ g=>kA g (Op.aa [d] H1) (some e) λ g=>P3 M g (PX (some [15,16,17,18,19,20,21,22,23,24,25,26,6,7]) [20,25,24,23,22,21,19,18,17,16,15] Q E D) (.func ke) [f,e] H1 λ g m H2=>W M c (yE 6) g Q ((7,m)::(6,l)::E) D H2) /\
 (WE M c (yE 6) λ Q E D H=>Lz E 5 λ g h=>Fl g 0 h H λ g a=>Cb g .eql a (.int .i64 11) (λ g=>Ly g E 6 λ g b=>Ly g E 7 λ g d=>Bn g .eql b d λ g e=>aB g (aR 0 (aw (W M c (yE 23)) Q)) .ret ((4,e)::(28,a)::E) D H) (λ g=>Cb g .eql a (.int .i64 12) (λ g=>Ly g E 6 λ g b=>Ly g E 7 λ g d=>Bn g .neq b d λ g f=>aB g (aR 0 (aw (W M c (yE 23)) Q)) .ret ((4,f)::(28,a)::E) D H) (λ g=>aB g (aR 0 (aw (W M c (yE 23)) Q)) .normal ((28,a)::E) D H))) /\
 (WE M c (yE 23) λ Q E D H=>Lz E 6 λ g b=>Ly g E 7 λ g d=>Bn g .lss b d λ g a=>aB g Q .ret ((4,a)::E) D H):=by (repeat' apply And.intro)<;>(intro _ _ _ _;refine aL ?_;kernel_rfl)
theorem q3b:(ak Tryz.prog).func Dz=some NQ/\NQ.results=[.tmp 4]:=xw (by kernel_rfl)
theorem q3c (h:W M ⟨none,Dz⟩ (yE 0) true (aU M [.tmp 4] Q) [(0,a0),(1,a1)] [] H):kj M Dz [a0,a1] H Q:=aM (by decide) q3b (ks:=quj) (by kernel_rfl) h
def Mj:aq:=funcAt Tryz.prog EE
def qpp:Kp:=⟨[0,1,2,3,4,5,6],true,[0,4,8,10,18]⟩
def vp (k:Nat):Kp × ab:=(qpp,part Mj.body k)
theorem qxj (M:aO) (c:Ctx):(WE M c (vp 0) λ Q E D H=>Lz E 0 λ g n=>A3 g rj (AV.cells n) H λ g a H1=>Ly g E 1 λ g p=>A3 g bu (AV.cells p) H1 λ g f H2=>B3 g (Op.aa [a] H2) λ g q=>B3 g (Op.nilCheck [q]) λ g r=>B3 g ((Op.fieldAddr 1) [r]) λ g s=>Fl g 0 s H2 λ g h=>B3 g (Op.aa [a] H2) λ g b=>B3 g (Op.nilCheck [b]) λ g i=>B3 g ((Op.fieldAddr 1) [i]) λ g j=>B3 g ((Op.fieldAddr 1) [j]) λ g d=>B3 g ((Op.au 8) [d] H2) λ g e=>P3 M g (PX none [17,16,15,14,13,11,10,9,8,7] Q ((3,f)::(2,a)::E) D) (.func kx) [h] H2 λ g l H3=>kA g (Op.aa [a] H3) (some b) λ g=>kA g ((Op.au 8) [d] H3) (some e) λ g=>A3 g cQ [(.int .u64 0),(.int .u64 0),(.int .u64 0),(.int .u64 0),(.int .u64 0),(.int .u64 0),(.int .u64 0),(.int .u64 0)] H3 λ g m H4=>bA g ((Op.store 8) [m,e] H4) λ g u H5=>W M c (vp 4) g Q ((4,l)::(5,m)::(3,f)::(2,a)::E) D H5) /\
 (WE M c (vp 4) λ Q E D H=>Lz E 2 λ g h=>B3 g (Op.aa [h] H) λ g b=>Ns g 14 b (.bool true) H λ g u H1=>Ly g E 2 λ g a=>B3 g (Op.aa [a] H1) λ g d=>Ly g E 3 λ g i=>B3 g ((Op.bm vz 0) [a,i]) λ g e=>P3 M g (PX (some []) [22,21] Q E D) (.func Ix) [d,e] H1 λ g f H2=>W M c (vp 8) g Q ((6,f)::E) D H2) /\
 (WE M c (vp 8) λ Q E D H=>Lz E 2 λ g b=>B3 g (Op.aa [b] H) λ g a=>Ns g 14 a (.bool false) H λ g u H1=>W M c (vp 10) g Q E D H1) /\
 (WE M c (vp 10) λ Q E D H=>Lz E 6 λ g r=>Cb g .neq r (.int .i64 0) (λ g=>Ly g E 2 λ g d=>B3 g (Op.aa [d] H) λ g f=>B3 g (Op.aa [d] H) λ g a=>Ly g E 4 λ g s=>Ly g E 5 λ g h=>B3 g ((Op.au 8) [h] H) λ g b=>B3 g (Op.nilCheck [f]) λ g i=>B3 g ((Op.fieldAddr 1) [i]) λ g j=>Fs g 0 j s H λ g u H1=>kA g (Op.aa [d] H1) (some a) λ g=>kA g ((Op.au 8) [h] H1) (some b) λ g=>B3 g (Op.nilCheck [a]) λ g l=>B3 g ((Op.fieldAddr 1) [l]) λ g m=>B3 g ((Op.fieldAddr 1) [m]) λ g n=>bA g ((Op.store 8) [n,b] H1) λ g u_1 H2=>Ly g E 6 λ g e=>B3 g ((Op.build [(.int .i64 0)] [(0,1)]) [e]) λ g p=>B3 g ((Op.cM yg) [p]) λ g q=>dc [q] H2 (PX (some []) [41,40,39] (aw (W M c (vp 18)) Q) E D)) (λ g=>Gt g M c (vp 18) Q E D H)) /\
 (WE M c (vp 18) λ Q E D H=>Lz E 2 λ g j=>B3 g (Op.aa [j] H) λ g a=>B3 g (Op.nilCheck [a]) λ g b=>B3 g ((Op.fieldAddr 1) [b]) λ g d=>Fl g 11 d H λ g e=>Bn g .add e (.int .i64 1) λ g f=>B3 g (Op.nilCheck [a]) λ g h=>B3 g ((Op.fieldAddr 1) [h]) λ g i=>Fs g 11 i f H λ g u H1=>aB g Q .normal E D H1):=by (repeat' apply And.intro)<;>(intro _ _ _ _;refine aL ?_;kernel_rfl)
theorem qxh:(ak Tryz.prog).func EE=some Mj/\Mj.results=[]:=xw (by kernel_rfl)
theorem qxi (h:W M ⟨none,EE⟩ (vp 0) true (aU M [] Q) [(0,a0),(1,a1)] [] H):kj M EE [a0,a1] H Q:=aM (by decide) qxh (ks:=qpp) (by kernel_rfl) h
def Mg:aq:=funcAt Tryz.prog vz
def qno:Kp:=⟨[0,1],true,[0]⟩
def qnp (k:Nat):Kp × ab:=(qno,part Mg.body k)
theorem quh (M:aO) (c:Ctx):(WE M c (qnp 0) λ Q E D H=>Lz E 0 λ g a=>B3 g (Op.aa [a] H) λ g b=>Ly g E 1 λ g d=>B3 g (Op.aa [d] H) λ g e=>P3 M g (PX (some []) [3,2] Q E D) (.func yc) [b,e] H λ g _ H1=>aB g Q .normal E D H1):=by intro _ _ _ _;refine aL ?_;kernel_rfl
theorem quf:(ak Tryz.prog).func vz=some Mg/\Mg.results=[]:=xw (by kernel_rfl)
theorem qug (h:W M ⟨none,vz⟩ (qnp 0) true (aU M [] Q) [(0,a0),(1,a1)] [] H):kj M vz [a0,a1] H Q:=aM (by decide) quf (ks:=qno) (by kernel_rfl) h
end
end Go.Am
namespace Go.Am
abbrev AO:Nat:=69
abbrev yt:Nat:=27
noncomputable section
variable (AP:aO)
def IU:List aQ:=[⟨false,none,none,[.tmp 4,.const (.int .i64 0)],.bQ (Op.store 1),(some [])⟩]
def LH:ab:=.seq (.region IU) .ret
def Ju:List aQ:=[⟨false,(some 6),none,[.tmp 1],.pure Op.move,(some [])⟩,
 ⟨false,(some 7),none,[.tmp 6],.ec,(some [])⟩]
def KS:ab:=.seq (.region Ju) LH
def HZ:List aQ:=[⟨false,(some 5),none,[.tmp 4],.pure (Op.bm AO 0),(some [])⟩,
 ⟨false,none,none,[.tmp 5],.defer,(some [])⟩]
def KT:ab:=.seq (.region HZ) KS
def Jk:List aQ:=[⟨false,(some 4),none,[],.alloc (Op.alloc yt [(.int .i64 0)]),(some [])⟩]
def qqh:ab:=.seq (.region Jk) KT
def qsb:aq:=⟨[.jL 4],qqh,[]⟩
theorem qoq (ctx:Ctx) (tm:T AV) (az:List aC) (up:Option ah) (H:AHeap) (Q:aX) :
 WP AP ctx LH ⟨tm,az,up,H⟩ Q =
 (GS AP ai ctx IU ⟨tm,az,up,H⟩ (nR (WP AP ctx .ret) Q)):=gB AP ctx _ _ IU .ret
theorem qk9 (ctx:Ctx) (tm:T AV) (az:List aC) (up:Option ah) (H:AHeap) (Q:aX) :
 GS AP true ctx IU ⟨tm,az,up,H⟩ Q =
 (LK ai (tm.get 4) λ g ti4=>kN g ((Op.store 1) [ti4,(.int .i64 0)] H) λ g t_u H1 =>
 GO g Q .normal ⟨tm,az,up,H1⟩):=sa (l:=IU) (by kernel_rfl)
theorem qop (ctx:Ctx) (tm:T AV) (az:List aC) (up:Option ah) (H:AHeap) (Q:aX) :
 WP AP ctx KS ⟨tm,az,up,H⟩ Q =
 (GS AP ai ctx Ju ⟨tm,az,up,H⟩ (nR (WP AP ctx LH) Q)):=gB AP ctx _ _ Ju LH
theorem qk8 (ctx:Ctx) (tm:T AV) (az:List aC) (up:Option ah) (H:AHeap) (Q:aX) :
 GS AP true ctx Ju ⟨tm,az,up,H⟩ Q =
 (LK ai (tm.get 1) λ g ti1=>BI g (Op.move [ti1]) λ g t6=>VI g [t6] λ g f vs=>CA AP g f vs H (λ g t7 H1 =>
 GO g Q .normal ⟨(cH [(7,t7),(6,t6)] tm),az,up,H1⟩) (oL (some []) (cH [(6,t6)] tm) az up Q)):=sa (l:=Ju) (by kernel_rfl)
theorem qoo (ctx:Ctx) (tm:T AV) (az:List aC) (up:Option ah) (H:AHeap) (Q:aX) :
 WP AP ctx KT ⟨tm,az,up,H⟩ Q =
 (GS AP ai ctx HZ ⟨tm,az,up,H⟩ (nR (WP AP ctx KS) Q)):=gB AP ctx _ _ HZ KS
theorem qk7 (ctx:Ctx) (tm:T AV) (az:List aC) (up:Option ah) (H:AHeap) (Q:aX) :
 GS AP true ctx HZ ⟨tm,az,up,H⟩ Q =
 (LK ai (tm.get 4) λ g ti4=>BI g ((Op.bm AO 0) [ti4]) λ g t5=>DF g ctx [t5] az λ g dfs1=>GO g Q .normal ⟨(cH [(5,t5)] tm),dfs1,up,H⟩):=sa (l:=HZ) (by kernel_rfl)
theorem qon (ctx:Ctx) (tm:T AV) (az:List aC) (up:Option ah) (H:AHeap) (Q:aX) :
 WP AP ctx qqh ⟨tm,az,up,H⟩ Q =
 (GS AP ai ctx Jk ⟨tm,az,up,H⟩ (nR (WP AP ctx KT) Q)):=gB AP ctx _ _ Jk KT
theorem qk6 (ctx:Ctx) (tm:T AV) (az:List aC) (up:Option ah) (H:AHeap) (Q:aX) :
 GS AP true ctx Jk ⟨tm,az,up,H⟩ Q =
 (kN ai ((Op.alloc yt [(.int .i64 0)]) []) λ g o1 mk1=>GO g Q .normal ⟨(cH [(4,(mk1 H.next))] tm),az,up,(H.alloc o1)⟩):=sa (l:=Jk) (by kernel_rfl)
def HJ:List aQ:=[⟨false,(some 1),none,[.tmp 4],.pure Op.move,(some [])⟩]
def KH:ab:=.region HJ
def I4:List aQ:=[⟨false,(some 10),none,[.tmp 2],.pure (Op.fieldAddr 0),(some [])⟩,
 ⟨false,(some 11),none,[.tmp 10],.read Op.aa,(some [])⟩,
 ⟨false,none,none,[.tmp 0,.tmp 11],.bQ (Op.store 1),(some [])⟩]
def KA:ab:=.region I4
def Iy:List aQ:=[⟨false,(some 2),none,[],.alloc (Op.alloc yg [(.int .i64 0)]),(some [])⟩,
 ⟨false,none,none,[.tmp 2,.tmp 9],.bQ (Op.store 1),(some [])⟩]
def Kx:ab:=.seq (.region Iy) KA
def Il:List aQ:=[⟨false,(some 5),none,[.tmp 3],.pure Op.move,(some [])⟩,
 ⟨false,none,none,[.tmp 5],.panic,(some [])⟩]
def LX:ab:=.region Il
def HM:List aQ:=[⟨false,(some 3),none,[.tmp 4],.pure Op.move,(some [])⟩]
def K6:ab:=.seq (.region HM) LX
def KD:ab:=.cond (.tmp 8) Kx K6
def Ij:List aQ:=[⟨false,(some 7),none,[.tmp 4],.pure (Op.typeAssert yg true (.agg [(.int .i64 0)])),(some [])⟩,
 ⟨false,(some 8),none,[.tmp 7],.pure (Op.extract 1),(some [])⟩,
 ⟨false,(some 9),none,[.tmp 7],.pure (Op.extract 0),(some [])⟩]
def LG:ab:=.seq (.region Ij) KD
def Lg:ab:=.cond (.tmp 6) KH LG
def Jp:List aQ:=[⟨false,(some 6),none,[.tmp 4,.const .nili],.read (Op.eq .iface false),(some [])⟩]
def LM:ab:=.seq (.region Jp) Lg
def LJ:ab:=.block 0 LM
def IE:List aQ:=[⟨false,(some 4),none,[],.recover,(some [])⟩]
def qom:ab:=.seq (.region IE) LJ
def MV:aq:=⟨[],qom,[]⟩
theorem qmn (ctx:Ctx) (tm:T AV) (az:List aC) (up:Option ah) (H:AHeap) (Q:aX) :
 WP AP ctx KH ⟨tm,az,up,H⟩ Q =
 (GS AP ai ctx HJ ⟨tm,az,up,H⟩ Q):=Mt AP ctx _ _ HJ
theorem qjg (ctx:Ctx) (tm:T AV) (az:List aC) (up:Option ah) (H:AHeap) (Q:aX) :
 GS AP true ctx HJ ⟨tm,az,up,H⟩ Q =
 (LK ai (tm.get 4) λ g ti4=>BI g (Op.move [ti4]) λ g t1=>GO g Q .normal ⟨(cH [(1,t1)] tm),az,up,H⟩):=sa (l:=HJ) (by kernel_rfl)
theorem qmr (ctx:Ctx) (tm:T AV) (az:List aC) (up:Option ah) (H:AHeap) (Q:aX) :
 WP AP ctx KA ⟨tm,az,up,H⟩ Q =
 (GS AP ai ctx I4 ⟨tm,az,up,H⟩ Q):=Mt AP ctx _ _ I4
theorem qjj (ctx:Ctx) (tm:T AV) (az:List aC) (up:Option ah) (H:AHeap) (Q:aX) :
 GS AP true ctx I4 ⟨tm,az,up,H⟩ Q =
 (LK ai (tm.get 2) λ g ti2=>BI g ((Op.fieldAddr 0) [ti2]) λ g t10=>BI g (Op.aa [t10] H) λ g t11=>LK g (tm.get 0) λ g ti0=>kN g ((Op.store 1) [ti0,t11] H) λ g t_u H1 =>
 GO g Q .normal ⟨(cH [(11,t11),(10,t10)] tm),az,up,H1⟩):=sa (l:=I4) (by kernel_rfl)
theorem qmq (ctx:Ctx) (tm:T AV) (az:List aC) (up:Option ah) (H:AHeap) (Q:aX) :
 WP AP ctx Kx ⟨tm,az,up,H⟩ Q =
 (GS AP ai ctx Iy ⟨tm,az,up,H⟩ (nR (WP AP ctx KA) Q)):=gB AP ctx _ _ Iy KA
theorem qji (ctx:Ctx) (tm:T AV) (az:List aC) (up:Option ah) (H:AHeap) (Q:aX) :
 GS AP true ctx Iy ⟨tm,az,up,H⟩ Q =
 (kN ai ((Op.alloc yg [(.int .i64 0)]) []) λ g o1 mk1=>LK g (tm.get 9) λ g ti9=>kN g ((Op.store 1) [(mk1 H.next),ti9] (H.alloc o1)) λ g t_u H2 =>
 GO g Q .normal ⟨(cH [(2,(mk1 H.next))] tm),az,up,H2⟩):=sa (l:=Iy) (by kernel_rfl)
theorem qk5 (ctx:Ctx) (tm:T AV) (az:List aC) (up:Option ah) (H:AHeap) (Q:aX) :
 WP AP ctx LX ⟨tm,az,up,H⟩ Q =
 (GS AP ai ctx Il ⟨tm,az,up,H⟩ Q):=Mt AP ctx _ _ Il
theorem qiy (ctx:Ctx) (tm:T AV) (az:List aC) (up:Option ah) (H:AHeap) (Q:aX) :
 GS AP true ctx Il ⟨tm,az,up,H⟩ Q =
 (LK ai (tm.get 3) λ g ti3=>BI g (Op.move [ti3]) λ g t5=>dc [t5] H (oL (some []) (cH [(5,t5)] tm) az up Q)):=sa (l:=Il) (by kernel_rfl)
theorem qk4 (ctx:Ctx) (tm:T AV) (az:List aC) (up:Option ah) (H:AHeap) (Q:aX) :
 WP AP ctx K6 ⟨tm,az,up,H⟩ Q =
 (GS AP ai ctx HM ⟨tm,az,up,H⟩ (nR (WP AP ctx LX) Q)):=gB AP ctx _ _ HM LX
theorem qix (ctx:Ctx) (tm:T AV) (az:List aC) (up:Option ah) (H:AHeap) (Q:aX) :
 GS AP true ctx HM ⟨tm,az,up,H⟩ Q =
 (LK ai (tm.get 4) λ g ti4=>BI g (Op.move [ti4]) λ g t3=>GO g Q .normal ⟨(cH [(3,t3)] tm),az,up,H⟩):=sa (l:=HM) (by kernel_rfl)
theorem qmp (ctx:Ctx) (tm:T AV) (az:List aC) (up:Option ah) (H:AHeap) (Q:aX) :
 WP AP ctx KD ⟨tm,az,up,H⟩ Q =
 (BI ai (tm.get 8) λ g v=>BI g (asBool v) λ g q=>IG g q (λ g=>GW AP g ctx Kx ⟨tm,az,up,H⟩ Q) (λ g=>GW AP g ctx K6 ⟨tm,az,up,H⟩ Q)):=wQ AP ctx _ _ 8 Kx K6
theorem qmo (ctx:Ctx) (tm:T AV) (az:List aC) (up:Option ah) (H:AHeap) (Q:aX) :
 WP AP ctx LG ⟨tm,az,up,H⟩ Q =
 (GS AP ai ctx Ij ⟨tm,az,up,H⟩ (nR (WP AP ctx KD) Q)):=gB AP ctx _ _ Ij KD
theorem qjh (ctx:Ctx) (tm:T AV) (az:List aC) (up:Option ah) (H:AHeap) (Q:aX) :
 GS AP true ctx Ij ⟨tm,az,up,H⟩ Q =
 (LK ai (tm.get 4) λ g ti4=>BI g ((Op.typeAssert yg true (.agg [(.int .i64 0)])) [ti4]) λ g t7=>BI g ((Op.extract 1) [t7]) λ g t8=>BI g ((Op.extract 0) [t7]) λ g t9 =>
 GO g Q .normal ⟨(cH [(9,t9),(8,t8),(7,t7)] tm),az,up,H⟩):=sa (l:=Ij) (by kernel_rfl)
theorem qmm (ctx:Ctx) (tm:T AV) (az:List aC) (up:Option ah) (H:AHeap) (Q:aX) :
 WP AP ctx Lg ⟨tm,az,up,H⟩ Q =
 (BI ai (tm.get 6) λ g v=>BI g (asBool v) λ g q=>IG g q (λ g=>GW AP g ctx KH ⟨tm,az,up,H⟩ Q) (λ g=>GW AP g ctx LG ⟨tm,az,up,H⟩ Q)):=wQ AP ctx _ _ 6 KH LG
theorem qml (ctx:Ctx) (tm:T AV) (az:List aC) (up:Option ah) (H:AHeap) (Q:aX) :
 WP AP ctx LM ⟨tm,az,up,H⟩ Q =
 (GS AP ai ctx Jp ⟨tm,az,up,H⟩ (nR (WP AP ctx Lg) Q)):=gB AP ctx _ _ Jp Lg
theorem qjf (ctx:Ctx) (tm:T AV) (az:List aC) (up:Option ah) (H:AHeap) (Q:aX) :
 GS AP true ctx Jp ⟨tm,az,up,H⟩ Q =
 (LK ai (tm.get 4) λ g ti4=>BI g ((Op.eq .iface false) [ti4,.nili] H) λ g t6=>GO g Q .normal ⟨(cH [(6,t6)] tm),az,up,H⟩):=sa (l:=Jp) (by kernel_rfl)
theorem qmk (ctx:Ctx) (tm:T AV) (az:List aC) (up:Option ah) (H:AHeap) (Q:aX) :
 WP AP ctx LJ ⟨tm,az,up,H⟩ Q =
 (WP AP ctx LM ⟨tm,az,up,H⟩ (yZ 0 Q)):=vO AP ctx _ _ 0 LM
theorem qmj (ctx:Ctx) (tm:T AV) (az:List aC) (up:Option ah) (H:AHeap) (Q:aX) :
 WP AP ctx qom ⟨tm,az,up,H⟩ Q =
 (GS AP ai ctx IE ⟨tm,az,up,H⟩ (nR (WP AP ctx LJ) Q)):=gB AP ctx _ _ IE LJ
theorem qje (ctx:Ctx) (tm:T AV) (az:List aC) (up:Option ah) (H:AHeap) (Q:aX) :
 GS AP true ctx IE ⟨tm,az,up,H⟩ Q =
 (RC ai ctx up λ g t4 up1=>GO g Q .normal ⟨(cH [(4,t4)] tm),az,up1,H⟩):=sa (l:=IE) (by kernel_rfl)
end
open Go.Proofs Go.Proofs.YtbimikjajohflaaGreatDoor
theorem qza:(ak Tryz.prog).func Ix=some qsb:=by kernel_rfl
theorem qol:(ak Tryz.prog).func AO=some MV:=by kernel_rfl
end Go.Am
namespace Go.Am
abbrev y8:Nat:=136
abbrev DZ:Nat:=75
abbrev Cp:Nat:=99
abbrev AB:Nat:=100
abbrev Bv:Nat:=101
abbrev BX:Nat:=102
abbrev Ew:Nat:=98
abbrev Dw:Nat:=119
abbrev GJ:Nat:=120
abbrev xp:Nat:=141
abbrev BD:Nat:=1
noncomputable section
open Go.Proofs Go.Proofs.YtbimikjajohflaaGreatDoor
variable {M:aO} [MK M] {H:AHeap} {Q:bE->AHeap->Prop} {a0 a1 a2:AV}
def Qc:aq:=funcAt Tryz.prog DZ
def q85:Kp:=⟨[0,1,2,3,4,5,6,7,8,9,10,11,12,13,14,49],false,[0,2,10,14,18,22,38,50,62,74,86,98,110,122,129]⟩
def vb (k:Nat):Kp × ab:=(q85,part Qc.body k)
theorem sM (M:aO) (c:Ctx):(WE M c (vb 0) λ Q E D H=>Lz E 0 λ g a=>A3 g z6 (AV.cells a) H λ g b H1=>Ly g E 1 λ g d=>A3 g cQ (AV.cells d) H1 λ g e H2=>Ly g E 2 λ g f=>A3 g bu (AV.cells f) H2 λ g h H3=>A3 g xp [(.int .i64 0),(.int .i64 0),(.int .i64 0),(.int .u64 0),(.int .u64 0)] H3 λ g i H4=>W M c (vb 2) g Q ((6,i)::(5,h)::(4,e)::(3,b)::E) D H4) /\
 (WE M c (vb 2) λ Q E D H=>Lz E 3 λ g r=>B3 g ((Op.au 5) [r] H) λ g j=>C3 M g (.func Ew) [j] H λ g l H1=>B3 g ((Op.un .not) [l]) λ g d=>JN (λ (k:Bool->AV->AV->AHeap->Prop)=>B3 g (aE false (some d)) λ g w=>c9 g w (λ g=>Ly g E 5 λ g s=>B3 g (Op.aa [s] H1) λ g e=>Bn g .lss e (.int .i64 0) λ g m=>k g m e H1) (λ g=>k g uu uu H1)) (λ g a _ H2=>B3 g (Op.pick [d,(.bool true),a]) λ g f=>JN (λ (k:Bool->AV->AV->AHeap->Prop)=>B3 g (aE false (some f)) λ g w=>c9 g w (λ g=>Ly g E 5 λ g i=>B3 g (Op.aa [i] H2) λ g h=>Bn g .geq h (.int .i64 1024) λ g n=>k g n h H2) (λ g=>k g uu uu H2)) (λ g b _ H3=>B3 g (Op.pick [f,(.bool true),b]) λ g p=>cB g p (λ g=>B3 g ((Op.build [(.int .i64 0),(.int .i64 0),(.int .i64 0),(.int .u64 0),(.int .u64 0)] []) []) λ g q=>Ly g E 6 λ g v=>bA g ((Op.store 5) [v,q] H3) λ g u H4=>aB g (aw (W M c (vb 10)) Q) .ret E D H4) (λ g=>Gt g M c (vb 10) Q E D H3)))) /\
 (WE M c (vb 10) λ Q E D H=>Lz E 5 λ g f=>Ly g E 3 λ g h=>B3 g ((Op.bm Cp 0) [f,h]) λ g d=>Ly g E 5 λ g a=>Ly g E 3 λ g b=>B3 g ((Op.bm AB 0) [a,b]) λ g e=>W M c (vb 14) g Q ((8,e)::(7,d)::E) D H) /\
 (WE M c (vb 14) λ Q E D H=>Lz E 5 λ g d=>B3 g ((Op.bm Bv 0) [d]) λ g a=>Ly g E 4 λ g e=>B3 g ((Op.bm BX 0) [e]) λ g b=>W M c (vb 18) g Q ((10,b)::(9,a)::E) D H) /\
 (WE M c (vb 18) λ Q E D H=>Lz E 10 λ g a=>Ly g E 3 λ g j=>Fl g 1 j H λ g m=>B3 g ((Op.fieldAddr 2) [j]) λ g e=>B3 g (Op.aa [e] H) λ g h=>B3 g ((Op.fieldAddr 3) [j]) λ g b=>B3 g (Op.aa [b] H) λ g d=>V3 g [a,m] λ g f vs=>C3 M g f vs H λ g n H1=>kA g (Op.aa [e] H1) (some h) λ g=>kA g (Op.aa [b] H1) (some d) λ g=>V3 g [a,h] λ g f vs=>C3 M g f vs H1 λ g i H2=>kA g (Op.aa [b] H2) (some d) λ g=>V3 g [a,d] λ g f vs=>C3 M g f vs H2 λ g p H3=>Ly g E 3 λ g l=>Fl g 4 l H3 λ g q=>B3 g ((Op.wrap .u64) [q]) λ g r=>Bn g .add i r λ g s=>W M c (vb 22) g Q ((14,s)::(13,p)::(12,i)::(11,n)::E) D H3) /\
 (WE M c (vb 22) λ Q E D H=>Lz E 3 λ g l=>Fl g 0 l H λ g a=>Cb g .eql a (.int .i64 1) (λ g=>Ly g E 9 λ g m=>V3 g [m,(.int .i64 7)] λ g f vs=>C3 M g f vs H λ g e H1=>Ly g E 6 λ g b=>bA g ((Op.store 5) [b,e] H1) λ g u H2=>aB g (aR 0 (aw (W M c (vb 129)) Q)) .ret ((49,a)::E) D H2) (λ g=>Cb g .eql a (.int .i64 2) (λ g=>Ly g E 7 λ g n=>Ly g E 3 λ g d=>Fl g 4 d H λ g h=>B3 g ((Op.wrap .u64) [h]) λ g i=>V3 g [n,i] λ g f vs=>C3 M g f vs H λ g j H1=>Ly g E 6 λ g b=>bA g ((Op.store 5) [b,j] H1) λ g u H2=>aB g (aR 0 (aw (W M c (vb 129)) Q)) .ret ((49,a)::E) D H2) (λ g=>W M c (vb 38) g (aR 0 (aw (W M c (vb 129)) Q)) ((49,a)::E) D H))) /\
 (WE M c (vb 129) λ Q E D H=>Lz E 9 λ g b=>V3 g [b,(.int .i64 6)] λ g f vs=>C3 M g f vs H λ g a H1=>Ly g E 6 λ g d=>bA g ((Op.store 5) [d,a] H1) λ g u H2=>aB g Q .ret E D H2) /\
 (WE M c (vb 38) λ Q E D H=>Lz E 49 λ g h=>Cb g .eql h (.int .i64 3) (λ g=>Ly g E 7 λ g d=>Ly g E 12 λ g a=>V3 g [d,a] λ g f vs=>C3 M g f vs H λ g i H1=>Ly g E 6 λ g e=>bA g ((Op.store 5) [e,i] H1) λ g u H2=>aB g Q .ret E D H2) (λ g=>Ly g E 49 λ g b=>Cb g .eql b (.int .i64 4) (λ g=>Ly g E 7 λ g d=>Ly g E 12 λ g a=>Ly g E 13 λ g j=>Bn g .add a j λ g l=>V3 g [d,l] λ g f vs=>C3 M g f vs H λ g m H1=>Ly g E 6 λ g e=>bA g ((Op.store 5) [e,m] H1) λ g u H2=>aB g Q .ret E D H2) (λ g=>W M c (vb 50) g Q E D H))) /\
 (WE M c (vb 50) λ Q E D H=>Lz E 49 λ g i=>Cb g .eql i (.int .i64 5) (λ g=>Ly g E 7 λ g e=>Ly g E 12 λ g a=>Ly g E 13 λ g b=>Bn g .sub a b λ g j=>V3 g [e,j] λ g f vs=>C3 M g f vs H λ g l H1=>Ly g E 6 λ g h=>bA g ((Op.store 5) [h,l] H1) λ g u H2=>aB g Q .ret E D H2) (λ g=>Ly g E 49 λ g d=>Cb g .eql d (.int .i64 6) (λ g=>Ly g E 7 λ g e=>Ly g E 12 λ g a=>Ly g E 13 λ g b=>Bn g .mul a b λ g m=>V3 g [e,m] λ g f vs=>C3 M g f vs H λ g n H1=>Ly g E 6 λ g h=>bA g ((Op.store 5) [h,n] H1) λ g u H2=>aB g Q .ret E D H2) (λ g=>W M c (vb 62) g Q E D H))) /\
 (WE M c (vb 62) λ Q E D H=>Lz E 49 λ g j=>Cb g .eql j (.int .i64 7) (λ g=>Ly g E 7 λ g e=>Ly g E 12 λ g a=>Ly g E 13 λ g b=>Bn g .and a b λ g l=>V3 g [e,l] λ g f vs=>C3 M g f vs H λ g m H1=>Ly g E 6 λ g h=>bA g ((Op.store 5) [h,m] H1) λ g u H2=>aB g Q .ret E D H2) (λ g=>Ly g E 49 λ g d=>Cb g .eql d (.int .i64 8) (λ g=>Ly g E 7 λ g e=>Ly g E 12 λ g a=>Ly g E 13 λ g b=>Bn g .xor a b λ g n=>V3 g [e,n] λ g f vs=>C3 M g f vs H λ g i H1=>Ly g E 6 λ g h=>bA g ((Op.store 5) [h,i] H1) λ g u H2=>aB g Q .ret E D H2) (λ g=>W M c (vb 74) g Q E D H))) /\
 (WE M c (vb 74) λ Q E D H=>Lz E 49 λ g q=>Cb g .eql q (.int .i64 9) (λ g=>Ly g E 7 λ g e=>Ly g E 12 λ g a=>Ly g E 13 λ g b=>Bn g .rem b (.int .u64 64) λ g h=>Bn g .shl a h λ g i=>V3 g [e,i] λ g f vs=>C3 M g f vs H λ g j H1=>Ly g E 6 λ g l=>bA g ((Op.store 5) [l,j] H1) λ g u H2=>aB g Q .ret E D H2) (λ g=>Ly g E 49 λ g d=>Cb g .eql d (.int .i64 10) (λ g=>Ly g E 7 λ g e=>Ly g E 12 λ g a=>Ly g E 13 λ g b=>Bn g .rem b (.int .u64 64) λ g m=>Bn g .shr a m λ g n=>V3 g [e,n] λ g f vs=>C3 M g f vs H λ g p H1=>Ly g E 6 λ g l=>bA g ((Op.store 5) [l,p] H1) λ g u H2=>aB g Q .ret E D H2) (λ g=>W M c (vb 86) g Q E D H))) /\
 (WE M c (vb 86) λ Q E D H=>Lz E 49 λ g p=>Cb g .eql p (.int .i64 11) (λ g=>Ly g E 5 λ g d=>B3 g (Op.aa [d] H) λ g e=>Bn g .add e (.int .i64 1) λ g f=>Ly g E 3 λ g r=>Fl g 1 r H λ g h=>Ly g E 14 λ g a=>B3 g ((Op.build [(.int .i64 0),(.int .i64 0),(.int .i64 0),(.int .u64 0),(.int .u64 0)] [(0,1),(1,1),(2,1),(4,1)]) [(.int .i64 3),f,h,a]) λ g i=>Ly g E 6 λ g j=>bA g ((Op.store 5) [j,i] H) λ g u H1=>aB g Q .ret E D H1) (λ g=>Ly g E 49 λ g b=>Cb g .eql b (.int .i64 12) (λ g=>Ly g E 5 λ g d=>B3 g (Op.aa [d] H) λ g l=>Bn g .add l (.int .i64 1) λ g m=>Ly g E 11 λ g q=>Ly g E 14 λ g a=>B3 g ((Op.build [(.int .i64 0),(.int .i64 0),(.int .i64 0),(.int .u64 0),(.int .u64 0)] [(0,1),(1,1),(3,1),(4,1)]) [(.int .i64 4),m,q,a]) λ g n=>Ly g E 6 λ g j=>bA g ((Op.store 5) [j,n] H) λ g u H1=>aB g Q .ret E D H1) (λ g=>W M c (vb 98) g Q E D H))) /\
 (WE M c (vb 98) λ Q E D H=>Lz E 49 λ g j=>Cb g .eql j (.int .i64 13) (λ g=>Ly g E 8 λ g b=>V3 g [b,(.bool true)] λ g f vs=>C3 M g f vs H λ g d H1=>Ly g E 6 λ g e=>bA g ((Op.store 5) [e,d] H1) λ g u H2=>aB g Q .ret E D H2) (λ g=>Ly g E 49 λ g a=>Cb g .eql a (.int .i64 14) (λ g=>Ly g E 8 λ g b=>Ly g E 11 λ g l=>Ly g E 12 λ g m=>Bn g .eql l m λ g h=>V3 g [b,h] λ g f vs=>C3 M g f vs H λ g i H1=>Ly g E 6 λ g e=>bA g ((Op.store 5) [e,i] H1) λ g u H2=>aB g Q .ret E D H2) (λ g=>W M c (vb 110) g Q E D H))) /\
 (WE M c (vb 110) λ Q E D H=>Lz E 49 λ g n=>Cb g .eql n (.int .i64 15) (λ g=>Ly g E 8 λ g e=>Ly g E 11 λ g a=>Ly g E 12 λ g b=>Bn g .neq a b λ g h=>V3 g [e,h] λ g f vs=>C3 M g f vs H λ g i H1=>Ly g E 6 λ g j=>bA g ((Op.store 5) [j,i] H1) λ g u H2=>aB g Q .ret E D H2) (λ g=>Ly g E 49 λ g d=>Cb g .eql d (.int .i64 16) (λ g=>Ly g E 8 λ g e=>Ly g E 11 λ g a=>Ly g E 12 λ g b=>Bn g .lss a b λ g l=>V3 g [e,l] λ g f vs=>C3 M g f vs H λ g m H1=>Ly g E 6 λ g j=>bA g ((Op.store 5) [j,m] H1) λ g u H2=>aB g Q .ret E D H2) (λ g=>W M c (vb 122) g Q E D H))) /\
 (WE M c (vb 122) λ Q E D H=>Lz E 49 λ g b=>Cb g .eql b (.int .i64 17) (λ g=>Ly g E 9 λ g d=>V3 g [d,(.int .i64 5)] λ g f vs=>C3 M g f vs H λ g a H1=>Ly g E 6 λ g e=>bA g ((Op.store 5) [e,a] H1) λ g u H2=>aB g Q .ret E D H2) (λ g=>aB g Q .normal E D H)):=by (repeat' apply And.intro)<;>(intro _ _ _ _;refine aL ?_;kernel_rfl)
theorem vR:(ak Tryz.prog).func DZ=some Qc/\Qc.results=[.dA 5 6]:=xw (by kernel_rfl)
theorem sT (h:W M ⟨none,DZ⟩ (vb 0) true (aU M [.dA 5 6] Q) [(0,a0),(1,a1),(2,a2)] [] H):kj M DZ [a0,a1,a2] H Q:=aM (by decide) vR (ks:=q85) (by kernel_rfl) h
def My:aq:=funcAt Tryz.prog Ew
def qy0:Kp:=⟨[0,1,2,3,4,5,6,19,20],false,[0,4,9,15,26,27]⟩
def qH (k:Nat):Kp × ab:=(qy0,part My.body k)
theorem q65 (M:aO) (c:Ctx):(WE M c (qH 0) λ Q E D H=>Lz E 0 λ g f=>A3 g z6 (AV.cells f) H λ g b H1=>Fl g 0 b H1 λ g h=>C3 M g (.func Dw) [h] H1 λ g a H2=>B3 g ((Op.extract 0) [a]) λ g d=>B3 g ((Op.extract 1) [a]) λ g e=>W M c (qH 4) g Q ((4,e)::(3,d)::(2,(.bool false))::(1,b)::E) D H2) /\
 (WE M c (qH 4) λ Q E D H=>Lz E 1 λ g a=>Fl g 1 a H λ g b=>Fl g 2 a H λ g d=>Fl g 3 a H λ g e=>B3 g ((Op.build [(.int .i64 0),(.int .i64 0),(.int .i64 0)] [(0,1),(1,1),(2,1)]) [b,d,e]) λ g f=>bS (W M c (qH 9)) (aR 0 (aw (W M c (qH 27)) Q)) ((20,(.int .i64 0))::(19,f)::E) D H) /\
 (WE M c (qH 27) λ Q E D H=>Lz E 4 λ g a=>aB g Q .ret ((2,a)::E) D H) /\
 (WE M c (qH 9) λ Q E D H=>Lz E 20 λ g a=>Cb g .lss a (.int .i64 3) (λ g=>Gt g M c (qH 15) Q E D H) (λ g=>aB g (aw (W M c (qH 15)) Q) (.exit 0) E D H)) /\
 (WE M c (qH 15) λ Q E D H=>Lz E 20 λ g b=>Ly g E 19 λ g j=>B3 g ((Op.eH 3 1 none) [j,b]) λ g a=>Ly g E 3 λ g r=>B3 g (Op.aY [(.str [65,66,67]),b]) λ g l=>C3 M g (.func GJ) [r,l] H λ g m H1=>Bn g .geq m (.int .i64 0) λ g e=>JN (λ (k:Bool->AV->AV->AV->AHeap->Prop)=>B3 g (aE true (some e)) λ g w=>c9 g w (λ g=>Bn g .lss a (.int .i64 0) λ g i=>k g i i a H1) (λ g=>k g uu uu uu H1)) (λ g d _ _ H2=>JN (λ (k:Bool->AV->AV->AHeap->Prop)=>B3 g (aE false (some d)) λ g w=>c9 g w (λ g=>Bn g .geq a (.int .i64 8) λ g n=>k g n a H2) (λ g=>k g uu uu H2)) (λ g f _ H3=>JN (λ (k:Bool->AV->AHeap->Prop)=>B3 g (aE true (some e)) λ g w=>c9 g w (λ g=>B3 g (Op.pick [d,(.bool true),f]) λ g p=>k g p H3) (λ g=>k g uu H3)) (λ g h H4=>B3 g (Op.pick [e,h,(.bool false)]) λ g q=>cB g q (λ g=>aB g (aR 1 (aw (W M c (qH 26)) Q)) .ret ((2,(.bool false))::(6,a)::(5,b)::E) D H4) (λ g=>aB g (aR 1 (aw (W M c (qH 26)) Q)) .normal ((6,a)::(5,b)::E) D H4))))) /\
 (WE M c (qH 26) λ Q E D H=>Lz E 20 λ g a=>Bn g .add a (.int .i64 1) λ g b=>aB g Q .normal ((20,b)::E) D H):=by (repeat' apply And.intro)<;>(intro _ _ _ _;refine aL ?_;kernel_rfl)
theorem q63:(ak Tryz.prog).func Ew=some My/\My.results=[.tmp 2]:=xw (by kernel_rfl)
theorem q64 (h:W M ⟨none,Ew⟩ (qH 0) true (aU M [.tmp 2] Q) [(0,a0)] [] H):kj M Ew [a0] H Q:=aM (by decide) q63 (ks:=qy0) (by kernel_rfl) h
def NM:aq:=funcAt Tryz.prog Cp
def q09:Kp:=⟨[0,1,2,4,5],false,[0]⟩
def q1a (k:Nat):Kp × ab:=(q09,part NM.body k)
theorem xay (M:aO) (c:Ctx):(WE M c (q1a 0) λ Q E D H=>A3 true xp [(.int .i64 0),(.int .i64 0),(.int .i64 0),(.int .u64 0),(.int .u64 0)] H λ g a H1=>Ly g E 1 λ g e=>B3 g (Op.aa [e] H1) λ g b=>Bn g .add b (.int .i64 1) λ g f=>Ly g E 2 λ g h=>Fl g 1 h H1 λ g i=>Ly g E 0 λ g j=>B3 g ((Op.build [(.int .i64 0),(.int .i64 0),(.int .i64 0),(.int .u64 0),(.int .u64 0)] [(0,1),(1,1),(2,1),(3,1)]) [(.int .i64 1),f,i,j]) λ g d=>bA g ((Op.store 5) [a,d] H1) λ g u H2=>aB g Q .ret ((5,b)::(4,a)::E) D H2):=by intro _ _ _ _;refine aL ?_;kernel_rfl
theorem xaw:(ak Tryz.prog).func Cp=some NM/\NM.results=[.dA 5 4]:=xw (by kernel_rfl)
theorem xax (h:W M ⟨none,Cp⟩ (q1a 0) true (aU M [.dA 5 4] Q) [(0,a0),(1,a1),(2,a2)] [] H):kj M Cp [a0,a1,a2] H Q:=aM (by decide) xaw (ks:=q09) (by kernel_rfl) h
def MR:aq:=funcAt Tryz.prog AB
def q1b:Kp:=⟨[0,1,2,4,5],false,[0,2,10,18]⟩
def yK (k:Nat):Kp × ab:=(q1b,part MR.body k)
theorem xa1 (M:aO) (c:Ctx):(WE M c (yK 0) λ Q E D H=>A3 true xp [(.int .i64 0),(.int .i64 0),(.int .i64 0),(.int .u64 0),(.int .u64 0)] H λ g a H1=>W M c (yK 2) g Q ((4,a)::E) D H1) /\
 (WE M c (yK 2) λ Q E D H=>Lz E 0 λ g a=>B3 g ((Op.un .not) [a]) λ g b=>cB g b (λ g=>Ly g E 1 λ g d=>B3 g (Op.aa [d] H) λ g e=>Bn g .add e (.int .i64 1) λ g f=>B3 g ((Op.build [(.int .i64 0),(.int .i64 0),(.int .i64 0),(.int .u64 0),(.int .u64 0)] [(0,1),(1,1)]) [(.int .i64 2),f]) λ g h=>Ly g E 4 λ g i=>bA g ((Op.store 5) [i,h] H) λ g u H1=>aB g (aw (W M c (yK 10)) Q) .ret ((5,a)::E) D H1) (λ g=>Gt g M c (yK 10) Q ((5,a)::E) D H)) /\
 (WE M c (yK 10) λ Q E D H=>Lz E 2 λ g f=>Fl g 4 f H λ g h=>Bn g .lss h (.int .i64 0) λ g b=>JN (λ (k:Bool->AV->AV->AV->AHeap->Prop)=>B3 g (aE false (some b)) λ g w=>c9 g w (λ g=>B3 g ((Op.fieldAddr 4) [f]) λ g d=>B3 g (Op.aa [d] H) λ g e=>Bn g .gtr e (.int .i64 1024) λ g i=>k g i e d H) (λ g=>k g uu uu uu H)) (λ g a _ _ H1=>B3 g (Op.pick [b,(.bool true),a]) λ g j=>cB g j (λ g=>B3 g ((Op.build [(.int .i64 0),(.int .i64 0),(.int .i64 0),(.int .u64 0),(.int .u64 0)] []) []) λ g l=>Ly g E 4 λ g m=>bA g ((Op.store 5) [m,l] H1) λ g u H2=>aB g (aw (W M c (yK 18)) Q) .ret E D H2) (λ g=>Gt g M c (yK 18) Q E D H1))) /\
 (WE M c (yK 18) λ Q E D H=>Lz E 2 λ g d=>Fl g 4 d H λ g a=>B3 g ((Op.build [(.int .i64 0),(.int .i64 0),(.int .i64 0),(.int .u64 0),(.int .u64 0)] [(0,1),(1,1)]) [(.int .i64 2),a]) λ g b=>Ly g E 4 λ g e=>bA g ((Op.store 5) [e,b] H) λ g u H1=>aB g Q .ret E D H1):=by (repeat' apply And.intro)<;>(intro _ _ _ _;refine aL ?_;kernel_rfl)
theorem xaz:(ak Tryz.prog).func AB=some MR/\MR.results=[.dA 5 4]:=xw (by kernel_rfl)
theorem xa0 (h:W M ⟨none,AB⟩ (yK 0) true (aU M [.dA 5 4] Q) [(0,a0),(1,a1),(2,a2)] [] H):kj M AB [a0,a1,a2] H Q:=aM (by decide) xaz (ks:=q1b) (by kernel_rfl) h
def MU:aq:=funcAt Tryz.prog Bv
def q1c:Kp:=⟨[0,1,3,5],false,[0]⟩
def q1d (k:Nat):Kp × ab:=(q1c,part MU.body k)
theorem xa4 (M:aO) (c:Ctx):(WE M c (q1d 0) λ Q E D H=>A3 true xp [(.int .i64 0),(.int .i64 0),(.int .i64 0),(.int .u64 0),(.int .u64 0)] H λ g a H1=>Ly g E 0 λ g d=>Ly g E 1 λ g e=>B3 g (Op.aa [e] H1) λ g b=>Bn g .add b (.int .i64 1) λ g f=>B3 g ((Op.build [(.int .i64 0),(.int .i64 0),(.int .i64 0),(.int .u64 0),(.int .u64 0)] [(0,1),(1,1)]) [d,f]) λ g h=>bA g ((Op.store 5) [a,h] H1) λ g u H2=>aB g Q .ret ((5,b)::(3,a)::E) D H2):=by intro _ _ _ _;refine aL ?_;kernel_rfl
theorem xa2:(ak Tryz.prog).func Bv=some MU/\MU.results=[.dA 5 3]:=xw (by kernel_rfl)
theorem xa3 (h:W M ⟨none,Bv⟩ (q1d 0) true (aU M [.dA 5 3] Q) [(0,a0),(1,a1)] [] H):kj M Bv [a0,a1] H Q:=aM (by decide) xa2 (ks:=q1c) (by kernel_rfl) h
def P2:aq:=funcAt Tryz.prog BX
def q1e:Kp:=⟨[0,1,3],false,[0]⟩
def q1f (k:Nat):Kp × ab:=(q1e,part P2.body k)
theorem xa7 (M:aO) (c:Ctx):(WE M c (q1f 0) λ Q E D H=>Lz E 0 λ g a=>Bn g .and a (.int .i64 7) λ g b=>Ly g E 1 λ g d=>B3 g ((Op.bp 8 1) [d,b]) λ g e=>B3 g (Op.aa [e] H) λ g f=>aB g Q .ret ((3,f)::(3,(.int .u64 0))::E) D H):=by intro _ _ _ _;refine aL ?_;kernel_rfl
theorem xa5:(ak Tryz.prog).func BX=some P2/\P2.results=[.tmp 3]:=xw (by kernel_rfl)
theorem xa6 (h:W M ⟨none,BX⟩ (q1f 0) true (aU M [.tmp 3] Q) [(0,a0),(1,a1)] [] H):kj M BX [a0,a1] H Q:=aM (by decide) xa5 (ks:=q1e) (by kernel_rfl) h
def Nh:aq:=funcAt Tryz.prog Dw
def qy1:Kp:=⟨[0,2,3],false,[0,2,10]⟩
def Fh (k:Nat):Kp × ab:=(qy1,part Nh.body k)
theorem q68 (M:aO) (c:Ctx):(WE M c (Fh 0) λ Q E D H=>W M c (Fh 2) true Q ((3,(.bool false))::(2,(.str []))::E) D H) /\
 (WE M c (Fh 2) λ Q E D H=>Lz E 0 λ g a=>Bn g .lss a (.int .i64 1) λ g d=>JN (λ (k:Bool->AV->AV->AHeap->Prop)=>B3 g (aE false (some d)) λ g w=>c9 g w (λ g=>Bn g .geq a (.int .i64 19) λ g e=>k g e a H) (λ g=>k g uu uu H)) (λ g b _ H1=>B3 g (Op.pick [d,(.bool true),b]) λ g f=>cB g f (λ g=>aB g (aw (W M c (Fh 10)) Q) .ret ((3,(.bool false))::(2,(.str []))::E) D H1) (λ g=>Gt g M c (Fh 10) Q E D H1))) /\
 (WE M c (Fh 10) λ Q E D H=>Lz E 0 λ g d=>B3 g ((Op.bp 19 2) [(.ptr BD 0),d]) λ g a=>Fl g 1 a H λ g b=>aB g Q .ret ((3,(.bool true))::(2,b)::E) D H):=by (repeat' apply And.intro)<;>(intro _ _ _ _;refine aL ?_;kernel_rfl)
theorem q66:(ak Tryz.prog).func Dw=some Nh/\Nh.results=[.tmp 2,.tmp 3]:=xw (by kernel_rfl)
theorem q67 (h:W M ⟨none,Dw⟩ (Fh 0) true (aU M [.tmp 2,.tmp 3] Q) [(0,a0)] [] H):kj M Dw [a0] H Q:=aM (by decide) q66 (ks:=qy1) (by kernel_rfl) h
def Pz:aq:=funcAt Tryz.prog GJ
def qm8:Kp:=⟨[0,1,4],false,[0]⟩
def qm9 (k:Nat):Kp × ab:=(qm8,part Pz.body k)
theorem qti (M:aO) (c:Ctx):(WE M c (qm9 0) λ Q E D H=>Lz E 0 λ g a=>Ly g E 1 λ g b=>C3 M g (.func y8) [a,b] H λ g d H1=>aB g Q .ret ((4,d)::(4,(.int .i64 0))::E) D H1):=by intro _ _ _ _;refine aL ?_;kernel_rfl
theorem qtg:(ak Tryz.prog).func GJ=some Pz/\Pz.results=[.tmp 4]:=xw (by kernel_rfl)
theorem qth (h:W M ⟨none,GJ⟩ (qm9 0) true (aU M [.tmp 4] Q) [(0,a0),(1,a1)] [] H):kj M GJ [a0,a1] H Q:=aM (by decide) qtg (ks:=qm8) (by kernel_rfl) h
def NC:aq:=funcAt Tryz.prog y8
def qep:Kp:=⟨[0,1,4],false,[0]⟩
def qeq (k:Nat):Kp × ab:=(qep,part NC.body k)
theorem qer (M:aO) (c:Ctx):(WE M c (qeq 0) λ Q E D H=>Lz E 0 λ g a=>Ly g E 1 λ g b=>B3 g (Op.bV [a,b]) λ g d=>aB g Q .ret ((4,d)::(4,(.int .i64 0))::E) D H):=by intro _ _ _ _;refine aL ?_;kernel_rfl
theorem qjc:(ak Tryz.prog).func y8=some NC/\NC.results=[.tmp 4]:=xw (by kernel_rfl)
theorem qjd (h:W M ⟨none,y8⟩ (qeq 0) true (aU M [.tmp 4] Q) [(0,a0),(1,a1)] [] H):kj M y8 [a0,a1] H Q:=aM (by decide) qjc (ks:=qep) (by kernel_rfl) h
end
end Go.Am
namespace Go.Am
abbrev zI:Nat:=15
abbrev km:Nat:=80
abbrev j9:Nat:=51
abbrev j7:Nat:=81
abbrev kz:Nat:=82
abbrev k9:Nat:=78
abbrev jb:Nat:=77
abbrev vh:Nat:=76
abbrev JU:Nat:=31
abbrev ju:Nat:=50
abbrev ko:Nat:=79
abbrev EF:Nat:=52
abbrev Ee:Nat:=30
abbrev Cl:Nat:=81
abbrev zq:Nat:=88
noncomputable section
open Go.Proofs Go.Proofs.YtbimikjajohflaaGreatDoor
variable {M:aO} [MK M] {H:AHeap} {Q:bE->AHeap->Prop} {a0 a1 a2 a3 a4:AV}
def CX:aq:=funcAt Tryz.prog zI
def D3:Kp:=⟨[0,1,2,3,4,6,10,11,12,13,28,29],false,[0,4,12,17]⟩
def A4 (k:Nat):Kp × ab:=(D3,part CX.body k)
def C4:cP:=ES CX 0
def qz4 (k:Nat):Kp × ab:=(⟨D3.aj,D3.cZ,[0]⟩,part C4.assign k)
def qz5 (k:Nat):Kp × ab:=(⟨D3.aj,D3.cZ,[0]⟩,part C4.body k)
theorem qw6:nth CX.loops 0=some C4/\C4.params=[29]:=⟨by kernel_rfl,by kernel_rfl⟩
theorem q17 (M:aO) (c:Ctx):(WE M c (A4 0) λ Q E D H=>Lz E 1 λ g i=>A3 g cQ (AV.cells i) H λ g b H1=>A3 g jh [.nils,(.int .u64 0),(.int .u64 0),(.int .u64 0),(.int .u64 0),(.int .u64 0),(.int .u64 0),(.int .u64 0),(.int .u64 0),(.int .i64 0),(.int .i64 0),(.int .i64 0),(.int .i64 0)] H1 λ g d H2=>Ly g E 0 λ g j=>B3 g ((Op.au 8) [b] H2) λ g e=>Ly g E 2 λ g l=>Ly g E 3 λ g m=>Ly g E 4 λ g n=>C3 M g (.func Ee) [j,e,l,m,n] H2 λ g a H3=>B3 g ((Op.extract 0) [a]) λ g f=>B3 g ((Op.extract 1) [a]) λ g h=>W M c (A4 4) g Q ((13,h)::(12,f)::(11,(.int .i64 0))::(10,d)::(6,b)::E) D H3) /\
 (WE M c (qz4 0) λ Q E D H=>aB true Q .normal E D H) /\
 (WE M c (qz5 0) λ Q E D H=>aB true (aR 1 Q) .normal E D H) /\
 (WE M c (A4 4) λ Q E D H=>Lz E 13 λ g b=>Cb g .neq b (.int .i64 0) (λ g=>B3 g ((Op.build [.nils,(.int .u64 0),(.int .u64 0),(.int .u64 0),(.int .u64 0),(.int .u64 0),(.int .u64 0),(.int .u64 0),(.int .u64 0),(.int .i64 0),(.int .i64 0),(.int .i64 0),(.int .i64 0)] []) []) λ g d=>Ly g E 13 λ g a=>Ly g E 10 λ g e=>bA g ((Op.store 13) [e,d] H) λ g u H1=>aB g (aw (W M c (A4 12)) Q) .ret ((11,a)::E) D H1) (λ g=>Gt g M c (A4 12) Q E D H)) /\
 (WE M c (A4 12) λ Q E D H=>Lz E 12 λ g b=>C3 M g (.func JU) [b] H λ g a H1=>mn M D3.aj c 0 ((28,a)::E) D H1 (aR 0 (aw (W M c (A4 17)) Q)) a) /\
 (WE M c (A4 17) λ Q E D H=>Lz E 12 λ g a=>B3 g (Op.nilCheck [a]) λ g b=>B3 g ((Op.fieldAddr 1) [b]) λ g d=>B3 g ((Op.au 13) [d] H) λ g e=>Ly g E 10 λ g f=>bA g ((Op.store 13) [f,e] H) λ g u H1=>aB g Q .ret ((11,(.int .i64 0))::E) D H1):=by (repeat' apply And.intro)<;>(intro _ _ _ _;refine aL ?_;kernel_rfl)
theorem q16:(ak Tryz.prog).func zI=some CX/\CX.results=[.dA 13 10,.tmp 11]:=xw (by kernel_rfl)
theorem q76:M.func zI=some CX:=MK.at (by decide) q16.1
theorem xb4 (h:W M ⟨none,zI⟩ (A4 0) true (aU M [.dA 13 10,.tmp 11] Q) [(0,a0),(1,a1),(2,a2),(3,a3),(4,a4)] [] H):kj M zI [a0,a1,a2,a3,a4] H Q:=aM (by decide) q16 (ks:=D3) (by kernel_rfl) h
def MT:aq:=funcAt Tryz.prog Ee
def qw7:Kp:=⟨[0,1,2,3,4,6,10,11],false,[0,2,10]⟩
def El (k:Nat):Kp × ab:=(qw7,part MT.body k)
theorem q6c (M:aO) (c:Ctx):(WE M c (El 0) λ Q E D H=>Lz E 1 λ g a=>A3 g cQ (AV.cells a) H λ g b H1=>W M c (El 2) g Q ((11,(.int .i64 0))::(10,.nilp)::(6,b)::E) D H1) /\
 (WE M c (El 2) λ Q E D H=>Lz E 0 λ g G=>B3 g (Op.aS [G]) λ g r=>Bn g .gtr r (.int .i64 1024) λ g j=>JN (λ (k:Bool->AV->AV->AHeap->Prop)=>B3 g (aE false (some j)) λ g w=>c9 g w (λ g=>Ly g E 2 λ g s=>Bn g .lss s (.int .i64 0) λ g v=>k g v s H) (λ g=>k g uu uu H)) (λ g d _ H1=>B3 g (Op.pick [j,(.bool true),d]) λ g l=>JN (λ (k:Bool->AV->AV->AHeap->Prop)=>B3 g (aE false (some l)) λ g w=>c9 g w (λ g=>Ly g E 2 λ g a=>Bn g .gtr a (.int .i64 1024) λ g x=>k g x a H1) (λ g=>k g uu uu H1)) (λ g e _ H2=>B3 g (Op.pick [l,(.bool true),e]) λ g m=>JN (λ (k:Bool->AV->AV->AV->AHeap->Prop)=>B3 g (aE false (some m)) λ g w=>c9 g w (λ g=>Ly g E 3 λ g y=>B3 g (Op.aS [y]) λ g n=>Bn g .gtr n (.int .i64 4096) λ g z=>k g z n y H2) (λ g=>k g uu uu uu H2)) (λ g f _ _ H3=>B3 g (Op.pick [m,(.bool true),f]) λ g p=>JN (λ (k:Bool->AV->AV->AHeap->Prop)=>B3 g (aE false (some p)) λ g w=>c9 g w (λ g=>Ly g E 4 λ g A=>Bn g .lss A (.int .i64 0) λ g B=>k g B A H3) (λ g=>k g uu uu H3)) (λ g h _ H4=>B3 g (Op.pick [p,(.bool true),h]) λ g q=>JN (λ (k:Bool->AV->AV->AHeap->Prop)=>B3 g (aE false (some q)) λ g w=>c9 g w (λ g=>Ly g E 4 λ g b=>Bn g .gtr b (.int .i64 1048576) λ g C=>k g C b H4) (λ g=>k g uu uu H4)) (λ g i _ H5=>B3 g (Op.pick [q,(.bool true),i]) λ g F=>cB g F (λ g=>aB g (aw (W M c (El 10)) Q) .ret ((11,(.int .i64 2))::(10,.nilp)::E) D H5) (λ g=>Gt g M c (El 10) Q E D H5))))))) /\
 (WE M c (El 10) λ Q E D H=>Lz E 0 λ g i=>Ly g E 3 λ g j=>Ly g E 6 λ g b=>B3 g ((Op.au 8) [b] H) λ g a=>Ly g E 2 λ g l=>Ly g E 4 λ g m=>C3 M g (.func kx) [j] H λ g d H1=>kA g ((Op.au 8) [b] H1) (some a) λ g=>B3 g ((Op.build [.nils,(.int .u64 0),(.int .u64 0),(.int .u64 0),(.int .u64 0),(.int .u64 0),(.int .u64 0),(.int .u64 0),(.int .u64 0),(.int .i64 0),(.int .i64 0),(.int .i64 0),(.int .i64 0)] [(0,1),(1,8),(9,1),(10,1)]) [d,a,l,m]) λ g e=>B3 g ((Op.build [.nils,.nils,(.int .u64 0),(.int .u64 0),(.int .u64 0),(.int .u64 0),(.int .u64 0),(.int .u64 0),(.int .u64 0),(.int .u64 0),(.int .i64 0),(.int .i64 0),(.int .i64 0),(.int .i64 0),.nils,(.int .u64 0),(.int .u64 0),(.int .u64 0),(.int .u64 0),(.int .u64 0),(.int .u64 0),(.int .u64 0),(.int .u64 0),(.int .i64 0),(.int .i64 0),(.int .i64 0),(.int .i64 0),(.bool false),(.bool false)] [(0,1),(1,13)]) [i,e]) λ g f=>A3 g zq (AV.cells f) H1 λ g h H2=>aB g Q .ret ((11,(.int .i64 0))::(10,h)::E) D H2):=by (repeat' apply And.intro)<;>(intro _ _ _ _;refine aL ?_;kernel_rfl)
theorem q6a:(ak Tryz.prog).func Ee=some MT/\MT.results=[.tmp 10,.tmp 11]:=xw (by kernel_rfl)
theorem q6b (h:W M ⟨none,Ee⟩ (El 0) true (aU M [.tmp 10,.tmp 11] Q) [(0,a0),(1,a1),(2,a2),(3,a3),(4,a4)] [] H):kj M Ee [a0,a1,a2,a3,a4] H Q:=aM (by decide) q6a (ks:=qw7) (by kernel_rfl) h
def Mx:aq:=funcAt Tryz.prog JU
def qlb:Kp:=⟨[0,1,2],false,[0]⟩
def qlc (k:Nat):Kp × ab:=(qlb,part Mx.body k)
theorem qrz (M:aO) (c:Ctx):(WE M c (qlc 0) λ Q E D H=>Lz E 0 λ g b=>A3 g Cl (AV.cells b) H λ g a H1=>B3 g ((Op.bm ju 0) [a]) λ g d=>aB g Q .ret ((2,d)::(2,.nilf)::(1,a)::E) D H1):=by intro _ _ _ _;refine aL ?_;kernel_rfl
theorem qrx:(ak Tryz.prog).func JU=some Mx/\Mx.results=[.tmp 2]:=xw (by kernel_rfl)
theorem qry (h:W M ⟨none,JU⟩ (qlc 0) true (aU M [.tmp 2] Q) [(0,a0)] [] H):kj M JU [a0] H Q:=aM (by decide) qrx (ks:=qlb) (by kernel_rfl) h
def Qd:aq:=funcAt Tryz.prog ju
def qjk:Kp:=⟨[0,1,3],false,[0,1,3,5,8,20,27,31]⟩
def x4 (k:Nat):Kp × ab:=(qjk,part Qd.body k)
theorem qpw (M:aO) (c:Ctx):(WE M c (x4 0) λ Q E D H=>W M c (x4 1) true (pA (x4 1).2 Q) E D H) /\
 (WE M c (x4 1) λ Q E D H=>Gt true M c (x4 3) Q E D H) /\
 (WE M c (x4 3) λ Q E D H=>bS (W M c (x4 5)) (aR 0 Q) E D H) /\
 (WE M c (x4 5) λ Q E D H=>Lz E 1 λ g a=>B3 g (Op.aa [a] H) λ g b=>B3 g (Op.nilCheck [b]) λ g d=>B3 g ((Op.fieldAddr 1) [d]) λ g e=>Fl g 9 e H λ g f=>W M c (x4 8) g (aR 1 Q) ((3,f)::E) D H) /\
 (WE M c (x4 8) λ Q E D H=>Lz E 1 λ g x=>B3 g (Op.aa [x] H) λ g l=>Nf g 28 l H λ g m=>cB g m (λ g=>aB g (aR 2 (aw (W M c (x4 27)) Q)) (.exit 0) E D H) (λ g=>Ly g E 3 λ g y=>Ly g E 1 λ g a=>B3 g (Op.aa [a] H) λ g n=>Nf g 0 n H λ g p=>B3 g (Op.aS [p]) λ g q=>Bn g .geq y q λ g d=>JN (λ (k:Bool->AV->AV->AV->AV->AV->AHeap->Prop)=>B3 g (aE true (some d)) λ g w=>c9 g w (λ g=>B3 g (Op.aa [a] H) λ g e=>B3 g (Op.nilCheck [e]) λ g f=>B3 g ((Op.fieldAddr 27) [f]) λ g h=>B3 g (Op.aa [h] H) λ g i=>B3 g ((Op.un .not) [i]) λ g r=>k g r i h f e H) (λ g=>k g uu uu uu uu uu H)) (λ g b _ _ _ _ H1=>B3 g (Op.pick [d,b,(.bool false)]) λ g s=>cB g s (λ g=>Ly g E 1 λ g j=>B3 g (Op.aa [j] H1) λ g v=>C3 M g (.func j9) [v,(.int .i64 0)] H1 λ g _ H2=>aB g (aR 2 (aw (W M c (x4 27)) Q)) (.exit 0) E D H2) (λ g=>W M c (x4 20) g (aR 2 (aw (W M c (x4 27)) Q)) E D H1)))) /\
 (WE M c (x4 27) λ Q E D H=>Lz E 1 λ g m=>B3 g (Op.aa [m] H) λ g a=>B3 g (Op.nilCheck [a]) λ g d=>B3 g ((Op.fieldAddr 1) [d]) λ g e=>Fl g 10 e H λ g f=>Bn g .sub f (.int .i64 1) λ g h=>B3 g (Op.nilCheck [a]) λ g i=>B3 g ((Op.fieldAddr 1) [i]) λ g j=>Fs g 10 j h H λ g u H1=>Ly g E 1 λ g b=>B3 g (Op.aa [b] H1) λ g l=>Ly g E 3 λ g n=>C3 M g (.func EF) [l,n] H1 λ g _ H2=>W M c (x4 31) g Q E D H2) /\
 (WE M c (x4 20) λ Q E D H=>Lz E 1 λ g i=>B3 g (Op.aa [i] H) λ g b=>B3 g (Op.nilCheck [b]) λ g d=>B3 g ((Op.fieldAddr 1) [d]) λ g e=>Fl g 10 e H λ g f=>Cb g .eql f (.int .i64 0) (λ g=>Ly g E 1 λ g a=>B3 g (Op.aa [a] H) λ g h=>C3 M g (.func j9) [h,(.int .i64 190)] H λ g _ H1=>aB g Q (.exit 0) E D H1) (λ g=>aB g Q .normal E D H)) /\
 (WE M c (x4 31) λ Q E D H=>Lz E 0 λ g d=>Ly g E 3 λ g e=>V3 g [d,e] λ g f vs=>C3 M g f vs H λ g a H1=>B3 g ((Op.un .not) [a]) λ g b=>cB g b (λ g=>aB g Q .ret E D H1) (λ g=>aB g Q .normal E D H1)):=by (repeat' apply And.intro)<;>(intro _ _ _ _;refine aL ?_;kernel_rfl)
theorem qpu:(ak Tryz.prog).func ju=some Qd/\Qd.results=[]:=xw (by kernel_rfl)
theorem qpv (h:W M ⟨none,ju⟩ (x4 0) true (aU M [] Q) [(0,a0),(1,a1)] [] H):kj M ju [a0,a1] H Q:=aM (by decide) qpu (ks:=qjk) (by kernel_rfl) h
def MQ:aq:=funcAt Tryz.prog j9
def qnq:Kp:=⟨[0,1],false,[0,4,6]⟩
def EP (k:Nat):Kp × ab:=(qnq,part MQ.body k)
theorem quv (M:aO) (c:Ctx):(WE M c (EP 0) λ Q E D H=>Lz E 0 λ g h=>Nf g 27 h H λ g b=>JN (λ (k:Bool->AV->AV->AHeap->Prop)=>B3 g (aE true (some b)) λ g w=>c9 g w (λ g=>Ly g E 1 λ g d=>Bn g .neq d (.int .i64 0) λ g e=>k g e d H) (λ g=>k g uu uu H)) (λ g a _ H1=>B3 g (Op.pick [b,a,(.bool false)]) λ g f=>cB g f (λ g=>W M c (EP 4) g (aw (W M c (EP 6)) Q) E D H1) (λ g=>Gt g M c (EP 6) Q E D H1))) /\
 (WE M c (EP 6) λ Q E D H=>Lz E 0 λ g a=>Ly g E 1 λ g e=>B3 g (Op.nilCheck [a]) λ g b=>B3 g ((Op.fieldAddr 1) [b]) λ g d=>Fs g 12 d e H λ g u H1=>Ns g 28 a (.bool true) H1 λ g u_1 H2=>aB g Q .normal E D H2) /\
 (WE M c (EP 4) λ Q E D H=>Lz E 0 λ g a=>B3 g (Op.nilCheck [a]) λ g b=>B3 g ((Op.fieldAddr 14) [b]) λ g d=>Fl g 0 d H λ g e=>B3 g (Op.nilCheck [a]) λ g f=>B3 g ((Op.fieldAddr 14) [f]) λ g h=>B3 g ((Op.fieldAddr 1) [h]) λ g i=>B3 g ((Op.au 8) [i] H) λ g j=>B3 g (Op.nilCheck [a]) λ g l=>B3 g ((Op.fieldAddr 14) [l]) λ g m=>Fl g 9 m H λ g n=>B3 g (Op.nilCheck [a]) λ g p=>B3 g ((Op.fieldAddr 1) [p]) λ g q=>Fs g 0 q e H λ g u H1=>B3 g (Op.nilCheck [a]) λ g r=>B3 g ((Op.fieldAddr 1) [r]) λ g s=>B3 g ((Op.fieldAddr 1) [s]) λ g v=>bA g ((Op.store 8) [v,j] H1) λ g u_1 H2=>B3 g (Op.nilCheck [a]) λ g x=>B3 g ((Op.fieldAddr 1) [x]) λ g y=>Fs g 9 y n H2 λ g u_2 H3=>aB g Q .normal E D H3):=by (repeat' apply And.intro)<;>(intro _ _ _ _;refine aL ?_;kernel_rfl)
theorem qut:(ak Tryz.prog).func j9=some MQ/\MQ.results=[]:=xw (by kernel_rfl)
theorem quu (h:W M ⟨none,j9⟩ (EP 0) true (aU M [] Q) [(0,a0),(1,a1)] [] H):kj M j9 [a0,a1] H Q:=aM (by decide) qut (ks:=qnq) (by kernel_rfl) h
def PW:aq:=funcAt Tryz.prog EF
def qm2:Kp:=⟨[0,1,4,5,6,7],false,[0,8,12]⟩
def Cy (k:Nat):Kp × ab:=(qm2,part PW.body k)
theorem qtd (M:aO) (c:Ctx):(WE M c (Cy 0) λ Q E D H=>Lz E 1 λ g e=>Ly g E 0 λ g f=>Nf g 0 f H λ g b=>B3 g (Op.aS [b]) λ g d=>Cb g .geq e d (λ g=>Ly g E 0 λ g a=>C3 M g (.func j9) [a,(.int .i64 111)] H λ g _ H1=>aB g (aw (W M c (Cy 8)) Q) .ret E D H1) (λ g=>Gt g M c (Cy 8) Q E D H)) /\
 (WE M c (Cy 8) λ Q E D H=>Lz E 0 λ g b=>Nf g 0 b H λ g d=>Ly g E 1 λ g e=>B3 g ((Op.aJ 5) [d,e]) λ g f=>B3 g ((Op.au 5) [f] H) λ g h=>B3 g (Op.nilCheck [b]) λ g i=>B3 g ((Op.fieldAddr 1) [i]) λ g j=>B3 g ((Op.fieldAddr 1) [j]) λ g l=>B3 g ((Op.au 8) [l] H) λ g m=>C3 M g (.func DZ) [h,m,e] H λ g n H1=>A3 g xp [(.int .i64 0),(.int .i64 0),(.int .i64 0),(.int .u64 0),(.int .u64 0)] H1 λ g p H2=>bA g ((Op.store 5) [p,n] H2) λ g u H3=>bA g (Op.mkMap []) λ g o4 k4=>Ly g E 0 λ g a=>B3 g ((Op.bm vh 1) [a]) λ g q=>bA g ((Op.mapUpdate .int) [(k4 H3.next),(.int .i64 1),q] (H3.alloc o4)) λ g u_1 H5=>B3 g ((Op.bm jb 1) [a]) λ g r=>bA g ((Op.mapUpdate .int) [(k4 H3.next),(.int .i64 2),r] H5) λ g u_2 H6=>B3 g ((Op.bm k9 1) [a]) λ g s=>bA g ((Op.mapUpdate .int) [(k4 H3.next),(.int .i64 3),s] H6) λ g u_3 H7=>B3 g ((Op.bm ko 1) [a]) λ g v=>bA g ((Op.mapUpdate .int) [(k4 H3.next),(.int .i64 4),v] H7) λ g u_4 H8=>B3 g ((Op.bm km 1) [a]) λ g x=>bA g ((Op.mapUpdate .int) [(k4 H3.next),(.int .i64 5),x] H8) λ g u_5 H9=>B3 g ((Op.bm j7 1) [a]) λ g y=>bA g ((Op.mapUpdate .int) [(k4 H3.next),(.int .i64 6),y] H9) λ g u_6 H10=>B3 g ((Op.bm kz 1) [a]) λ g z=>bA g ((Op.mapUpdate .int) [(k4 H3.next),(.int .i64 7),z] H10) λ g u_7 H11=>W M c (Cy 12) g Q ((5,(k4 H3.next))::(4,p)::E) D H11) /\
 (WE M c (Cy 12) λ Q E D H=>Lz E 5 λ g q=>Ly g E 4 λ g r=>Fl g 0 r H λ g m=>B3 g ((Op.lookup .int .nilf true) [q,m] H) λ g e=>B3 g ((Op.extract 0) [e]) λ g a=>B3 g ((Op.extract 1) [e]) λ g b=>B3 g ((Op.un .not) [b]) λ g h=>JN (λ (k:Bool->AV->AV->AV->AV->AHeap->Prop)=>B3 g (aE false (some h)) λ g w=>c9 g w (λ g=>Ly g E 4 λ g l=>B3 g ((Op.au 5) [l] H) λ g i=>V3 g [a,i] λ g f vs=>C3 M g f vs H λ g j H1=>B3 g ((Op.un .not) [j]) λ g n=>k g n j i a H1) (λ g=>k g uu uu uu uu H)) (λ g d _ _ _ H2=>B3 g (Op.pick [h,(.bool true),d]) λ g p=>cB g p (λ g=>Ly g E 0 λ g s=>C3 M g (.func j9) [s,(.int .i64 111)] H2 λ g _ H3=>aB g Q .normal ((7,b)::(6,a)::E) D H3) (λ g=>aB g Q .normal ((7,b)::(6,a)::E) D H2))):=by (repeat' apply And.intro)<;>(intro _ _ _ _;refine aL ?_;kernel_rfl)
theorem qtb:(ak Tryz.prog).func EF=some PW/\PW.results=[]:=xw (by kernel_rfl)
theorem qtc (h:W M ⟨none,EF⟩ (Cy 0) true (aU M [] Q) [(0,a0),(1,a1)] [] H):kj M EF [a0,a1] H Q:=aM (by decide) qtb (ks:=qm2) (by kernel_rfl) h
def Nz:aq:=funcAt Tryz.prog vh
def qnr:Kp:=⟨[0,1,3,4],false,[0]⟩
def qns (k:Nat):Kp × ab:=(qnr,part Nz.body k)
theorem quy (M:aO) (c:Ctx):(WE M c (qns 0) λ Q E D H=>Lz E 1 λ g l=>A3 g xp (AV.cells l) H λ g a H1=>Ly g E 0 λ g m=>Fl g 2 a H1 λ g n=>Fl g 3 a H1 λ g p=>B3 g (Op.nilCheck [m]) λ g d=>B3 g ((Op.fieldAddr 1) [d]) λ g e=>B3 g ((Op.fieldAddr 1) [e]) λ g f=>B3 g ((Op.bp 8 1) [f,n]) λ g h=>bA g ((Op.store 1) [h,p] H1) λ g u H2=>Ly g E 0 λ g b=>B3 g ((Op.au 5) [a] H2) λ g i=>C3 M g (.func jb) [b,i] H2 λ g j H3=>aB g Q .ret ((4,j)::(4,(.bool false))::(3,a)::E) D H3):=by intro _ _ _ _;refine aL ?_;kernel_rfl
theorem quw:(ak Tryz.prog).func vh=some Nz/\Nz.results=[.tmp 4]:=xw (by kernel_rfl)
theorem qux (h:W M ⟨none,vh⟩ (qns 0) true (aU M [.tmp 4] Q) [(0,a0),(1,a1)] [] H):kj M vh [a0,a1] H Q:=aM (by decide) quw (ks:=qnr) (by kernel_rfl) h
def MJ:aq:=funcAt Tryz.prog jb
def qm0:Kp:=⟨[0,1,3,4],false,[0]⟩
def qm1 (k:Nat):Kp × ab:=(qm0,part MJ.body k)
theorem qta (M:aO) (c:Ctx):(WE M c (qm1 0) λ Q E D H=>Lz E 1 λ g b=>A3 g xp (AV.cells b) H λ g a H1=>Ly g E 0 λ g d=>Fl g 1 a H1 λ g e=>B3 g (Op.nilCheck [d]) λ g f=>B3 g ((Op.fieldAddr 1) [f]) λ g h=>Fs g 9 h e H1 λ g u H2=>aB g Q .ret ((4,(.bool true))::(4,(.bool false))::(3,a)::E) D H2):=by intro _ _ _ _;refine aL ?_;kernel_rfl
theorem qs8:(ak Tryz.prog).func jb=some MJ/\MJ.results=[.tmp 4]:=xw (by kernel_rfl)
theorem qs9 (h:W M ⟨none,jb⟩ (qm1 0) true (aU M [.tmp 4] Q) [(0,a0),(1,a1)] [] H):kj M jb [a0,a1] H Q:=aM (by decide) qs8 (ks:=qm0) (by kernel_rfl) h
def NK:aq:=funcAt Tryz.prog k9
def qmz:Kp:=⟨[0,1,3,4],false,[0,2,10]⟩
def Er (k:Nat):Kp × ab:=(qmz,part NK.body k)
theorem qs7 (M:aO) (c:Ctx):(WE M c (Er 0) λ Q E D H=>Lz E 1 λ g a=>A3 g xp (AV.cells a) H λ g b H1=>W M c (Er 2) g Q ((4,(.bool false))::(3,b)::E) D H1) /\
 (WE M c (Er 2) λ Q E D H=>Lz E 3 λ g e=>Fl g 4 e H λ g f=>Ly g E 0 λ g h=>B3 g (Op.nilCheck [h]) λ g i=>B3 g ((Op.fieldAddr 1) [i]) λ g j=>Fl g 0 j H λ g a=>B3 g (Op.aS [a]) λ g b=>B3 g ((Op.wrap .u64) [b]) λ g d=>Cb g .geq f d (λ g=>aB g (aw (W M c (Er 10)) Q) .ret ((4,(.bool false))::E) D H) (λ g=>Gt g M c (Er 10) Q E D H)) /\
 (WE M c (Er 10) λ Q E D H=>Lz E 0 λ g d=>Ly g E 3 λ g e=>Fl g 2 e H λ g f=>B3 g (Op.nilCheck [d]) λ g h=>B3 g ((Op.fieldAddr 1) [h]) λ g i=>Fl g 0 i H λ g j=>Fl g 4 e H λ g l=>Xl g j l H λ g m=>B3 g (Op.nilCheck [d]) λ g n=>B3 g ((Op.fieldAddr 1) [n]) λ g p=>B3 g ((Op.fieldAddr 1) [p]) λ g q=>B3 g ((Op.bp 8 1) [q,f]) λ g r=>bA g ((Op.store 1) [r,m] H) λ g u H1=>Ly g E 0 λ g a=>Ly g E 3 λ g b=>B3 g ((Op.au 5) [b] H1) λ g s=>C3 M g (.func jb) [a,s] H1 λ g v H2=>aB g Q .ret ((4,v)::E) D H2):=by (repeat' apply And.intro)<;>(intro _ _ _ _;refine aL ?_;kernel_rfl)
theorem qs5:(ak Tryz.prog).func k9=some NK/\NK.results=[.tmp 4]:=xw (by kernel_rfl)
theorem qs6 (h:W M ⟨none,k9⟩ (Er 0) true (aU M [.tmp 4] Q) [(0,a0),(1,a1)] [] H):kj M k9 [a0,a1] H Q:=aM (by decide) qs5 (ks:=qmz) (by kernel_rfl) h
def PM:aq:=funcAt Tryz.prog ko
def qld:Kp:=⟨[0,1,3,4],false,[0,2,10]⟩
def Eu (k:Nat):Kp × ab:=(qld,part PM.body k)
theorem qr2 (M:aO) (c:Ctx):(WE M c (Eu 0) λ Q E D H=>Lz E 1 λ g a=>A3 g xp (AV.cells a) H λ g b H1=>W M c (Eu 2) g Q ((4,(.bool false))::(3,b)::E) D H1) /\
 (WE M c (Eu 2) λ Q E D H=>Lz E 3 λ g e=>Fl g 4 e H λ g f=>Ly g E 0 λ g h=>B3 g (Op.nilCheck [h]) λ g i=>B3 g ((Op.fieldAddr 1) [i]) λ g j=>Fl g 0 j H λ g a=>B3 g (Op.aS [a]) λ g b=>B3 g ((Op.wrap .u64) [b]) λ g d=>Cb g .geq f d (λ g=>aB g (aw (W M c (Eu 10)) Q) .ret ((4,(.bool false))::E) D H) (λ g=>Gt g M c (Eu 10) Q E D H)) /\
 (WE M c (Eu 10) λ Q E D H=>Lz E 0 λ g n=>B3 g (Op.nilCheck [n]) λ g d=>B3 g ((Op.fieldAddr 1) [d]) λ g e=>Fl g 0 e H λ g f=>Ly g E 3 λ g h=>Fl g 4 h H λ g i=>Fl g 3 h H λ g j=>Xs g f i j H λ g u H1=>Ly g E 0 λ g a=>Ly g E 3 λ g b=>B3 g ((Op.au 5) [b] H1) λ g l=>C3 M g (.func jb) [a,l] H1 λ g m H2=>aB g Q .ret ((4,m)::E) D H2):=by (repeat' apply And.intro)<;>(intro _ _ _ _;refine aL ?_;kernel_rfl)
theorem qr0:(ak Tryz.prog).func ko=some PM/\PM.results=[.tmp 4]:=xw (by kernel_rfl)
theorem qr1 (h:W M ⟨none,ko⟩ (Eu 0) true (aU M [.tmp 4] Q) [(0,a0),(1,a1)] [] H):kj M ko [a0,a1] H Q:=aM (by decide) qr0 (ks:=qld) (by kernel_rfl) h
def Nn:aq:=funcAt Tryz.prog km
def qla:Kp:=⟨[0,1,3,4],false,[0,2,10]⟩
def EU (k:Nat):Kp × ab:=(qla,part Nn.body k)
theorem qrw (M:aO) (c:Ctx):(WE M c (EU 0) λ Q E D H=>Lz E 1 λ g a=>A3 g xp (AV.cells a) H λ g b H1=>W M c (EU 2) g Q ((4,(.bool false))::(3,b)::E) D H1) /\
 (WE M c (EU 2) λ Q E D H=>Lz E 0 λ g a=>Nf g 27 a H λ g b=>cB g b (λ g=>aB g (aw (W M c (EU 10)) Q) .ret ((4,(.bool false))::E) D H) (λ g=>Gt g M c (EU 10) Q E D H)) /\
 (WE M c (EU 10) λ Q E D H=>Lz E 0 λ g v=>Ns g 27 v (.bool true) H λ g u H1=>Ly g E 0 λ g d=>Ly g E 3 λ g x=>B3 g ((Op.au 5) [x] H1) λ g e=>C3 M g (.func jb) [d,e] H1 λ g _ H2=>Ly g E 0 λ g a=>B3 g (Op.nilCheck [a]) λ g f=>B3 g ((Op.fieldAddr 1) [f]) λ g h=>B3 g ((Op.au 13) [h] H2) λ g i=>B3 g (Op.nilCheck [a]) λ g j=>B3 g ((Op.fieldAddr 14) [j]) λ g l=>bA g ((Op.store 13) [l,i] H2) λ g u_1 H3=>Ly g E 0 λ g b=>B3 g (Op.nilCheck [b]) λ g m=>B3 g ((Op.fieldAddr 1) [m]) λ g n=>Fl g 0 n H3 λ g p=>C3 M g (.func kx) [p] H3 λ g q H4=>B3 g (Op.nilCheck [b]) λ g r=>B3 g ((Op.fieldAddr 14) [r]) λ g s=>Fs g 0 s q H4 λ g u_2 H5=>aB g Q .ret ((4,(.bool true))::E) D H5):=by (repeat' apply And.intro)<;>(intro _ _ _ _;refine aL ?_;kernel_rfl)
theorem qru:(ak Tryz.prog).func km=some Nn/\Nn.results=[.tmp 4]:=xw (by kernel_rfl)
theorem qrv (h:W M ⟨none,km⟩ (EU 0) true (aU M [.tmp 4] Q) [(0,a0),(1,a1)] [] H):kj M km [a0,a1] H Q:=aM (by decide) qru (ks:=qla) (by kernel_rfl) h
def PL:aq:=funcAt Tryz.prog j7
def qkh:Kp:=⟨[0,1,3,4],false,[0,2,10]⟩
def CO (k:Nat):Kp × ab:=(qkh,part PL.body k)
theorem qqp (M:aO) (c:Ctx):(WE M c (CO 0) λ Q E D H=>Lz E 1 λ g a=>A3 g xp (AV.cells a) H λ g b H1=>W M c (CO 2) g Q ((4,(.bool false))::(3,b)::E) D H1) /\
 (WE M c (CO 2) λ Q E D H=>Lz E 0 λ g a=>Nf g 27 a H λ g b=>B3 g ((Op.un .not) [b]) λ g d=>cB g d (λ g=>aB g (aw (W M c (CO 10)) Q) .ret ((4,(.bool false))::E) D H) (λ g=>Gt g M c (CO 10) Q E D H)) /\
 (WE M c (CO 10) λ Q E D H=>Lz E 0 λ g n=>Ns g 27 n (.bool false) H λ g u H1=>Ly g E 0 λ g a=>B3 g (Op.nilCheck [a]) λ g d=>B3 g ((Op.fieldAddr 1) [d]) λ g e=>Fl g 11 e H1 λ g f=>Bn g .add f (.int .i64 1) λ g h=>B3 g (Op.nilCheck [a]) λ g i=>B3 g ((Op.fieldAddr 1) [i]) λ g j=>Fs g 11 j h H1 λ g u_1 H2=>Ly g E 0 λ g b=>Ly g E 3 λ g p=>B3 g ((Op.au 5) [p] H2) λ g l=>C3 M g (.func jb) [b,l] H2 λ g m H3=>aB g Q .ret ((4,m)::E) D H3):=by (repeat' apply And.intro)<;>(intro _ _ _ _;refine aL ?_;kernel_rfl)
theorem qqn:(ak Tryz.prog).func j7=some PL/\PL.results=[.tmp 4]:=xw (by kernel_rfl)
theorem qqo (h:W M ⟨none,j7⟩ (CO 0) true (aU M [.tmp 4] Q) [(0,a0),(1,a1)] [] H):kj M j7 [a0,a1] H Q:=aM (by decide) qqn (ks:=qkh) (by kernel_rfl) h
def MN:aq:=funcAt Tryz.prog kz
def qmy:Kp:=⟨[0,1,4],false,[0,2,8]⟩
def C8 (k:Nat):Kp × ab:=(qmy,part MN.body k)
theorem qs4 (M:aO) (c:Ctx):(WE M c (C8 0) λ Q E D H=>Lz E 1 λ g a=>A3 g xp (AV.cells a) H λ g _ H1=>W M c (C8 2) g Q ((4,(.bool false))::E) D H1) /\
 (WE M c (C8 2) λ Q E D H=>Lz E 0 λ g b=>Nf g 27 b H λ g d=>B3 g ((Op.un .not) [d]) λ g e=>cB g e (λ g=>Ly g E 0 λ g a=>C3 M g (.func j9) [a,(.int .i64 0)] H λ g _ H1=>Gt g M c (C8 8) Q E D H1) (λ g=>Gt g M c (C8 8) Q E D H)) /\
 (WE M c (C8 8) λ Q E D H=>Lz E 0 λ g d=>Nf g 27 d H λ g a=>B3 g ((Op.un .not) [a]) λ g b=>aB g Q .ret ((4,b)::E) D H):=by (repeat' apply And.intro)<;>(intro _ _ _ _;refine aL ?_;kernel_rfl)
theorem qs2:(ak Tryz.prog).func kz=some MN/\MN.results=[.tmp 4]:=xw (by kernel_rfl)
theorem qs3 (h:W M ⟨none,kz⟩ (C8 0) true (aU M [.tmp 4] Q) [(0,a0),(1,a1)] [] H):kj M kz [a0,a1] H Q:=aM (by decide) qs2 (ks:=qmy) (by kernel_rfl) h
end
end Go.Am
namespace Go.Am
abbrev GX:Nat:=5
abbrev Fm:Nat:=9
abbrev Bj:Nat:=14
noncomputable section
open Go.Proofs Go.Proofs.YtbimikjajohflaaGreatDoor
variable {M:aO} [MK M] {H:AHeap} {Q:bE->AHeap->Prop} {a0 a1 a2 a3 a4:AV}
def Md:aq:=funcAt Tryz.prog GX
def qof:Kp:=⟨[0,1,2,3,4,6,8,10,11,12,13,14,15,16,17,18,19,20,21],false,[0,4,8,16,18,26,34,38,40,48,53,59,68,69]⟩
def xg (k:Nat):Kp × ab:=(qof,part Md.body k)
theorem qvz (M:aO) (c:Ctx):(WE M c (xg 0) λ Q E D H=>Lz E 1 λ g b=>A3 g vN (AV.cells b) H λ g d H1=>Ly g E 3 λ g e=>A3 g cQ (AV.cells e) H1 λ g f H2=>C3 M g (.func qto) [] H2 λ g a H3=>W M c (xg 4) g Q ((11,a)::(10,(.bool false))::(8,f)::(6,d)::E) D H3) /\
 (WE M c (xg 4) λ Q E D H=>Lz E 0 λ g i=>Ly g E 6 λ g j=>B3 g ((Op.au 3) [j] H) λ g b=>C3 M g (.func EK) [i,b] H λ g a H1=>B3 g ((Op.extract 0) [a]) λ g d=>B3 g ((Op.extract 1) [a]) λ g e=>Ly g E 4 λ g l=>B3 g ((Op.wrap .i64) [l]) λ g f=>Bn g .rem f (.int .i64 150) λ g h=>W M c (xg 8) g Q ((14,h)::(13,e)::(12,d)::E) D H1) /\
 (WE M c (xg 8) λ Q E D H=>Lz E 0 λ g N=>C3 M g (.func Fm) [N] H λ g l H1=>JN (λ (k:Bool->AV->AV->AV->AHeap->Prop)=>B3 g (aE false (some l)) λ g w=>c9 g w (λ g=>B3 g (Op.aS [N]) λ g m=>Bn g .gtr m (.int .i64 500) λ g T=>k g T m N H1) (λ g=>k g uu uu uu H1)) (λ g a _ _ H2=>B3 g (Op.pick [l,(.bool true),a]) λ g n=>JN (λ (k:Bool->AV->AV->AHeap->Prop)=>B3 g (aE false (some n)) λ g w=>c9 g w (λ g=>Ly g E 13 λ g p=>Bn g .neq p (.int .i64 0) λ g U=>k g U p H2) (λ g=>k g uu uu H2)) (λ g b _ H3=>B3 g (Op.pick [n,(.bool true),b]) λ g q=>JN (λ (k:Bool->AV->AV->AV->AHeap->Prop)=>B3 g (aE false (some q)) λ g w=>c9 g w (λ g=>Ly g E 6 λ g b1=>B3 g ((Op.fieldAddr 0) [b1]) λ g r=>B3 g (Op.aa [r] H3) λ g s=>Bn g .gtr s (.int .i64 300) λ g V=>k g V s r H3) (λ g=>k g uu uu uu H3)) (λ g d _ _ H4=>B3 g (Op.pick [q,(.bool true),d]) λ g v=>JN (λ (k:Bool->AV->AV->AV->AHeap->Prop)=>B3 g (aE false (some v)) λ g w=>c9 g w (λ g=>Ly g E 6 λ g P=>B3 g ((Op.fieldAddr 1) [P]) λ g x=>B3 g (Op.aa [x] H4) λ g y=>Bn g .gtr y (.int .i64 300) λ g X=>k g X y x H4) (λ g=>k g uu uu uu H4)) (λ g e _ _ H5=>B3 g (Op.pick [v,(.bool true),e]) λ g z=>JN (λ (k:Bool->AV->AV->AV->AHeap->Prop)=>B3 g (aE false (some z)) λ g w=>c9 g w (λ g=>Ly g E 6 λ g R=>B3 g ((Op.fieldAddr 2) [R]) λ g A=>B3 g (Op.aa [A] H5) λ g B=>Bn g .gtr B (.int .i64 300) λ g Y=>k g Y B A H5) (λ g=>k g uu uu uu H5)) (λ g f _ _ H6=>B3 g (Op.pick [z,(.bool true),f]) λ g C=>JN (λ (k:Bool->AV->AV->AV->AV->AV->AHeap->Prop)=>B3 g (aE false (some C)) λ g w=>c9 g w (λ g=>Ly g E 2 λ g Z=>B3 g (Op.aS [Z]) λ g F=>Ly g E 6 λ g S=>B3 g ((Op.fieldAddr 2) [S]) λ g G=>B3 g (Op.aa [G] H6) λ g I=>Bn g .neq F I λ g a8=>k g a8 I G F Z H6) (λ g=>k g uu uu uu uu uu H6)) (λ g h _ _ _ _ H7=>B3 g (Op.pick [C,(.bool true),h]) λ g J=>JN (λ (k:Bool->AV->AV->AHeap->Prop)=>B3 g (aE false (some J)) λ g w=>c9 g w (λ g=>Ly g E 11 λ g L=>B3 g ((Op.un .not) [L]) λ g a9=>k g a9 L H7) (λ g=>k g uu uu H7)) (λ g i _ H8=>B3 g (Op.pick [J,(.bool true),i]) λ g b0=>cB g b0 (λ g=>Ly g E 11 λ g j=>aB g (aw (W M c (xg 16)) Q) .ret ((10,j)::E) D H8) (λ g=>Gt g M c (xg 16) Q E D H8))))))))) /\
 (WE M c (xg 16) λ Q E D H=>Lz E 0 λ g i=>Ly g E 2 λ g j=>Ly g E 8 λ g l=>B3 g ((Op.au 8) [l] H) λ g d=>Ly g E 14 λ g e=>C3 M g (.func ER) [i,j,d,e] H λ g a H1=>B3 g ((Op.extract 0) [a]) λ g f=>B3 g ((Op.extract 1) [a]) λ g h=>A3 g jh [.nils,(.int .u64 0),(.int .u64 0),(.int .u64 0),(.int .u64 0),(.int .u64 0),(.int .u64 0),(.int .u64 0),(.int .u64 0),(.int .i64 0),(.int .i64 0),(.int .i64 0),(.int .i64 0)] H1 λ g b H2=>bA g ((Op.store 13) [b,f] H2) λ g u H3=>W M c (xg 18) g Q ((16,h)::(15,b)::E) D H3) /\
 (WE M c (xg 18) λ Q E D H=>Lz E 16 λ g j=>Bn g .neq j (.int .i64 0) λ g b=>JN (λ (k:Bool->AV->AV->AV->AV->AV->AV->AHeap->Prop)=>B3 g (aE false (some b)) λ g w=>c9 g w (λ g=>Ly g E 15 λ g l=>B3 g ((Op.fieldAddr 0) [l]) λ g d=>B3 g (Op.aa [d] H) λ g e=>B3 g (Op.aS [e]) λ g f=>Ly g E 6 λ g p=>B3 g ((Op.fieldAddr 2) [p]) λ g h=>B3 g (Op.aa [h] H) λ g i=>Bn g .neq f i λ g m=>k g m i h f e d H) (λ g=>k g uu uu uu uu uu uu H)) (λ g a _ _ _ _ _ H1=>B3 g (Op.pick [b,(.bool true),a]) λ g n=>cB g n (λ g=>aB g (aw (W M c (xg 26)) Q) .ret ((10,(.bool false))::E) D H1) (λ g=>Gt g M c (xg 26) Q E D H1))) /\
 (WE M c (xg 26) λ Q E D H=>Lz E 15 λ g a=>Fl g 12 a H λ g b=>Cb g .eql b (.int .i64 190) (λ g=>Ly g E 11 λ g d=>aB g (aw (W M c (xg 34)) Q) .ret ((10,d)::E) D H) (λ g=>Gt g M c (xg 34) Q E D H)) /\
 (WE M c (xg 34) λ Q E D H=>Lz E 6 λ g q=>B3 g ((Op.au 3) [q] H) λ g j=>Ly g E 8 λ g r=>B3 g ((Op.au 8) [r] H) λ g l=>Ly g E 2 λ g s=>C3 M g (.func Bj) [j,l,s] H λ g b H1=>Ly g E 12 λ g m=>B3 g ((Op.build [(.int .u64 0),(.int .u64 0),(.int .u64 0),(.int .u64 0),(.int .u64 0),(.int .u64 0),(.int .u64 0),(.int .u64 0)] []) []) λ g n=>Ly g E 14 λ g p=>Bn g .mul (.int .i64 2000) p λ g e=>Bn g .add e (.int .i64 2000) λ g f=>C3 M g (.func zI) [m,n,(.int .i64 0),b,f] H1 λ g a H2=>B3 g ((Op.extract 0) [a]) λ g h=>B3 g ((Op.extract 1) [a]) λ g i=>A3 g jh [.nils,(.int .u64 0),(.int .u64 0),(.int .u64 0),(.int .u64 0),(.int .u64 0),(.int .u64 0),(.int .u64 0),(.int .u64 0),(.int .i64 0),(.int .i64 0),(.int .i64 0),(.int .i64 0)] H2 λ g d H3=>bA g ((Op.store 13) [d,h] H3) λ g u H4=>W M c (xg 38) g Q ((19,i)::(18,d)::(17,b)::E) D H4) /\
 (WE M c (xg 38) λ Q E D H=>Lz E 6 λ g i=>B3 g ((Op.au 3) [i] H) λ g b=>Ly g E 15 λ g a=>B3 g ((Op.fieldAddr 1) [a]) λ g d=>B3 g ((Op.au 8) [d] H) λ g e=>Fl g 0 a H λ g f=>C3 M g (.func Bj) [b,e,f] H λ g h H1=>W M c (xg 40) g Q ((20,h)::E) D H1) /\
 (WE M c (xg 40) λ Q E D H=>Lz E 19 λ g L=>Bn g .neq L (.int .i64 0) λ g a=>JN (λ (k:Bool->AV->AV->AV->AV->AV->AHeap->Prop)=>B3 g (aE false (some a)) λ g w=>c9 g w (λ g=>Ly g E 18 λ g N=>B3 g ((Op.fieldAddr 12) [N]) λ g b=>B3 g (Op.aa [b] H) λ g d=>Ly g E 15 λ g P=>B3 g ((Op.fieldAddr 12) [P]) λ g e=>B3 g (Op.aa [e] H) λ g f=>Bn g .neq d f λ g F=>k g F f e d b H) (λ g=>k g uu uu uu uu uu H)) (λ g h _ _ _ _ H1=>B3 g (Op.pick [a,(.bool true),h]) λ g i=>JN (λ (k:Bool->AV->AV->AV->AV->AV->AHeap->Prop)=>B3 g (aE false (some i)) λ g w=>c9 g w (λ g=>Ly g E 18 λ g z=>B3 g ((Op.fieldAddr 11) [z]) λ g j=>B3 g (Op.aa [j] H1) λ g l=>Ly g E 15 λ g A=>B3 g ((Op.fieldAddr 11) [A]) λ g m=>B3 g (Op.aa [m] H1) λ g n=>Bn g .neq l n λ g G=>k g G n m l j H1) (λ g=>k g uu uu uu uu uu H1)) (λ g p _ _ _ _ H2=>B3 g (Op.pick [i,(.bool true),p]) λ g q=>JN (λ (k:Bool->AV->AV->AV->AV->AV->AV->AHeap->Prop)=>B3 g (aE false (some q)) λ g w=>c9 g w (λ g=>Ly g E 18 λ g B=>B3 g ((Op.fieldAddr 0) [B]) λ g r=>B3 g (Op.aa [r] H2) λ g s=>B3 g (Op.aS [s]) λ g v=>Ly g E 20 λ g C=>B3 g (Op.aS [C]) λ g x=>Bn g .neq v x λ g I=>k g I x C v s r H2) (λ g=>k g uu uu uu uu uu uu H2)) (λ g y _ _ _ _ _ H3=>B3 g (Op.pick [q,(.bool true),y]) λ g J=>cB g J (λ g=>aB g (aw (W M c (xg 48)) Q) .ret ((10,(.bool false))::E) D H3) (λ g=>Gt g M c (xg 48) Q E D H3))))) /\
 (WE M c (xg 48) λ Q E D H=>bS (W M c (xg 53)) (aR 0 (aw (W M c (xg 69)) Q)) ((21,(.int .i64 0))::E) D H) /\
 (WE M c (xg 69) λ Q E D H=>Lz E 11 λ g a=>aB g Q .ret ((10,a)::E) D H) /\
 (WE M c (xg 53) λ Q E D H=>Lz E 21 λ g b=>Ly g E 20 λ g d=>B3 g (Op.aS [d]) λ g a=>Cb g .lss b a (λ g=>Gt g M c (xg 59) Q E D H) (λ g=>aB g (aw (W M c (xg 59)) Q) (.exit 0) E D H)) /\
 (WE M c (xg 59) λ Q E D H=>Lz E 18 λ g f=>Fl g 0 f H λ g b=>Ly g E 21 λ g a=>Xl g b a H λ g d=>Ly g E 20 λ g h=>Xl g h a H λ g e=>Cb g .neq d e (λ g=>aB g (aR 1 (aw (W M c (xg 68)) Q)) .ret ((10,(.bool false))::E) D H) (λ g=>aB g (aR 1 (aw (W M c (xg 68)) Q)) .normal E D H)) /\
 (WE M c (xg 68) λ Q E D H=>Lz E 21 λ g b=>Bn g .add b (.int .i64 1) λ g a=>aB g Q .normal ((21,a)::E) D H):=by (repeat' apply And.intro)<;>(intro _ _ _ _;refine aL ?_;kernel_rfl)
theorem qvx:(ak Tryz.prog).func GX=some Md/\Md.results=[.tmp 10]:=xw (by kernel_rfl)
theorem qvy (h:W M ⟨none,GX⟩ (xg 0) true (aU M [.tmp 10] Q) [(0,a0),(1,a1),(2,a2),(3,a3),(4,a4)] [] H):kj M GX [a0,a1,a2,a3,a4] H Q:=aM (by decide) qvx (ks:=qof) (by kernel_rfl) h
def Ok:aq:=funcAt Tryz.prog Fm
def quc:Kp:=⟨[0,2,3,4],false,[0,4,9,15,18,19]⟩
def qT (k:Nat):Kp × ab:=(quc,part Ok.body k)
theorem q23 (M:aO) (c:Ctx):(WE M c (qT 0) λ Q E D H=>W M c (qT 4) true Q ((3,(.int .i64 0))::(2,(.bool false))::E) D H) /\
 (WE M c (qT 4) λ Q E D H=>bS (W M c (qT 9)) (aR 0 (aw (W M c (qT 19)) Q)) ((4,(.int .i64 0))::E) D H) /\
 (WE M c (qT 19) λ Q E D H=>Lz E 3 λ g b=>Bn g .gtr b (.int .i64 1000) λ g a=>aB g Q .ret ((2,a)::E) D H) /\
 (WE M c (qT 9) λ Q E D H=>Lz E 4 λ g a=>Ly g E 0 λ g b=>B3 g (Op.aS [b]) λ g d=>Cb g .lss a d (λ g=>Gt g M c (qT 15) Q E D H) (λ g=>aB g (aw (W M c (qT 15)) Q) (.exit 0) E D H)) /\
 (WE M c (qT 15) λ Q E D H=>Lz E 3 λ g h=>Bn g .add h (.int .i64 1) λ g a=>Ly g E 0 λ g i=>Ly g E 4 λ g j=>B3 g ((Op.aJ 3) [i,j]) λ g b=>Fl g 2 b H λ g d=>B3 g (Op.aS [d]) λ g e=>Bn g .add a e λ g f=>aB g (aR 1 (aw (W M c (qT 18)) Q)) .normal ((3,f)::E) D H) /\
 (WE M c (qT 18) λ Q E D H=>Lz E 4 λ g b=>Bn g .add b (.int .i64 1) λ g a=>aB g Q .normal ((4,a)::E) D H):=by (repeat' apply And.intro)<;>(intro _ _ _ _;refine aL ?_;kernel_rfl)
theorem q21:(ak Tryz.prog).func Fm=some Ok/\Ok.results=[.tmp 2]:=xw (by kernel_rfl)
theorem q22 (h:W M ⟨none,Fm⟩ (qT 0) true (aU M [.tmp 2] Q) [(0,a0)] [] H):kj M Fm [a0] H Q:=aM (by decide) q21 (ks:=quc) (by kernel_rfl) h
def N8:aq:=funcAt Tryz.prog Bj
def qw1:Kp:=⟨[0,1,2,3,4,6,7,8,9,10,11],false,[0,4,6,11,17,20,21,26,32,35,36,41,47,50,51]⟩
def zj (k:Nat):Kp × ab:=(qw1,part N8.body k)
theorem q5f (M:aO) (c:Ctx):(WE M c (zj 0) λ Q E D H=>Lz E 0 λ g j=>A3 g vN (AV.cells j) H λ g a H1=>Ly g E 1 λ g l=>A3 g cQ (AV.cells l) H1 λ g m H2=>Fl g 0 a H2 λ g b=>Bn g .add b (.int .i64 8) λ g d=>Fl g 1 a H2 λ g e=>Fl g 2 a H2 λ g f=>Bn g .add e f λ g h=>B3 g ((Op.fy true) [d,h]) λ g i=>W M c (zj 4) g Q ((7,i)::(6,.nils)::(4,m)::(3,a)::E) D H2) /\
 (WE M c (zj 4) λ Q E D H=>Lz E 7 λ g a=>bA g ((Op.mkSlice vq 8 [(.int .u64 0)]) [a,a]) λ g o1 k1=>W M c (zj 6) g Q ((8,(k1 H.next))::E) D (H.alloc o1)) /\
 (WE M c (zj 6) λ Q E D H=>bS (W M c (zj 11)) (aR 0 (aw (W M c (zj 21)) Q)) ((9,(.int .i64 0))::E) D H) /\
 (WE M c (zj 21) λ Q E D H=>bS (W M c (zj 26)) (aR 2 (aw (W M c (zj 36)) Q)) ((10,(.int .i64 0))::E) D H) /\
 (WE M c (zj 11) λ Q E D H=>Lz E 9 λ g a=>Ly g E 7 λ g b=>Cb g .lss a b (λ g=>Gt g M c (zj 17) Q E D H) (λ g=>aB g (aw (W M c (zj 17)) Q) (.exit 0) E D H)) /\
 (WE M c (zj 36) λ Q E D H=>bS (W M c (zj 41)) (aR 4 (aw (W M c (zj 51)) Q)) ((11,(.int .i64 0))::E) D H) /\
 (WE M c (zj 26) λ Q E D H=>Lz E 10 λ g a=>Cb g .lss a (.int .i64 8) (λ g=>Gt g M c (zj 32) Q E D H) (λ g=>aB g (aw (W M c (zj 32)) Q) (.exit 2) E D H)) /\
 (WE M c (zj 17) λ Q E D H=>Lz E 8 λ g f=>Ly g E 9 λ g a=>B3 g ((Op.wrap .u64) [a]) λ g b=>Bn g .mul b (.int .u64 7) λ g d=>Bn g .add d (.int .u64 1) λ g e=>Xs g f a e H λ g u H1=>aB g (aR 1 (aw (W M c (zj 20)) Q)) .normal E D H1) /\
 (WE M c (zj 51) λ Q E D H=>Lz E 8 λ g a=>aB g Q .ret ((6,a)::E) D H) /\
 (WE M c (zj 41) λ Q E D H=>Lz E 11 λ g a=>Ly g E 3 λ g d=>Fl g 2 d H λ g b=>Cb g .lss a b (λ g=>Gt g M c (zj 47) Q E D H) (λ g=>aB g (aw (W M c (zj 47)) Q) (.exit 4) E D H)) /\
 (WE M c (zj 32) λ Q E D H=>Lz E 8 λ g h=>Ly g E 3 λ g i=>Fl g 0 i H λ g b=>Ly g E 10 λ g a=>Bn g .add b a λ g d=>Ly g E 4 λ g j=>B3 g ((Op.bp 8 1) [j,a]) λ g e=>B3 g (Op.aa [e] H) λ g f=>Xs g h d f H λ g u H1=>aB g (aR 3 (aw (W M c (zj 35)) Q)) .normal E D H1) /\
 (WE M c (zj 20) λ Q E D H=>Lz E 9 λ g b=>Bn g .add b (.int .i64 1) λ g a=>aB g Q .normal ((9,a)::E) D H) /\
 (WE M c (zj 47) λ Q E D H=>Lz E 8 λ g f=>Ly g E 3 λ g h=>Fl g 1 h H λ g b=>Ly g E 11 λ g a=>Bn g .add b a λ g d=>Ly g E 2 λ g i=>Xl g i a H λ g e=>Xs g f d e H λ g u H1=>aB g (aR 5 (aw (W M c (zj 50)) Q)) .normal E D H1) /\
 (WE M c (zj 35) λ Q E D H=>Lz E 10 λ g a=>Bn g .add a (.int .i64 1) λ g b=>aB g Q .normal ((10,b)::E) D H) /\
 (WE M c (zj 50) λ Q E D H=>Lz E 11 λ g a=>Bn g .add a (.int .i64 1) λ g b=>aB g Q .normal ((11,b)::E) D H):=by (repeat' apply And.intro)<;>(intro _ _ _ _;refine aL ?_;kernel_rfl)
theorem q5d:(ak Tryz.prog).func Bj=some N8/\N8.results=[.tmp 6]:=xw (by kernel_rfl)
theorem q5e (h:W M ⟨none,Bj⟩ (zj 0) true (aU M [.tmp 6] Q) [(0,a0),(1,a1),(2,a2)] [] H):kj M Bj [a0,a1,a2] H Q:=aM (by decide) q5d (ks:=qw1) (by kernel_rfl) h
end
end Go.Am
