/- CodeQ: CodeS CodeLA CodeLB CodePN. -/
import Derived.Test.YtbimikjajohflaaDoorAmQB4
import Derived.Test.YtbimikjajohflaaDoorAmQB1
import Derived.KernelRfl
import Derived.Test.YtbimikjajohflaaDoorRows
set_option linter.unusedVariables false
set_option maxRecDepth 100000
namespace Go.Am
abbrev qcq:Nat:=9
abbrev qae:Nat:=5
abbrev yu:Nat:=1
noncomputable section
open Go.Proofs Go.Proofs.YtbimikjajohflaaDoor
class MK (M:Mac):Prop where
 ok:∀ n,memN n [20,30]=false->M.func n=(cProg Tryd.prog).func n
theorem MK.at {M:Mac} [h:MK M] {n:Nat} {F:AFunc} (hn:memN n [20,30]=false) (hF:(cProg Tryd.prog).func n=some F):M.func n=some F:=(h.ok n hn).trans hF
theorem callf {M:Mac} [h:MK M] {n:Nat} {F:AFunc} (hn:memN n [20,30]=false) {rs:List ARes} (hF:(cProg Tryd.prog).func n=some F/\F.results=rs) {ks:Kp} {vs:List AV} (hk:keepB 0 vs.length ks.keep=true) {H:AHeap} {Q:AEnd->AHeap->Prop} (hw:W M ⟨none,n⟩ (ks,part F.body 0) true (FIN3 M rs Q) (envA 0 vs) [] H):wu M n vs H Q:=calle (MK.at hn hF.1) hk (hF.2 ▸ hw)
variable {M:Mac} [MK M] {H:AHeap} {Q:AEnd->AHeap->Prop} {a0 a1:AV}
end
end Go.Am
namespace Go.Am
abbrev j5:Nat:=125
abbrev qel:Nat:=129
abbrev vp:Nat:=96
abbrev qdn:Nat:=58
abbrev T_bool:Nat:=4
abbrev T_int:Nat:=3
abbrev qq1:Nat:=80
noncomputable section
open Go.Proofs Go.Proofs.YtbimikjajohflaaDoor
variable {M:Mac} [MK M] {H:AHeap} {Q:AEnd->AHeap->Prop} {a0 a1 a2:AV}
def qdl:AFunc:=funcAt Tryd.prog vp
def qgf:Kp:=⟨[0,1,4],false,[0]⟩
def qgg (k:Nat):Kp × ACode:=(qgf,part qdl.body k)
theorem qkh (M:Mac) (c:Ctx):(∀ Q E D H,W M c (qgg 0) true Q E D H =
 Lz E 0 fun g t0=>Ly g E 1 fun g t1=>C3 M g (.func j5) [t0,t1] H fun g t7 H1=>GO3 g Q .ret ((4,t7)::(4,(.bool false))::E) D H1):=by intro _ _ _ _;refine W_unf ?_;kernel_rfl
theorem qkf:(cProg Tryd.prog).func vp=some qdl/\qdl.results=[.tmp 4]:=zz (by kernel_rfl)
theorem qkg (h:W M ⟨none,vp⟩ (qgg 0) true (FIN3 M [.tmp 4] Q) [(0,a0),(1,a1)] [] H):wu M vp [a0,a1] H Q:=callf (by decide) qkf (ks:=qgf) (by kernel_rfl) h
def vj:AFunc:=funcAt Tryd.prog j5
def qbc:Kp:=⟨[0,1,4],false,[0]⟩
def qbd (k:Nat):Kp × ACode:=(qbc,part vj.body k)
theorem qbe (M:Mac) (c:Ctx):(∀ Q E D H,W M c (qbd 0) true Q E D H =
 Lz E 0 fun g t0=>B3 g (Op.lenStr [t0]) fun g t6=>Ly g E 1 fun g t1=>B3 g (Op.lenStr [t1]) fun g t8=>Bn g .geq t6 t8 fun g t9=>JN (fun (k:Bool->AV->AV->AV->AV->AV->AV->AHeap->Prop)=>B3 g (wantV true (some t9)) fun g w=>IG3 g w (fun g=>B3 g (Op.lenStr [t1]) fun g t13=>B3 g ((Op.sliceStr [none,(some 0)]) [t0,t13]) fun g t14=>Bn g .eql t14 t1 fun g t16=>k g t16 t1 t14 t13 t1 t0 H) (fun g=>k g uu uu uu uu uu uu H)) (fun g t16_1 t15_1 t14_1 t13_1 t12_1 t11_1 H1=>B3 g (Op.pick [t9,t16_1,(.bool false)]) fun g t17=>GO3 g Q .ret ((4,t17)::(4,(.bool false))::E) D H1)):=by intro _ _ _ _;refine W_unf ?_;kernel_rfl
theorem qef:(cProg Tryd.prog).func j5=some vj/\vj.results=[.tmp 4]:=zz (by kernel_rfl)
theorem qeg (h:W M ⟨none,j5⟩ (qbd 0) true (FIN3 M [.tmp 4] Q) [(0,a0),(1,a1)] [] H):wu M j5 [a0,a1] H Q:=callf (by decide) qef (ks:=qbc) (by kernel_rfl) h
def qjw:AFunc:=funcAt Tryd.prog qel
def qop:Kp:=⟨[0,2,3,4],false,[0,2,18,30,42,49]⟩
def vb (k:Nat):Kp × ACode:=(qop,part qjw.body k)
theorem qch (M:Mac) (c:Ctx):(∀ Q E D H,W M c (vb 0) true Q E D H =
 W M c (vb 2) true Q ((3,(.int .i64 0))::(2,(.int .i64 0))::E) D H) /\
 (∀ Q E D H,W M c (vb 2) true Q E D H =
  Lz E 0 fun g t0=>Cb g .eql t0 (.str [43]) (fun g=>GO3 g (BLK3 0 (SEQ3 (W M c (vb 49)) Q)) .ret ((3,(.int .i64 1))::(2,(.int .i64 4))::(4,t0)::E) D H) (fun g=>Cb g .eql t0 (.str [45]) (fun g=>GO3 g (BLK3 0 (SEQ3 (W M c (vb 49)) Q)) .ret ((3,(.int .i64 1))::(2,(.int .i64 5))::(4,t0)::E) D H) (fun g=>W M c (vb 18) g (BLK3 0 (SEQ3 (W M c (vb 49)) Q)) ((4,t0)::E) D H))) /\
 (∀ Q E D H,W M c (vb 49) true Q E D H =
  GO3 true Q .ret ((3,(.int .i64 0))::(2,(.int .i64 0))::E) D H) /\
 (∀ Q E D H,W M c (vb 18) true Q E D H =
  Lz E 4 fun g t4=>Cb g .eql t4 (.str [94]) (fun g=>GO3 g Q .ret ((3,(.int .i64 1))::(2,(.int .i64 8))::E) D H) (fun g=>Ly g E 4 fun g t4_1=>Cb g .eql t4_1 (.str [42]) (fun g=>GO3 g Q .ret ((3,(.int .i64 2))::(2,(.int .i64 6))::E) D H) (fun g=>W M c (vb 30) g Q E D H))) /\
 (∀ Q E D H,W M c (vb 30) true Q E D H =
  Lz E 4 fun g t4=>Cb g .eql t4 (.str [38]) (fun g=>GO3 g Q .ret ((3,(.int .i64 2))::(2,(.int .i64 7))::E) D H) (fun g=>Ly g E 4 fun g t4_1=>Cb g .eql t4_1 (.str [60,60]) (fun g=>GO3 g Q .ret ((3,(.int .i64 2))::(2,(.int .i64 9))::E) D H) (fun g=>W M c (vb 42) g Q E D H))) /\
 (∀ Q E D H,W M c (vb 42) true Q E D H =
  Lz E 4 fun g t4=>Cb g .eql t4 (.str [62,62]) (fun g=>GO3 g Q .ret ((3,(.int .i64 2))::(2,(.int .i64 10))::E) D H) (fun g=>GO3 g Q .normal E D H)):=by (repeat' apply And.intro)<;>(intro _ _ _ _;refine W_unf ?_;kernel_rfl)
theorem quw:(cProg Tryd.prog).func qel=some qjw/\qjw.results=[.tmp 2,.tmp 3]:=zz (by kernel_rfl)
theorem qux (h:W M ⟨none,qel⟩ (vb 0) true (FIN3 M [.tmp 2,.tmp 3] Q) [(0,a0)] [] H):wu M qel [a0] H Q:=callf (by decide) quw (ks:=qop) (by kernel_rfl) h
end
end Go.Am
namespace Go.Am
abbrev qbp:Nat:=17
noncomputable section
open Go.Proofs Go.Proofs.YtbimikjajohflaaDoor
variable {M:Mac} [MK M] {H:AHeap} {Q:AEnd->AHeap->Prop} {a0 a1 a2:AV}
def qis:AFunc:=funcAt Tryd.prog qbp
def qm5:Kp:=⟨[0,1,4,5,6],false,[0,2,10,15,21,31,35,41,50,51,52]⟩
def zp (k:Nat):Kp × ACode:=(qm5,part qis.body k)
theorem qty (M:Mac) (c:Ctx):(∀ Q E D H,W M c (zp 0) true Q E D H =
 W M c (zp 2) true Q ((4,(.bool false))::E) D H) /\
 (∀ Q E D H,W M c (zp 2) true Q E D H =
  Lz E 0 fun g t0=>B3 g (Op.lenSl [t0]) fun g t8=>Ly g E 1 fun g t1=>B3 g (Op.lenSl [t1]) fun g t10=>Cb g .neq t8 t10 (fun g=>GO3 g (SEQ3 (W M c (zp 10)) Q) .ret ((4,(.bool false))::E) D H) (fun g=>Gt g M c (zp 10) Q E D H)) /\
 (∀ Q E D H,W M c (zp 10) true Q E D H =
  LOOP3 (W M c (zp 15)) (BLK3 0 (SEQ3 (W M c (zp 52)) Q)) ((5,(.int .i64 0))::E) D H) /\
 (∀ Q E D H,W M c (zp 52) true Q E D H =
  GO3 true Q .ret ((4,(.bool true))::E) D H) /\
 (∀ Q E D H,W M c (zp 15) true Q E D H =
  Lz E 5 fun g t5=>Ly g E 0 fun g t0=>B3 g (Op.lenSl [t0]) fun g t14=>Cb g .lss t5 t14 (fun g=>Gt g M c (zp 21) Q E D H) (fun g=>GO3 g (SEQ3 (W M c (zp 21)) Q) (.exit 0) E D H)) /\
 (∀ Q E D H,W M c (zp 21) true Q E D H =
  Lz E 0 fun g t0=>Ly g E 5 fun g t5=>B3 g ((Op.indexSl 3) [t0,t5]) fun g t20=>Fl g 0 t20 H fun g t22=>Ly g E 1 fun g t1=>B3 g ((Op.indexSl 3) [t1,t5]) fun g t25=>Fl g 0 t25 H fun g t27=>Bn g .neq t22 t27 fun g t28=>JN (fun (k:Bool->AV->AV->AV->AV->AV->AV->AV->AV->AV->AV->AV->AHeap->Prop)=>B3 g (wantV false (some t28)) fun g w=>IG3 g w (fun g=>B3 g ((Op.indexSl 3) [t0,t5]) fun g t32=>B3 g ((Op.fieldAddr 1) [t32]) fun g t33=>B3 g (Op.load1 [t33] H) fun g t34=>B3 g ((Op.indexSl 3) [t1,t5]) fun g t37=>B3 g ((Op.fieldAddr 1) [t37]) fun g t38=>B3 g (Op.load1 [t38] H) fun g t39=>Bn g .neq t34 t39 fun g t40=>k g t40 t39 t38 t37 t5 t1 t34 t33 t32 t5 t0 H) (fun g=>k g uu uu uu uu uu uu uu uu uu uu uu H)) (fun g t40_1 t39_1 t38_1 t37_1 t36_1 t35_1 t34_1 t33_1 t32_1 t31_1 t30_1 H1=>B3 g (Op.pick [t28,(.bool true),t40_1]) fun g t41=>JN (fun (k:Bool->AV->AV->AV->AV->AV->AV->AV->AV->AV->AV->AV->AV->AV->AHeap->Prop)=>B3 g (wantV false (some t41)) fun g w=>IG3 g w (fun g=>B3 g ((Op.indexSl 3) [t0,t5]) fun g t45=>B3 g ((Op.fieldAddr 2) [t45]) fun g t46=>B3 g (Op.load1 [t46] H1) fun g t47=>B3 g (Op.lenSl [t47]) fun g t48=>B3 g ((Op.indexSl 3) [t1,t5]) fun g t51=>B3 g ((Op.fieldAddr 2) [t51]) fun g t52=>B3 g (Op.load1 [t52] H1) fun g t53=>B3 g (Op.lenSl [t53]) fun g t54=>Bn g .neq t48 t54 fun g t55=>k g t55 t54 t53 t52 t51 t5 t1 t48 t47 t46 t45 t5 t0 H1) (fun g=>k g uu uu uu uu uu uu uu uu uu uu uu uu uu H1)) (fun g t55_1 t54_1 t53_1 t52_1 t51_1 t50_1 t49_1 t48_1 t47_1 t46_1 t45_1 t44_1 t43_1 H2=>B3 g (Op.pick [t41,(.bool true),t55_1]) fun g t56=>IF3 g t56 (fun g=>GO3 g (SEQ3 (W M c (zp 31)) (BLK3 1 (SEQ3 (W M c (zp 51)) Q))) .ret ((4,(.bool false))::E) D H2) (fun g=>Gt g M c (zp 31) (BLK3 1 (SEQ3 (W M c (zp 51)) Q)) E D H2)))) /\
 (∀ Q E D H,W M c (zp 51) true Q E D H =
  Lz E 5 fun g t5=>Bn g .add t5 (.int .i64 1) fun g t17=>GO3 g Q .normal ((5,t17)::E) D H) /\
 (∀ Q E D H,W M c (zp 31) true Q E D H =
  LOOP3 (W M c (zp 35)) (BLK3 2 Q) ((6,(.int .i64 0))::E) D H) /\
 (∀ Q E D H,W M c (zp 35) true Q E D H =
  Lz E 6 fun g t6=>Ly g E 0 fun g t0=>Ly g E 5 fun g t5=>B3 g ((Op.indexSl 3) [t0,t5]) fun g t60=>Fl g 2 t60 H fun g t62=>B3 g (Op.lenSl [t62]) fun g t63=>Cb g .lss t6 t63 (fun g=>Gt g M c (zp 41) Q E D H) (fun g=>GO3 g (SEQ3 (W M c (zp 41)) Q) (.exit 2) E D H)) /\
 (∀ Q E D H,W M c (zp 41) true Q E D H =
  Lz E 0 fun g t0=>Ly g E 5 fun g t5=>B3 g ((Op.indexSl 3) [t0,t5]) fun g t69=>Fl g 2 t69 H fun g t71=>Ly g E 6 fun g t6=>Xl g t71 t6 H fun g t74=>Ly g E 1 fun g t1=>B3 g ((Op.indexSl 3) [t1,t5]) fun g t77=>Fl g 2 t77 H fun g t79=>Xl g t79 t6 H fun g t82=>Cb g .neq t74 t82 (fun g=>GO3 g (BLK3 3 (SEQ3 (W M c (zp 50)) Q)) .ret ((4,(.bool false))::E) D H) (fun g=>GO3 g (BLK3 3 (SEQ3 (W M c (zp 50)) Q)) .normal E D H)) /\
 (∀ Q E D H,W M c (zp 50) true Q E D H =
  Lz E 6 fun g t6=>Bn g .add t6 (.int .i64 1) fun g t66=>GO3 g Q .normal ((6,t66)::E) D H):=by (repeat' apply And.intro)<;>(intro _ _ _ _;refine W_unf ?_;kernel_rfl)
theorem qtw:(cProg Tryd.prog).func qbp=some qis/\qis.results=[.tmp 4]:=zz (by kernel_rfl)
theorem qtx (h:W M ⟨none,qbp⟩ (zp 0) true (FIN3 M [.tmp 4] Q) [(0,a0),(1,a1)] [] H):wu M qbp [a0,a1] H Q:=callf (by decide) qtw (ks:=qm5) (by kernel_rfl) h
end
end Go.Am
namespace Go.Am
abbrev zw:Nat:=150
abbrev zu:Nat:=154
abbrev qek:Nat:=155
abbrev jp:Nat:=160
abbrev vo:Nat:=143
abbrev qjq:Nat:=158
abbrev qie:Nat:=159
abbrev vg:Nat:=157
abbrev yv:Nat:=156
abbrev qap:Nat:=151
abbrev xj:Nat:=179
abbrev qah:Nat:=181
abbrev qgj:Nat:=188
abbrev yj:Nat:=5
abbrev ky:Nat:=4
noncomputable section
open Go.Proofs Go.Proofs.YtbimikjajohflaaDoor
def ifT (P:Program) (u:Nat):Option EqTree:=(P.info? u).bind fun i=>if i.comparable then treeT P 20 u else none
variable {M:Mac} [MK M] {H:AHeap} {Q:AEnd->AHeap->Prop} {a0 a1 a2 a3 a4:AV}
def qdk:AFunc:=funcAt Tryd.prog vo
def qge:Kp:=⟨[0,1,2,6,7,8,9],false,[0,4,12]⟩
def yq (k:Nat):Kp × ACode:=(qge,part qdk.body k)
theorem qbz (M:Mac) (c:Ctx):(∀ Q E D H,W M c (yq 0) true Q E D H =
 Lz E 0 fun g t0=>Ly g E 1 fun g t1=>Ly g E 2 fun g t2=>C3 M g (.func zw) [t0,t1,t2] H fun g t14 H1=>B3 g ((Op.extract 0) [t14]) fun g t15=>B3 g ((Op.extract 1) [t14]) fun g t16=>W M c (yq 4) g Q ((9,t16)::(8,t15)::(7,.nili)::(6,(.int .u64 0))::E) D H1) /\
 (∀ Q E D H,W M c (yq 4) true Q E D H =
  Lz E 9 fun g t9=>B3 g ((Op.eq .iface true) [t9,.nili] H) fun g t18=>IF3 g t18 (fun g=>Ly g E 8 fun g t8=>Ly g E 0 fun g t0=>Ly g E 1 fun g t1=>Ly g E 2 fun g t2=>Ly g E 9 fun g t9_1=>C3 M g (.func qap) [(.str [80,97,114,115,101,85,105,110,116]),t0,t1,t2,t9_1] H fun g t24 H1=>GO3 g (SEQ3 (W M c (yq 12)) Q) .ret ((7,t24)::(6,t8)::E) D H1) (fun g=>Gt g M c (yq 12) Q E D H)) /\
 (∀ Q E D H,W M c (yq 12) true Q E D H =
  Lz E 8 fun g t8=>GO3 g Q .ret ((7,.nili)::(6,t8)::E) D H):=by (repeat' apply And.intro)<;>(intro _ _ _ _;refine W_unf ?_;kernel_rfl)
theorem qkd:(cProg Tryd.prog).func vo=some qdk/\qdk.results=[.tmp 6,.tmp 7]:=zz (by kernel_rfl)
theorem qke (h:W M ⟨none,vo⟩ (yq 0) true (FIN3 M [.tmp 6,.tmp 7] Q) [(0,a0),(1,a1),(2,a2)] [] H):wu M vo [a0,a1,a2] H Q:=callf (by decide) qkd (ks:=qge) (by kernel_rfl) h
def qak:AFunc:=funcAt Tryd.prog zw
def qb7:Kp:=⟨[0,1,2,6,7,8,9,10,11,12,13,15,16,17,85,99,100,101],false,[0,2,10,14,23,35,54,66,68,81,85,87,92,98,104,116,123,131,139,143,151,152,153,161]⟩
def qd (k:Nat):Kp × ACode:=(qb7,part qak.body k)
theorem qfl (M:Mac) (c:Ctx):(∀ Q E D H,W M c (qd 0) true Q E D H =
 W M c (qd 2) true Q ((7,.nili)::(6,(.int .u64 0))::E) D H) /\
 (∀ Q E D H,W M c (qd 2) true Q E D H =
  Lz E 0 fun g t0=>Cb g .eql t0 (.str []) (fun g=>B3 g ((Op.mkIface xj) [(.int .i64 2)]) fun g t20=>GO3 g (SEQ3 (W M c (qd 10)) Q) .ret ((7,t20)::(6,(.int .u64 0))::E) D H) (fun g=>Gt g M c (qd 10) Q E D H)) /\
 (∀ Q E D H,W M c (qd 10) true Q E D H =
  Lz E 1 fun g t1=>Bn g .eql t1 (.int .i64 0) fun g t22=>Ly g E 0 fun g t0=>W M c (qd 14) g Q ((9,t0)::(8,t22)::E) D H) /\
 (∀ Q E D H,W M c (qd 14) true Q E D H =
  Lz E 1 fun g t1=>Bn g .leq (.int .i64 2) t1 fun g t27=>JN (fun (k:Bool->AV->AV->AHeap->Prop)=>B3 g (wantV true (some t27)) fun g w=>IG3 g w (fun g=>Bn g .leq t1 (.int .i64 36) fun g t30=>k g t30 t1 H) (fun g=>k g uu uu H)) (fun g t30_1 t29_1 H1=>B3 g (Op.pick [t27,t30_1,(.bool false)]) fun g t31=>IF3 g t31 (fun g=>GO3 g (BLK3 0 (SEQ3 (W M c (qd 54)) Q)) .normal E D H1) (fun g=>Ly g E 1 fun g t1_1=>Cb g .eql t1_1 (.int .i64 0) (fun g=>W M c (qd 23) g (BLK3 0 (SEQ3 (W M c (qd 54)) Q)) E D H1) (fun g=>B3 g ((Op.mkIface xj) [(.int .i64 3)]) fun g t24=>GO3 g (BLK3 0 (SEQ3 (W M c (qd 54)) Q)) .ret ((7,t24)::(6,(.int .u64 0))::E) D H1)))) /\
 (∀ Q E D H,W M c (qd 54) true Q E D H =
  Lz E 2 fun g t2=>Cb g .eql t2 (.int .i64 0) (fun g=>Gt g M c (qd 66) Q ((2,(.int .i64 64))::E) D H) (fun g=>Ly g E 2 fun g t2_1=>Bn g .lss t2_1 (.int .i64 0) fun g t79=>JN (fun (k:Bool->AV->AV->AHeap->Prop)=>B3 g (wantV false (some t79)) fun g w=>IG3 g w (fun g=>Bn g .gtr t2_1 (.int .i64 64) fun g t82=>k g t82 t2_1 H) (fun g=>k g uu uu H)) (fun g t82_1 t81_1 H1=>B3 g (Op.pick [t79,(.bool true),t82_1]) fun g t83=>IF3 g t83 (fun g=>B3 g ((Op.mkIface xj) [(.int .i64 4)]) fun g t84=>GO3 g (SEQ3 (W M c (qd 66)) Q) .ret ((7,t84)::(6,(.int .u64 0))::E) D H1) (fun g=>Gt g M c (qd 66) Q E D H1)))) /\
 (∀ Q E D H,W M c (qd 23) true Q E D H =
  Lz E 0 fun g t0=>B3 g (Op.indexStr [t0,(.int .i64 0)]) fun g t36=>Cb g .eql t36 (.int .u8 48) (fun g=>Ly g E 0 fun g t0_1=>B3 g (Op.lenStr [t0_1]) fun g t42=>Bn g .geq t42 (.int .i64 3) fun g t43=>JN (fun (k:Bool->AV->AV->AV->AV->AHeap->Prop)=>B3 g (wantV true (some t43)) fun g w=>IG3 g w (fun g=>B3 g (Op.indexStr [t0_1,(.int .i64 1)]) fun g t46=>C3 M g (.func zu) [t46] H fun g t47 H1=>Bn g .eql t47 (.int .u8 98) fun g t48=>k g t48 t47 t46 t0_1 H1) (fun g=>k g uu uu uu uu H)) (fun g t48_1 t47_1 t46_1 t45_1 H2=>B3 g (Op.pick [t43,t48_1,(.bool false)]) fun g t49=>IF3 g t49 (fun g=>Ly g E 0 fun g t0_2=>B3 g ((Op.sliceStr [(some 0),none]) [t0_2,(.int .i64 2)]) fun g t51=>GO3 g (BLK3 1 Q) .normal ((0,t51)::(1,(.int .i64 2))::(1,(.int .i64 10))::E) D H2) (fun g=>W M c (qd 35) g (BLK3 1 Q) ((1,(.int .i64 10))::E) D H2))) (fun g=>GO3 g Q .normal ((1,(.int .i64 10))::E) D H)) /\
 (∀ Q E D H,W M c (qd 66) true Q E D H =
  W M c (qd 68) true Q ((10,(.int .u64 0))::E) D H) /\
 (∀ Q E D H,W M c (qd 35) true Q E D H =
  Lz E 0 fun g t0=>B3 g (Op.lenStr [t0]) fun g t54=>Bn g .geq t54 (.int .i64 3) fun g t55=>JN (fun (k:Bool->AV->AV->AV->AV->AHeap->Prop)=>B3 g (wantV true (some t55)) fun g w=>IG3 g w (fun g=>B3 g (Op.indexStr [t0,(.int .i64 1)]) fun g t58=>C3 M g (.func zu) [t58] H fun g t59 H1=>Bn g .eql t59 (.int .u8 111) fun g t60=>k g t60 t59 t58 t0 H1) (fun g=>k g uu uu uu uu H)) (fun g t60_1 t59_1 t58_1 t57_1 H2=>B3 g (Op.pick [t55,t60_1,(.bool false)]) fun g t61=>IF3 g t61 (fun g=>Ly g E 0 fun g t0_1=>B3 g ((Op.sliceStr [(some 0),none]) [t0_1,(.int .i64 2)]) fun g t63=>GO3 g Q .normal ((0,t63)::(1,(.int .i64 8))::E) D H2) (fun g=>Ly g E 0 fun g t0_1=>B3 g (Op.lenStr [t0_1]) fun g t66=>Bn g .geq t66 (.int .i64 3) fun g t67=>JN (fun (k:Bool->AV->AV->AV->AV->AHeap->Prop)=>B3 g (wantV true (some t67)) fun g w=>IG3 g w (fun g=>B3 g (Op.indexStr [t0_1,(.int .i64 1)]) fun g t70=>C3 M g (.func zu) [t70] H2 fun g t71 H3=>Bn g .eql t71 (.int .u8 120) fun g t72=>k g t72 t71 t70 t0_1 H3) (fun g=>k g uu uu uu uu H2)) (fun g t72_1 t71_1 t70_1 t69_1 H4=>B3 g (Op.pick [t67,t72_1,(.bool false)]) fun g t73=>IF3 g t73 (fun g=>Ly g E 0 fun g t0_2=>B3 g ((Op.sliceStr [(some 0),none]) [t0_2,(.int .i64 2)]) fun g t75=>GO3 g Q .normal ((0,t75)::(1,(.int .i64 16))::E) D H4) (fun g=>Ly g E 0 fun g t0_2=>B3 g ((Op.sliceStr [(some 0),none]) [t0_2,(.int .i64 1)]) fun g t39=>GO3 g Q .normal ((0,t39)::(1,(.int .i64 8))::E) D H4))))) /\
 (∀ Q E D H,W M c (qd 68) true Q E D H =
  Lz E 1 fun g t1=>Cb g .eql t1 (.int .i64 10) (fun g=>GO3 g (BLK3 2 (SEQ3 (W M c (qd 81)) Q)) .normal ((10,(.int .u64 1844674407370955162))::(85,t1)::E) D H) (fun g=>Cb g .eql t1 (.int .i64 16) (fun g=>GO3 g (BLK3 2 (SEQ3 (W M c (qd 81)) Q)) .normal ((10,(.int .u64 1152921504606846976))::(85,t1)::E) D H) (fun g=>Ly g E 1 fun g t1_1=>B3 g ((Op.wrap .u64) [t1_1]) fun g t87=>Bn g .quo (.int .u64 18446744073709551615) t87 fun g t88=>Bn g .add t88 (.int .u64 1) fun g t89=>GO3 g (BLK3 2 (SEQ3 (W M c (qd 81)) Q)) .normal ((10,t89)::(85,t1)::E) D H))) /\
 (∀ Q E D H,W M c (qd 81) true Q E D H =
  Lz E 2 fun g t2=>B3 g ((Op.wrap .u64) [t2]) fun g t95=>Bn g .shl (.int .u64 1) t95 fun g t96=>Bn g .sub t96 (.int .u64 1) fun g t97=>W M c (qd 85) g Q ((12,(.bool false))::(11,t97)::E) D H) /\
 (∀ Q E D H,W M c (qd 85) true Q E D H =
  W M c (qd 87) true Q ((13,(.int .u64 0))::E) D H) /\
 (∀ Q E D H,W M c (qd 87) true Q E D H =
  Lz E 0 fun g t0=>B32 g ((Op.bytesOfStr qae) [t0]) fun g o1 k1=>B3 g (Op.lenSl [(k1 H.next)]) fun g t100=>LOOP3 (W M c (qd 92)) (BLK3 3 (SEQ3 (W M c (qd 153)) Q)) ((101,(.int .i64 0))::(100,t100)::(99,(k1 H.next))::E) D (H.alloc o1)) /\
 (∀ Q E D H,W M c (qd 153) true Q E D H =
  Lz E 12 fun g t12=>JN (fun (k:Bool->AV->AV->AV->AHeap->Prop)=>B3 g (wantV true (some t12)) fun g w=>IG3 g w (fun g=>Ly g E 9 fun g t9=>C3 M g (.func qek) [t9] H fun g t167 H1=>B3 g ((Op.un .not) [t167]) fun g t168=>k g t168 t167 t9 H1) (fun g=>k g uu uu uu H)) (fun g t168_1 t167_1 t166_1 H2=>B3 g (Op.pick [t12,t168_1,(.bool false)]) fun g t169=>IF3 g t169 (fun g=>B3 g ((Op.mkIface xj) [(.int .i64 2)]) fun g t170=>GO3 g (SEQ3 (W M c (qd 161)) Q) .ret ((7,t170)::(6,(.int .u64 0))::E) D H2) (fun g=>Gt g M c (qd 161) Q E D H2))) /\
 (∀ Q E D H,W M c (qd 92) true Q E D H =
  Lz E 101 fun g t101=>Ly g E 100 fun g t100=>Cb g .lss t101 t100 (fun g=>Gt g M c (qd 98) Q E D H) (fun g=>GO3 g (SEQ3 (W M c (qd 98)) Q) (.exit 3) E D H)) /\
 (∀ Q E D H,W M c (qd 161) true Q E D H =
  Lz E 13 fun g t13=>GO3 g Q .ret ((7,.nili)::(6,t13)::E) D H) /\
 (∀ Q E D H,W M c (qd 98) true Q E D H =
  Lz E 99 fun g t99=>Ly g E 101 fun g t101=>Xl g t99 t101 H fun g t104=>W M c (qd 104) g (BLK3 4 (SEQ3 (W M c (qd 152)) Q)) ((16,(.int .u8 0))::(15,t104)::E) D H) /\
 (∀ Q E D H,W M c (qd 152) true Q E D H =
  Lz E 101 fun g t101=>Bn g .add t101 (.int .i64 1) fun g t163=>GO3 g Q .normal ((101,t163)::E) D H) /\
 (∀ Q E D H,W M c (qd 104) true Q E D H =
  Lz E 15 fun g t15=>Bn g .eql t15 (.int .u8 95) fun g t108=>JN (fun (k:Bool->AV->AHeap->Prop)=>B3 g (wantV true (some t108)) fun g w=>IG3 g w (fun g=>Ly g E 8 fun g t8=>k g t8 H) (fun g=>k g uu H)) (fun g t110_1 H1=>B3 g (Op.pick [t108,t110_1,(.bool false)]) fun g t111=>IF3 g t111 (fun g=>GO3 g (BLK3 5 (SEQ3 (W M c (qd 123)) Q)) (.exit 4) ((12,(.bool true))::E) D H1) (fun g=>Ly g E 15 fun g t15_1=>Bn g .leq (.int .u8 48) t15_1 fun g t114=>JN (fun (k:Bool->AV->AV->AHeap->Prop)=>B3 g (wantV true (some t114)) fun g w=>IG3 g w (fun g=>Bn g .leq t15_1 (.int .u8 57) fun g t117=>k g t117 t15_1 H1) (fun g=>k g uu uu H1)) (fun g t117_1 t116_1 H2=>B3 g (Op.pick [t114,t117_1,(.bool false)]) fun g t118=>IF3 g t118 (fun g=>Ly g E 15 fun g t15_2=>Bn g .sub t15_2 (.int .u8 48) fun g t120=>GO3 g (BLK3 5 (SEQ3 (W M c (qd 123)) Q)) .normal ((16,t120)::E) D H2) (fun g=>W M c (qd 116) g (BLK3 5 (SEQ3 (W M c (qd 123)) Q)) E D H2))))) /\
 (∀ Q E D H,W M c (qd 123) true Q E D H =
  Lz E 16 fun g t16=>Ly g E 1 fun g t1=>B3 g ((Op.wrap .u8) [t1]) fun g t136=>Cb g .geq t16 t136 (fun g=>B3 g ((Op.mkIface xj) [(.int .i64 2)]) fun g t138=>GO3 g (SEQ3 (W M c (qd 131)) Q) .ret ((7,t138)::(6,(.int .u64 0))::E) D H) (fun g=>Gt g M c (qd 131) Q E D H)) /\
 (∀ Q E D H,W M c (qd 116) true Q E D H =
  Lz E 15 fun g t15=>C3 M g (.func zu) [t15] H fun g t123 H1=>Bn g .leq (.int .u8 97) t123 fun g t124=>JN (fun (k:Bool->AV->AV->AV->AHeap->Prop)=>B3 g (wantV true (some t124)) fun g w=>IG3 g w (fun g=>C3 M g (.func zu) [t15] H1 fun g t127 H2=>Bn g .leq t127 (.int .u8 122) fun g t128=>k g t128 t127 t15 H2) (fun g=>k g uu uu uu H1)) (fun g t128_1 t127_1 t126_1 H3=>B3 g (Op.pick [t124,t128_1,(.bool false)]) fun g t129=>IF3 g t129 (fun g=>Ly g E 15 fun g t15_1=>C3 M g (.func zu) [t15_1] H3 fun g t131 H4=>Bn g .sub t131 (.int .u8 97) fun g t132=>Bn g .add t132 (.int .u8 10) fun g t133=>GO3 g Q .normal ((16,t133)::E) D H4) (fun g=>B3 g ((Op.mkIface xj) [(.int .i64 2)]) fun g t105=>GO3 g Q .ret ((7,t105)::(6,(.int .u64 0))::E) D H3))) /\
 (∀ Q E D H,W M c (qd 131) true Q E D H =
  Lz E 13 fun g t13=>Ly g E 10 fun g t10=>Cb g .geq t13 t10 (fun g=>Ly g E 11 fun g t11=>B3 g ((Op.mkIface xj) [(.int .i64 1)]) fun g t143=>GO3 g (SEQ3 (W M c (qd 139)) Q) .ret ((7,t143)::(6,t11)::E) D H) (fun g=>Gt g M c (qd 139) Q E D H)) /\
 (∀ Q E D H,W M c (qd 139) true Q E D H =
  Lz E 13 fun g t13=>Ly g E 1 fun g t1=>B3 g ((Op.wrap .u64) [t1]) fun g t146=>Bn g .mul t13 t146 fun g t147=>Ly g E 16 fun g t16=>B3 g ((Op.wrap .u64) [t16]) fun g t150=>Bn g .add t147 t150 fun g t151=>W M c (qd 143) g Q ((17,t151)::(13,t147)::E) D H) /\
 (∀ Q E D H,W M c (qd 143) true Q E D H =
  Lz E 17 fun g t17=>Ly g E 13 fun g t13=>Bn g .lss t17 t13 fun g t154=>JN (fun (k:Bool->AV->AV->AV->AHeap->Prop)=>B3 g (wantV false (some t154)) fun g w=>IG3 g w (fun g=>Ly g E 11 fun g t11=>Bn g .gtr t17 t11 fun g t158=>k g t158 t11 t17 H) (fun g=>k g uu uu uu H)) (fun g t158_1 t157_1 t156_1 H1=>B3 g (Op.pick [t154,(.bool true),t158_1]) fun g t159=>IF3 g t159 (fun g=>Ly g E 11 fun g t11_1=>B3 g ((Op.mkIface xj) [(.int .i64 1)]) fun g t161=>GO3 g (SEQ3 (W M c (qd 151)) Q) .ret ((7,t161)::(6,t11_1)::E) D H1) (fun g=>Gt g M c (qd 151) Q E D H1))) /\
 (∀ Q E D H,W M c (qd 151) true Q E D H =
  Lz E 17 fun g t17=>GO3 g Q .normal ((13,t17)::E) D H):=by (repeat' apply And.intro)<;>(intro _ _ _ _;refine W_unf ?_;kernel_rfl)
theorem qfj:(cProg Tryd.prog).func zw=some qak/\qak.results=[.tmp 6,.tmp 7]:=zz (by kernel_rfl)
theorem qfk (h:W M ⟨none,zw⟩ (qd 0) true (FIN3 M [.tmp 6,.tmp 7] Q) [(0,a0),(1,a1),(2,a2)] [] H):wu M zw [a0,a1,a2] H Q:=callf (by decide) qfj (ks:=qb7) (by kernel_rfl) h
def qep:AFunc:=funcAt Tryd.prog qap
def qhn:Kp:=⟨[0,1,2,3,4,10,11],false,[0,2,18,31]⟩
def ko (k:Nat):Kp × ACode:=(qhn,part qep.body k)
theorem qho (M:Mac) (c:Ctx):(∀ Q E D H,W M c (ko 0) true Q E D H =
 W M c (ko 2) true Q ((10,.nili)::E) D H) /\
 (∀ Q E D H,W M c (ko 2) true Q E D H =
  Lz E 4 fun g t4=>B3 g ((Op.mkIface xj) [(.int .i64 2)]) fun g t13=>B3 g ((Op.eq (.ifaces (ifT Tryd.prog)) false) [t4,t13] H) fun g t14=>IF3 g t14 (fun g=>Ly g E 0 fun g t0=>Ly g E 1 fun g t1=>C3 M g (.func yv) [t0,t1] H fun g t17 H1=>B3 g ((Op.mkIface qah) [t17]) fun g t18=>GO3 g (BLK3 0 (SEQ3 (W M c (ko 31)) Q)) .ret ((10,t18)::(11,t4)::E) D H1) (fun g=>B3 g ((Op.mkIface xj) [(.int .i64 1)]) fun g t20=>B3 g ((Op.eq (.ifaces (ifT Tryd.prog)) false) [t4,t20] H) fun g t21=>IF3 g t21 (fun g=>Ly g E 0 fun g t0=>Ly g E 1 fun g t1=>C3 M g (.func vg) [t0,t1] H fun g t24 H1=>B3 g ((Op.mkIface qah) [t24]) fun g t25=>GO3 g (BLK3 0 (SEQ3 (W M c (ko 31)) Q)) .ret ((10,t25)::(11,t4)::E) D H1) (fun g=>W M c (ko 18) g (BLK3 0 (SEQ3 (W M c (ko 31)) Q)) ((11,t4)::E) D H))) /\
 (∀ Q E D H,W M c (ko 31) true Q E D H =
  Lz E 4 fun g t4=>GO3 g Q .ret ((10,t4)::E) D H) /\
 (∀ Q E D H,W M c (ko 18) true Q E D H =
  B3 true ((Op.mkIface xj) [(.int .i64 3)]) fun g t27=>Ly g E 11 fun g t11=>B3 g ((Op.eq (.ifaces (ifT Tryd.prog)) false) [t11,t27] H) fun g t28=>IF3 g t28 (fun g=>Ly g E 0 fun g t0=>Ly g E 1 fun g t1=>Ly g E 2 fun g t2=>C3 M g (.func qjq) [t0,t1,t2] H fun g t32 H1=>B3 g ((Op.mkIface qah) [t32]) fun g t33=>GO3 g Q .ret ((10,t33)::E) D H1) (fun g=>B3 g ((Op.mkIface xj) [(.int .i64 4)]) fun g t35=>Ly g E 11 fun g t11_1=>B3 g ((Op.eq (.ifaces (ifT Tryd.prog)) false) [t11_1,t35] H) fun g t36=>IF3 g t36 (fun g=>Ly g E 0 fun g t0=>Ly g E 1 fun g t1=>Ly g E 3 fun g t3=>C3 M g (.func qie) [t0,t1,t3] H fun g t40 H1=>B3 g ((Op.mkIface qah) [t40]) fun g t41=>GO3 g Q .ret ((10,t41)::E) D H1) (fun g=>GO3 g Q .normal E D H))):=by (repeat' apply And.intro)<;>(intro _ _ _ _;refine W_unf ?_;kernel_rfl)
theorem qmn:(cProg Tryd.prog).func qap=some qep/\qep.results=[.tmp 10]:=zz (by kernel_rfl)
theorem qmo (h:W M ⟨none,qap⟩ (ko 0) true (FIN3 M [.tmp 10] Q) [(0,a0),(1,a1),(2,a2),(3,a3),(4,a4)] [] H):wu M qap [a0,a1,a2,a3,a4] H Q:=callf (by decide) qmn (ks:=qhn) (by kernel_rfl) h
def qbi:AFunc:=funcAt Tryd.prog zu
def qdo:Kp:=⟨[0,2],false,[0]⟩
def qdp (k:Nat):Kp × ACode:=(qdo,part qbi.body k)
theorem qhd (M:Mac) (c:Ctx):(∀ Q E D H,W M c (qdp 0) true Q E D H =
 Lz E 0 fun g t0=>Bn g .or t0 (.int .u8 32) fun g t4=>GO3 g Q .ret ((2,t4)::(2,(.int .u8 0))::E) D H):=by intro _ _ _ _;refine W_unf ?_;kernel_rfl
theorem qhb:(cProg Tryd.prog).func zu=some qbi/\qbi.results=[.tmp 2]:=zz (by kernel_rfl)
theorem qhc (h:W M ⟨none,zu⟩ (qdp 0) true (FIN3 M [.tmp 2] Q) [(0,a0)] [] H):wu M zu [a0] H Q:=callf (by decide) qhb (ks:=qdo) (by kernel_rfl) h
def qcl:AFunc:=funcAt Tryd.prog yv
def qe3:Kp:=⟨[0,1,4],false,[0]⟩
def qe4 (k:Nat):Kp × ACode:=(qe3,part qcl.body k)
theorem qe5 (M:Mac) (c:Ctx):(∀ Q E D H,W M c (qe4 0) true Q E D H =
 Lz E 0 fun g t0=>Ly g E 1 fun g t1=>B3 g (Op.load1 [(.ptr ky 0)] H) fun g t8=>C3 M g (.func jp) [t1] H fun g t7 H1=>CK3 g (Op.load1 [(.ptr ky 0)] H1) (some t8) fun g=>B3 g ((Op.build [(.str []),(.str []),.nili] [(0,1),(1,1),(2,1)]) [t0,t7,t8]) fun g t9=>A3 g qgj (AV.cells t9) H1 fun g t10 H2=>GO3 g Q .ret ((4,t10)::(4,.nilp)::E) D H2):=by intro _ _ _ _;refine W_unf ?_;kernel_rfl
theorem qiv:(cProg Tryd.prog).func yv=some qcl/\qcl.results=[.tmp 4]:=zz (by kernel_rfl)
theorem qiw (h:W M ⟨none,yv⟩ (qe4 0) true (FIN3 M [.tmp 4] Q) [(0,a0),(1,a1)] [] H):wu M yv [a0,a1] H Q:=callf (by decide) qiv (ks:=qe3) (by kernel_rfl) h
def qcz:AFunc:=funcAt Tryd.prog vg
def qfe:Kp:=⟨[0,1,4],false,[0]⟩
def qff (k:Nat):Kp × ACode:=(qfe,part qcz.body k)
theorem qfg (M:Mac) (c:Ctx):(∀ Q E D H,W M c (qff 0) true Q E D H =
 Lz E 0 fun g t0=>Ly g E 1 fun g t1=>B3 g (Op.load1 [(.ptr yj 0)] H) fun g t8=>C3 M g (.func jp) [t1] H fun g t7 H1=>CK3 g (Op.load1 [(.ptr yj 0)] H1) (some t8) fun g=>B3 g ((Op.build [(.str []),(.str []),.nili] [(0,1),(1,1),(2,1)]) [t0,t7,t8]) fun g t9=>A3 g qgj (AV.cells t9) H1 fun g t10 H2=>GO3 g Q .ret ((4,t10)::(4,.nilp)::E) D H2):=by intro _ _ _ _;refine W_unf ?_;kernel_rfl
theorem qjf:(cProg Tryd.prog).func vg=some qcz/\qcz.results=[.tmp 4]:=zz (by kernel_rfl)
theorem qjg (h:W M ⟨none,vg⟩ (qff 0) true (FIN3 M [.tmp 4] Q) [(0,a0),(1,a1)] [] H):wu M vg [a0,a1] H Q:=callf (by decide) qjf (ks:=qfe) (by kernel_rfl) h
def qal:AFunc:=funcAt Tryd.prog jp
def qb8:Kp:=⟨[0,2,3],false,[0,2,10]⟩
def jq (k:Nat):Kp × ACode:=(qb8,part qal.body k)
theorem qb9 (M:Mac) (c:Ctx):(∀ Q E D H,W M c (jq 0) true Q E D H =
 W M c (jq 2) true Q ((2,(.str []))::E) D H) /\
 (∀ Q E D H,W M c (jq 2) true Q E D H =
  Lz E 0 fun g t0=>B3 g (Op.lenStr [t0]) fun g t5=>Cb g .eql t5 (.int .i64 0) (fun g=>GO3 g (SEQ3 (W M c (jq 10)) Q) .ret ((2,(.str []))::E) D H) (fun g=>Gt g M c (jq 10) Q E D H)) /\
 (∀ Q E D H,W M c (jq 10) true Q E D H =
  Lz E 0 fun g t0=>B3 g (Op.lenStr [t0]) fun g t8=>B32 g ((Op.mkSlice qae 1 [(.int .u8 0)]) [t8,t8]) fun g o1 k1=>Ly g E 0 fun g t0_1=>B32 g ((Op.copy 1) [(k1 H.next),t0_1] (H.alloc o1)) fun g t12 H2=>B3 g ((Op.indexSl 1) [(k1 H.next),(.int .i64 0)]) fun g t14=>B3 g (Op.lenSl [(k1 H.next)]) fun g t16=>B32 g ((Op.strOfPtr qae) [t14,t16] H2) fun g t17 H3=>GO3 g Q .ret ((2,t17)::(3,(k1 H.next))::E) D H3):=by (repeat' apply And.intro)<;>(intro _ _ _ _;refine W_unf ?_;kernel_rfl)
theorem qfm:(cProg Tryd.prog).func jp=some qal/\qal.results=[.tmp 2]:=zz (by kernel_rfl)
theorem qfn (h:W M ⟨none,jp⟩ (jq 0) true (FIN3 M [.tmp 2] Q) [(0,a0)] [] H):wu M jp [a0] H Q:=callf (by decide) qfm (ks:=qb8) (by kernel_rfl) h
end
end Go.Am
