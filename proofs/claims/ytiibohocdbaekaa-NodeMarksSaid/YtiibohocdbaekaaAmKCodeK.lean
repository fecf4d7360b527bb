/- CodeK: CodeSF CodeL1 CodeND CodeNM. -/
import Derived.Test.YtiibohocdbaekaaAmKB4
import Derived.Test.YtiibohocdbaekaaAmKB1
import Derived.KernelRfl
import Derived.Test.YtiibohocdbaekaaRows
set_option linter.unusedVariables false
set_option maxRecDepth 100000
namespace Go.Am
abbrev qoq:Nat:=9
abbrev qb9:Nat:=120
abbrev qpy:Nat:=134
abbrev qcv:Nat:=135
abbrev yb:Nat:=106
abbrev x9:Nat:=128
abbrev zp:Nat:=129
abbrev jg:Nat:=127
abbrev zt:Nat:=126
abbrev vd:Nat:=139
abbrev j7:Nat:=140
abbrev vy:Nat:=137
abbrev zq:Nat:=141
abbrev zf:Nat:=131
abbrev xj:Nat:=133
abbrev xp:Nat:=132
abbrev xx:Nat:=119
abbrev zy:Nat:=130
abbrev zo:Nat:=136
abbrev wt:Nat:=138
abbrev T_int:Nat:=3
abbrev yc:Nat:=214
def qpx:List UInt8:=[0,1,2,2,3,3,3,3,4,4,4,4,4,4,4,4,5,5,5,5,5,5,5,5,5,5,5,5,5,5,5,5,6,6,6,6,6,6,6,6,6,6,6,6,6,6,6,6,6,6,6,6,6,6,6,6,6,6,6,6,6,6,6,6,7,7,7,7,7,7,7,7,7,7,7,7,7,7,7,7,7,7,7,7,7,7,7,7,7,7,7,7,7,7,7,7,7,7,7,7,7,7,7,7,7,7,7,7,7,7,7,7,7,7,7,7,7,7,7,7,7,7,7,7,7,7,7,7,8,8,8,8,8,8,8,8,8,8,8,8,8,8,8,8,8,8,8,8,8,8,8,8,8,8,8,8,8,8,8,8,8,8,8,8,8,8,8,8,8,8,8,8,8,8,8,8,8,8,8,8,8,8,8,8,8,8,8,8,8,8,8,8,8,8,8,8,8,8,8,8,8,8,8,8,8,8,8,8,8,8,8,8,8,8,8,8,8,8,8,8,8,8,8,8,8,8,8,8,8,8,8,8,8,8,8,8,8,8,8,8,8,8,8,8,8,8,8,8,8,8,8,8,8,8,8,8]
noncomputable section
open Go.Proofs Go.Proofs.Ytiibohocdbaekaa
class MK (M:Mac):Prop where
 ok:∀ n,memN n [9,20]=false->M.func n=(cProg Try.prog).func n
theorem MK.at {M:Mac} [h:MK M] {n:Nat} {F:AFunc} (hn:memN n [9,20]=false) (hF:(cProg Try.prog).func n=some F):M.func n=some F:=(h.ok n hn).trans hF
theorem callf {M:Mac} [h:MK M] {n:Nat} {F:AFunc} (hn:memN n [9,20]=false) {rs:List ARes} (hF:(cProg Try.prog).func n=some F/\F.results=rs) {ks:Kp} {vs:List AV} (hk:keepB 0 vs.length ks.keep=true) {H:AHeap} {Q:AEnd->AHeap->Prop} (hw:W M ⟨none,n⟩ (ks,part F.body 0) true (FIN3 M rs Q) (envA 0 vs) [] H):yw M n vs H Q:=calle (MK.at hn hF.1) hk (hF.2 ▸ hw)
variable {M:Mac} [MK M] {H:AHeap} {Q:AEnd->AHeap->Prop} {a0 a1 a2 a3 a4 a5:AV}
def qc9:AFunc:=funcAt Try.prog yb
def qfc:Kp:=⟨[0,1,4],false,[0]⟩
def qfd (k:Nat):Kp × ACode:=(qfc,part qc9.body k)
theorem qjb (M:Mac) (c:Ctx):(∀ Q E D H,W M c (qfd 0) true Q E D H =
 Lz E 0 fun g t0=>B3 g (Op.lenSl [t0]) fun g t6=>Ly g E 0 fun g t0_1=>B3 g ((Op.wrap .u64) [t6]) fun g t10=>C3 M g (.func qb9) [t10] H fun g t11 H1=>Ly g E 1 fun g t1=>C3 M g (.func xx) [t0_1,(.int .i64 0),t6,t11,t1] H1 fun g t13 H2=>GO3 g Q .normal ((4,t6)::E) D H2):=by intro _ _ _ _;refine W_unf ?_;kernel_rfl
theorem qi9:(cProg Try.prog).func yb=some qc9/\qc9.results=[]:=za (by kernel_rfl)
theorem qja (h:W M ⟨none,yb⟩ (qfd 0) true (FIN3 M [] Q) [(0,a0),(1,a1)] [] H):yw M yb [a0,a1] H Q:=callf (by decide) qi9 (ks:=qfc) (by kernel_rfl) h
def qba:AFunc:=funcAt Try.prog xx
def qdl:Kp:=⟨[0,1,2,3,4,10,11,12,13,14,15,16,17,18,19,20],false,[0,6,9,17,25,33,35,45,55,65,69,73]⟩
def qg (k:Nat):Kp × ACode:=(qdl,part qba.body k)
theorem y9 (M:Mac) (c:Ctx):(∀ Q E D H,W M c (qg 0) true Q E D H =
 LOOP3 (W M c (qg 6)) (BLK3 0 Q) ((11,(.bool true))::(10,(.bool true))::E) D H) /\
 (∀ Q E D H,W M c (qg 6) true Q E D H =
  Lz E 2 fun g t2=>Ly g E 1 fun g t1=>Bn g .sub t2 t1 fun g t23=>W M c (qg 9) g (BLK3 1 Q) ((12,t23)::E) D H) /\
 (∀ Q E D H,W M c (qg 9) true Q E D H =
  Lz E 12 fun g t12=>Cb g .leq t12 (.int .i64 12) (fun g=>Ly g E 0 fun g t0=>Ly g E 1 fun g t1=>Ly g E 2 fun g t2=>Ly g E 4 fun g t4=>C3 M g (.func zt) [t0,t1,t2,t4] H fun g t30 H1=>GO3 g (SEQ3 (W M c (qg 17)) Q) .ret E D H1) (fun g=>Gt g M c (qg 17) Q E D H)) /\
 (∀ Q E D H,W M c (qg 17) true Q E D H =
  Lz E 3 fun g t3=>Cb g .eql t3 (.int .i64 0) (fun g=>Ly g E 0 fun g t0=>Ly g E 1 fun g t1=>Ly g E 2 fun g t2=>Ly g E 4 fun g t4=>C3 M g (.func jg) [t0,t1,t2,t4] H fun g t37 H1=>GO3 g (SEQ3 (W M c (qg 25)) Q) .ret E D H1) (fun g=>Gt g M c (qg 25) Q E D H)) /\
 (∀ Q E D H,W M c (qg 25) true Q E D H =
  Lz E 10 fun g t10=>B3 g ((Op.un .not) [t10]) fun g t39=>IF3 g t39 (fun g=>Ly g E 0 fun g t0=>Ly g E 1 fun g t1=>Ly g E 2 fun g t2=>Ly g E 4 fun g t4=>C3 M g (.func x9) [t0,t1,t2,t4] H fun g t44 H1=>Ly g E 3 fun g t3=>Bn g .sub t3 (.int .i64 1) fun g t46=>Gt g M c (qg 33) Q ((3,t46)::E) D H1) (fun g=>Gt g M c (qg 33) Q E D H)) /\
 (∀ Q E D H,W M c (qg 33) true Q E D H =
  Lz E 0 fun g t0=>Ly g E 1 fun g t1=>Ly g E 2 fun g t2=>Ly g E 4 fun g t4=>C3 M g (.func zp) [t0,t1,t2,t4] H fun g t52 H1=>B3 g ((Op.extract 0) [t52]) fun g t53=>B3 g ((Op.extract 1) [t52]) fun g t54=>W M c (qg 35) g Q ((14,t54)::(13,t53)::E) D H1) /\
 (∀ Q E D H,W M c (qg 35) true Q E D H =
  Lz E 14 fun g t14=>Cb g .eql t14 (.int .i64 2) (fun g=>Ly g E 0 fun g t0=>Ly g E 1 fun g t1=>Ly g E 2 fun g t2=>Ly g E 4 fun g t4=>C3 M g (.func zy) [t0,t1,t2,t4] H fun g t61 H1=>Ly g E 2 fun g t2_1=>Bn g .sub t2_1 (.int .i64 1) fun g t63=>Ly g E 13 fun g t13=>Ly g E 1 fun g t1_1=>Bn g .sub t13 t1_1 fun g t66=>Bn g .sub t63 t66 fun g t67=>Gt g M c (qg 45) Q ((14,(.int .i64 1))::(13,t67)::E) D H1) (fun g=>Gt g M c (qg 45) Q E D H)) /\
 (∀ Q E D H,W M c (qg 45) true Q E D H =
  Lz E 10 fun g t10=>JN (fun (k:Bool->AV->AHeap->Prop)=>B3 g (wantV true (some t10)) fun g w=>IG3 g w (fun g=>Ly g E 11 fun g t11=>k g t11 H) (fun g=>k g uu H)) (fun g t70_1 H1=>B3 g (Op.pick [t10,t70_1,(.bool false)]) fun g t71=>JN (fun (k:Bool->AV->AV->AHeap->Prop)=>B3 g (wantV true (some t71)) fun g w=>IG3 g w (fun g=>Ly g E 14 fun g t14=>Bn g .eql t14 (.int .i64 1) fun g t74=>k g t74 t14 H1) (fun g=>k g uu uu H1)) (fun g t74_1 t73_1 H2=>B3 g (Op.pick [t71,t74_1,(.bool false)]) fun g t75=>IF3 g t75 (fun g=>Ly g E 0 fun g t0=>Ly g E 1 fun g t1=>Ly g E 2 fun g t2=>Ly g E 4 fun g t4=>C3 M g (.func zf) [t0,t1,t2,t4] H2 fun g t80 H3=>IF3 g t80 (fun g=>GO3 g (SEQ3 (W M c (qg 55)) Q) .ret E D H3) (fun g=>Gt g M c (qg 55) Q E D H3)) (fun g=>Gt g M c (qg 55) Q E D H2)))) /\
 (∀ Q E D H,W M c (qg 55) true Q E D H =
  Lz E 1 fun g t1=>Bn g .gtr t1 (.int .i64 0) fun g t82=>JN (fun (k:Bool->AV->AV->AV->AV->AV->AV->AV->AV->AV->AV->AV->AV->AV->AHeap->Prop)=>B3 g (wantV true (some t82)) fun g w=>IG3 g w (fun g=>Ly g E 4 fun g t4=>Ly g E 0 fun g t0=>Bn g .sub t1 (.int .i64 1) fun g t87=>B3 g ((Op.indexSl 21) [t0,t87]) fun g t88=>B3 g ((Op.loadN 21) [t88] H) fun g t89=>Ly g E 13 fun g t13=>B3 g ((Op.indexSl 21) [t0,t13]) fun g t92=>B3 g ((Op.loadN 21) [t92] H) fun g t93=>V3 g [t4,t89,t93] fun g f vs=>C3 M g f vs H fun g t94 H1=>Bn g .lss t94 (.int .i64 0) fun g t95=>B3 g ((Op.un .not) [t95]) fun g t96=>k g t96 t95 t94 t93 t92 t13 t0 t89 t88 t87 t1 t0 t4 H1) (fun g=>k g uu uu uu uu uu uu uu uu uu uu uu uu uu H)) (fun g t96_1 t95_1 t94_1 t93_1 t92_1 t91_1 t90_1 t89_1 t88_1 t87_1 t86_1 t85_1 t84_1 H2=>B3 g (Op.pick [t82,t96_1,(.bool false)]) fun g t97=>IF3 g t97 (fun g=>Ly g E 0 fun g t0_1=>Ly g E 1 fun g t1_1=>Ly g E 2 fun g t2=>Ly g E 13 fun g t13_1=>Ly g E 4 fun g t4_1=>C3 M g (.func xp) [t0_1,t1_1,t2,t13_1,t4_1] H2 fun g t103 H3=>GO3 g (SEQ3 (W M c (qg 65)) Q) (.exit 1) ((1,t103)::(15,t103)::E) D H3) (fun g=>Gt g M c (qg 65) Q E D H2))) /\
 (∀ Q E D H,W M c (qg 65) true Q E D H =
  Lz E 0 fun g t0=>Ly g E 1 fun g t1=>Ly g E 2 fun g t2=>Ly g E 13 fun g t13=>Ly g E 4 fun g t4=>C3 M g (.func xj) [t0,t1,t2,t13,t4] H fun g t111 H1=>B3 g ((Op.extract 0) [t111]) fun g t112=>B3 g ((Op.extract 1) [t111]) fun g t113=>W M c (qg 69) g Q ((11,t113)::(17,t113)::(16,t112)::E) D H1) /\
 (∀ Q E D H,W M c (qg 69) true Q E D H =
  Lz E 16 fun g t16=>Ly g E 1 fun g t1=>Bn g .sub t16 t1 fun g t117=>Ly g E 2 fun g t2=>Bn g .sub t2 t16 fun g t120=>Ly g E 12 fun g t12=>Bn g .quo t12 (.int .i64 8) fun g t122=>W M c (qg 73) g Q ((20,t122)::(19,t120)::(18,t117)::E) D H) /\
 (∀ Q E D H,W M c (qg 73) true Q E D H =
  Lz E 18 fun g t18=>Ly g E 19 fun g t19=>Cb g .lss t18 t19 (fun g=>Ly g E 18 fun g t18_1=>Ly g E 20 fun g t20=>Bn g .geq t18_1 t20 fun g t128=>Ly g E 0 fun g t0=>Ly g E 1 fun g t1=>Ly g E 16 fun g t16=>Ly g E 3 fun g t3=>Ly g E 4 fun g t4=>C3 M g (.func xx) [t0,t1,t16,t3,t4] H fun g t134 H1=>Ly g E 16 fun g t16_1=>Bn g .add t16_1 (.int .i64 1) fun g t136=>GO3 g Q .normal ((1,t136)::(10,t128)::E) D H1) (fun g=>Ly g E 19 fun g t19_1=>Ly g E 20 fun g t20=>Bn g .geq t19_1 t20 fun g t139=>Ly g E 0 fun g t0=>Ly g E 16 fun g t16=>Bn g .add t16 (.int .i64 1) fun g t142=>Ly g E 2 fun g t2=>Ly g E 3 fun g t3=>Ly g E 4 fun g t4=>C3 M g (.func xx) [t0,t142,t2,t3,t4] H fun g t146 H1=>Ly g E 16 fun g t16_1=>GO3 g Q .normal ((2,t16_1)::(10,t139)::E) D H1)):=by (repeat' apply And.intro)<;>(intro _ _ _ _;refine W_unf ?_;kernel_rfl)
theorem qgw:(cProg Try.prog).func xx=some qba/\qba.results=[]:=za (by kernel_rfl)
theorem qgx (h:W M ⟨none,xx⟩ (qg 0) true (FIN3 M [] Q) [(0,a0),(1,a1),(2,a2),(3,a3),(4,a4)] [] H):yw M xx [a0,a1,a2,a3,a4] H Q:=callf (by decide) qgw (ks:=qdl) (by kernel_rfl) h
def qi1:AFunc:=funcAt Try.prog qb9
def qm0:Kp:=⟨[0,2],false,[0,8]⟩
def qe8 (k:Nat):Kp × ACode:=(qm0,part qi1.body k)
theorem que (M:Mac) (c:Ctx):(∀ Q E D H,W M c (qe8 0) true Q E D H =
 IF3 true (.bool false) (fun g=>Ly g E 0 fun g t0=>B3 g ((Op.wrap .u32) [t0]) fun g t4=>C3 M g (.func qpy) [t4] H fun g t5 H1=>GO3 g (SEQ3 (W M c (qe8 8)) Q) .ret ((2,t5)::(2,(.int .i64 0))::E) D H1) (fun g=>Gt g M c (qe8 8) Q ((2,(.int .i64 0))::E) D H)) /\
 (∀ Q E D H,W M c (qe8 8) true Q E D H =
  Lz E 0 fun g t0=>C3 M g (.func qcv) [t0] H fun g t7 H1=>GO3 g Q .ret ((2,t7)::E) D H1):=by (repeat' apply And.intro)<;>(intro _ _ _ _;refine W_unf ?_;kernel_rfl)
theorem quc:(cProg Try.prog).func qb9=some qi1/\qi1.results=[.tmp 2]:=za (by kernel_rfl)
theorem qud (h:W M ⟨none,qb9⟩ (qe8 0) true (FIN3 M [.tmp 2] Q) [(0,a0)] [] H):yw M qb9 [a0] H Q:=callf (by decide) quc (ks:=qm0) (by kernel_rfl) h
def vq:AFunc:=funcAt Try.prog zt
def qcc:Kp:=⟨[0,1,2,3,8,9],false,[0,4,10,16,22,25,26]⟩
def qw (k:Nat):Kp × ACode:=(qcc,part vq.body k)
theorem qfk (M:Mac) (c:Ctx):(∀ Q E D H,W M c (qw 0) true Q E D H =
 Lz E 1 fun g t1=>Bn g .add t1 (.int .i64 1) fun g t11=>LOOP3 (W M c (qw 4)) (BLK3 0 Q) ((8,t11)::E) D H) /\
 (∀ Q E D H,W M c (qw 4) true Q E D H =
  Lz E 8 fun g t8=>Ly g E 2 fun g t2=>Cb g .lss t8 t2 (fun g=>Gt g M c (qw 10) Q E D H) (fun g=>GO3 g (SEQ3 (W M c (qw 10)) Q) (.exit 0) E D H)) /\
 (∀ Q E D H,W M c (qw 10) true Q E D H =
  Lz E 8 fun g t8=>LOOP3 (W M c (qw 16)) (BLK3 2 (BLK3 1 (SEQ3 (W M c (qw 26)) Q))) ((9,t8)::E) D H) /\
 (∀ Q E D H,W M c (qw 26) true Q E D H =
  Lz E 8 fun g t8=>Bn g .add t8 (.int .i64 1) fun g t16=>GO3 g Q .normal ((8,t16)::E) D H) /\
 (∀ Q E D H,W M c (qw 16) true Q E D H =
  Lz E 9 fun g t9=>Ly g E 1 fun g t1=>Bn g .gtr t9 t1 fun g t20=>JN (fun (k:Bool->AV->AV->AV->AV->AV->AV->AV->AV->AV->AV->AV->AV->AHeap->Prop)=>B3 g (wantV true (some t20)) fun g w=>IG3 g w (fun g=>Ly g E 3 fun g t3=>Ly g E 0 fun g t0=>B3 g ((Op.indexSl 21) [t0,t9]) fun g t25=>B3 g ((Op.loadN 21) [t25] H) fun g t26=>Bn g .sub t9 (.int .i64 1) fun g t29=>B3 g ((Op.indexSl 21) [t0,t29]) fun g t30=>B3 g ((Op.loadN 21) [t30] H) fun g t31=>V3 g [t3,t26,t31] fun g f vs=>C3 M g f vs H fun g t32 H1=>Bn g .lss t32 (.int .i64 0) fun g t33=>k g t33 t32 t31 t30 t29 t9 t0 t26 t25 t9 t0 t3 H1) (fun g=>k g uu uu uu uu uu uu uu uu uu uu uu uu H)) (fun g t33_1 t32_1 t31_1 t30_1 t29_1 t28_1 t27_1 t26_1 t25_1 t24_1 t23_1 t22_1 H2=>B3 g (Op.pick [t20,t33_1,(.bool false)]) fun g t34=>IF3 g t34 (fun g=>Gt g M c (qw 22) Q E D H2) (fun g=>GO3 g (SEQ3 (W M c (qw 22)) Q) (.exit 2) E D H2))) /\
 (∀ Q E D H,W M c (qw 22) true Q E D H =
  Lz E 0 fun g t0=>Ly g E 9 fun g t9=>Bn g .sub t9 (.int .i64 1) fun g t41=>Bn g .sub t9 (.int .i64 1) fun g t44=>B3 g ((Op.indexSl 21) [t0,t44]) fun g t45=>B3 g ((Op.loadN 21) [t45] H) fun g t46=>B3 g ((Op.indexSl 21) [t0,t9]) fun g t49=>B3 g ((Op.loadN 21) [t49] H) fun g t50=>B3 g ((Op.indexSl 21) [t0,t9]) fun g t51=>B32 g ((Op.store 21) [t51,t46] H) fun g u H1=>B3 g ((Op.indexSl 21) [t0,t41]) fun g t52=>B32 g ((Op.store 21) [t52,t50] H1) fun g u_1 H2=>GO3 g (BLK3 3 (SEQ3 (W M c (qw 25)) Q)) .normal E D H2) /\
 (∀ Q E D H,W M c (qw 25) true Q E D H =
  Lz E 9 fun g t9=>Bn g .sub t9 (.int .i64 1) fun g t36=>GO3 g Q .normal ((9,t36)::E) D H):=by (repeat' apply And.intro)<;>(intro _ _ _ _;refine W_unf ?_;kernel_rfl)
theorem qfi:(cProg Try.prog).func zt=some vq/\vq.results=[]:=za (by kernel_rfl)
theorem qfj (h:W M ⟨none,zt⟩ (qw 0) true (FIN3 M [] Q) [(0,a0),(1,a1),(2,a2),(3,a3)] [] H):yw M zt [a0,a1,a2,a3] H Q:=callf (by decide) qfi (ks:=qcc) (by kernel_rfl) h
def qat:AFunc:=funcAt Try.prog jg
def qde:Kp:=⟨[0,1,2,3,8,9,10,11,12],false,[0,4,6,11,17,20,21,25,31,36]⟩
def qq (k:Nat):Kp × ACode:=(qde,part qat.body k)
theorem qgg (M:Mac) (c:Ctx):(∀ Q E D H,W M c (qq 0) true Q E D H =
 Lz E 1 fun g t1=>W M c (qq 4) g Q ((9,(.int .i64 0))::(8,t1)::E) D H) /\
 (∀ Q E D H,W M c (qq 4) true Q E D H =
  Lz E 2 fun g t2=>Ly g E 1 fun g t1=>Bn g .sub t2 t1 fun g t16=>W M c (qq 6) g Q ((10,t16)::E) D H) /\
 (∀ Q E D H,W M c (qq 6) true Q E D H =
  Lz E 10 fun g t10=>Bn g .sub t10 (.int .i64 1) fun g t18=>Bn g .quo t18 (.int .i64 2) fun g t19=>LOOP3 (W M c (qq 11)) (BLK3 0 (SEQ3 (W M c (qq 21)) Q)) ((11,t19)::E) D H) /\
 (∀ Q E D H,W M c (qq 21) true Q E D H =
  Lz E 10 fun g t10=>Bn g .sub t10 (.int .i64 1) fun g t31=>LOOP3 (W M c (qq 25)) (BLK3 2 Q) ((12,t31)::E) D H) /\
 (∀ Q E D H,W M c (qq 11) true Q E D H =
  Lz E 11 fun g t11=>Cb g .geq t11 (.int .i64 0) (fun g=>Gt g M c (qq 17) Q E D H) (fun g=>GO3 g (SEQ3 (W M c (qq 17)) Q) (.exit 0) E D H)) /\
 (∀ Q E D H,W M c (qq 25) true Q E D H =
  Lz E 12 fun g t12=>Cb g .geq t12 (.int .i64 0) (fun g=>Gt g M c (qq 31) Q E D H) (fun g=>GO3 g (SEQ3 (W M c (qq 31)) Q) (.exit 2) E D H)) /\
 (∀ Q E D H,W M c (qq 17) true Q E D H =
  Lz E 0 fun g t0=>Ly g E 11 fun g t11=>Ly g E 10 fun g t10=>Ly g E 8 fun g t8=>Ly g E 3 fun g t3=>C3 M g (.func zo) [t0,t11,t10,t8,t3] H fun g t29 H1=>GO3 g (BLK3 1 (SEQ3 (W M c (qq 20)) Q)) .normal E D H1) /\
 (∀ Q E D H,W M c (qq 31) true Q E D H =
  Lz E 0 fun g t0=>Ly g E 8 fun g t8=>Ly g E 12 fun g t12=>Bn g .add t8 t12 fun g t41=>Bn g .add t8 t12 fun g t45=>B3 g ((Op.indexSl 21) [t0,t45]) fun g t46=>B3 g ((Op.loadN 21) [t46] H) fun g t47=>B3 g ((Op.indexSl 21) [t0,t8]) fun g t50=>B3 g ((Op.loadN 21) [t50] H) fun g t51=>B3 g ((Op.indexSl 21) [t0,t8]) fun g t52=>B32 g ((Op.store 21) [t52,t47] H) fun g u H1=>B3 g ((Op.indexSl 21) [t0,t41]) fun g t53=>B32 g ((Op.store 21) [t53,t51] H1) fun g u_1 H2=>Ly g E 0 fun g t0_1=>Ly g E 9 fun g t9=>Ly g E 12 fun g t12_1=>Ly g E 8 fun g t8_1=>Ly g E 3 fun g t3=>C3 M g (.func zo) [t0_1,t9,t12_1,t8_1,t3] H2 fun g t59 H3=>GO3 g (BLK3 3 (SEQ3 (W M c (qq 36)) Q)) .normal E D H3) /\
 (∀ Q E D H,W M c (qq 20) true Q E D H =
  Lz E 11 fun g t11=>Bn g .sub t11 (.int .i64 1) fun g t23=>GO3 g Q .normal ((11,t23)::E) D H) /\
 (∀ Q E D H,W M c (qq 36) true Q E D H =
  Lz E 12 fun g t12=>Bn g .sub t12 (.int .i64 1) fun g t35=>GO3 g Q .normal ((12,t35)::E) D H):=by (repeat' apply And.intro)<;>(intro _ _ _ _;refine W_unf ?_;kernel_rfl)
theorem qge:(cProg Try.prog).func jg=some qat/\qat.results=[]:=za (by kernel_rfl)
theorem qgf (h:W M ⟨none,jg⟩ (qq 0) true (FIN3 M [] Q) [(0,a0),(1,a1),(2,a2),(3,a3)] [] H):yw M jg [a0,a1,a2,a3] H Q:=callf (by decide) qge (ks:=qde) (by kernel_rfl) h
def vo:AFunc:=funcAt Try.prog x9
def qcb:Kp:=⟨[0,1,2,3,8,9,10,11,12],false,[0,5,9,13,19,23,29,30]⟩
def qp (k:Nat):Kp × ACode:=(qcb,part vo.body k)
theorem qfh (M:Mac) (c:Ctx):(∀ Q E D H,W M c (qp 0) true Q E D H =
 Lz E 2 fun g t2=>Ly g E 1 fun g t1=>Bn g .sub t2 t1 fun g t15=>Cb g .geq t15 (.int .i64 8) (fun g=>W M c (qp 5) g Q ((8,t15)::E) D H) (fun g=>GO3 g Q .normal ((8,t15)::E) D H)) /\
 (∀ Q E D H,W M c (qp 5) true Q E D H =
  Lz E 8 fun g t8=>B3 g ((Op.wrap .u64) [t8]) fun g t19=>A3 g yc [(.int .u64 0)] H fun g t9 H1=>B32 g ((Op.store 1) [t9,t19] H1) fun g u H2=>Ly g E 8 fun g t8_1=>C3 M g (.func vy) [t8_1] H2 fun g t21 H3=>W M c (qp 9) g Q ((10,t21)::(9,t9)::E) D H3) /\
 (∀ Q E D H,W M c (qp 9) true Q E D H =
  Lz E 1 fun g t1=>Ly g E 8 fun g t8=>Bn g .quo t8 (.int .i64 4) fun g t24=>Bn g .mul t24 (.int .i64 2) fun g t25=>Bn g .add t1 t25 fun g t26=>Bn g .sub t26 (.int .i64 1) fun g t27=>LOOP3 (W M c (qp 13)) (BLK3 0 Q) ((11,t27)::E) D H) /\
 (∀ Q E D H,W M c (qp 13) true Q E D H =
  Lz E 11 fun g t11=>Ly g E 1 fun g t1=>Ly g E 8 fun g t8=>Bn g .quo t8 (.int .i64 4) fun g t31=>Bn g .mul t31 (.int .i64 2) fun g t32=>Bn g .add t1 t32 fun g t33=>Bn g .add t33 (.int .i64 1) fun g t34=>Cb g .leq t11 t34 (fun g=>Gt g M c (qp 19) Q E D H) (fun g=>GO3 g (SEQ3 (W M c (qp 19)) Q) (.exit 0) E D H)) /\
 (∀ Q E D H,W M c (qp 19) true Q E D H =
  Lz E 9 fun g t9=>C3 M g (.func wt) [t9] H fun g t38 H1=>Ly g E 10 fun g t10=>Bn g .sub t10 (.int .u64 1) fun g t40=>Bn g .and t38 t40 fun g t41=>B3 g ((Op.wrap .i64) [t41]) fun g t42=>W M c (qp 23) g (BLK3 1 (SEQ3 (W M c (qp 30)) Q)) ((12,t42)::E) D H1) /\
 (∀ Q E D H,W M c (qp 30) true Q E D H =
  Lz E 11 fun g t11=>Bn g .add t11 (.int .i64 1) fun g t37=>GO3 g Q .normal ((11,t37)::E) D H) /\
 (∀ Q E D H,W M c (qp 23) true Q E D H =
  Lz E 12 fun g t12=>Ly g E 8 fun g t8=>Cb g .geq t12 t8 (fun g=>Ly g E 12 fun g t12_1=>Ly g E 8 fun g t8_1=>Bn g .sub t12_1 t8_1 fun g t48=>Gt g M c (qp 29) Q ((12,t48)::E) D H) (fun g=>Gt g M c (qp 29) Q E D H)) /\
 (∀ Q E D H,W M c (qp 29) true Q E D H =
  Lz E 0 fun g t0=>Ly g E 11 fun g t11=>Ly g E 1 fun g t1=>Ly g E 12 fun g t12=>Bn g .add t1 t12 fun g t54=>Bn g .add t1 t12 fun g t58=>B3 g ((Op.indexSl 21) [t0,t58]) fun g t59=>B3 g ((Op.loadN 21) [t59] H) fun g t60=>B3 g ((Op.indexSl 21) [t0,t11]) fun g t63=>B3 g ((Op.loadN 21) [t63] H) fun g t64=>B3 g ((Op.indexSl 21) [t0,t11]) fun g t65=>B32 g ((Op.store 21) [t65,t60] H) fun g u H1=>B3 g ((Op.indexSl 21) [t0,t54]) fun g t66=>B32 g ((Op.store 21) [t66,t64] H1) fun g u_1 H2=>GO3 g Q .normal E D H2):=by (repeat' apply And.intro)<;>(intro _ _ _ _;refine W_unf ?_;kernel_rfl)
theorem qff:(cProg Try.prog).func x9=some vo/\vo.results=[]:=za (by kernel_rfl)
theorem qfg (h:W M ⟨none,x9⟩ (qp 0) true (FIN3 M [] Q) [(0,a0),(1,a1),(2,a2),(3,a3)] [] H):yw M x9 [a0,a1,a2,a3] H Q:=callf (by decide) qff (ks:=qcb) (by kernel_rfl) h
def wl:AFunc:=funcAt Try.prog zp
def qco:Kp:=⟨[0,1,2,3,8,9,10,11,12,13,14,55],false,[0,4,8,12,16,26,28]⟩
def qv (k:Nat):Kp × ACode:=(qco,part wl.body k)
theorem qfz (M:Mac) (c:Ctx):(∀ Q E D H,W M c (qv 0) true Q E D H =
 Lz E 2 fun g t2=>Ly g E 1 fun g t1=>Bn g .sub t2 t1 fun g t17=>W M c (qv 4) g Q ((10,t17)::(9,(.int .i64 0))::(8,(.int .i64 0))::E) D H) /\
 (∀ Q E D H,W M c (qv 4) true Q E D H =
  A3 true T_int [(.int .i64 0)] H fun g t11 H1=>Ly g E 1 fun g t1=>Ly g E 10 fun g t10=>Bn g .quo t10 (.int .i64 4) fun g t20=>Bn g .mul t20 (.int .i64 1) fun g t21=>Bn g .add t1 t21 fun g t22=>W M c (qv 8) g Q ((12,t22)::(11,t11)::E) D H1) /\
 (∀ Q E D H,W M c (qv 8) true Q E D H =
  Lz E 1 fun g t1=>Ly g E 10 fun g t10=>Bn g .quo t10 (.int .i64 4) fun g t25=>Bn g .mul t25 (.int .i64 2) fun g t26=>Bn g .add t1 t26 fun g t27=>Ly g E 1 fun g t1_1=>Ly g E 10 fun g t10_1=>Bn g .quo t10_1 (.int .i64 4) fun g t30=>Bn g .mul t30 (.int .i64 3) fun g t31=>Bn g .add t1_1 t31 fun g t32=>W M c (qv 12) g Q ((14,t32)::(13,t27)::E) D H) /\
 (∀ Q E D H,W M c (qv 12) true Q E D H =
  Lz E 10 fun g t10=>Cb g .geq t10 (.int .i64 8) (fun g=>W M c (qv 16) g (SEQ3 (W M c (qv 28)) Q) E D H) (fun g=>Gt g M c (qv 28) Q E D H)) /\
 (∀ Q E D H,W M c (qv 28) true Q E D H =
  Lz E 11 fun g t11=>B3 g (Op.load1 [t11] H) fun g t55=>Cb g .eql t55 (.int .i64 0) (fun g=>Ly g E 13 fun g t13=>GO3 g (BLK3 0 Q) .ret ((9,(.int .i64 1))::(8,t13)::(55,t55)::E) D H) (fun g=>Cb g .eql t55 (.int .i64 12) (fun g=>Ly g E 13 fun g t13=>GO3 g (BLK3 0 Q) .ret ((9,(.int .i64 2))::(8,t13)::(55,t55)::E) D H) (fun g=>Ly g E 13 fun g t13=>GO3 g (BLK3 0 Q) .ret ((9,(.int .i64 0))::(8,t13)::(55,t55)::E) D H))) /\
 (∀ Q E D H,W M c (qv 16) true Q E D H =
  Lz E 10 fun g t10=>Cb g .geq t10 (.int .i64 50) (fun g=>Ly g E 0 fun g t0=>Ly g E 12 fun g t12=>Ly g E 3 fun g t3=>Ly g E 11 fun g t11=>C3 M g (.func vd) [t0,t12,t11,t3] H fun g t40 H1=>Ly g E 0 fun g t0_1=>Ly g E 13 fun g t13=>Ly g E 3 fun g t3_1=>Ly g E 11 fun g t11_1=>C3 M g (.func vd) [t0_1,t13,t11_1,t3_1] H1 fun g t44 H2=>Ly g E 0 fun g t0_2=>Ly g E 14 fun g t14=>Ly g E 3 fun g t3_2=>Ly g E 11 fun g t11_2=>C3 M g (.func vd) [t0_2,t14,t11_2,t3_2] H2 fun g t48 H3=>Gt g M c (qv 26) Q ((14,t48)::(13,t44)::(12,t40)::E) D H3) (fun g=>Gt g M c (qv 26) Q E D H)) /\
 (∀ Q E D H,W M c (qv 26) true Q E D H =
  Lz E 0 fun g t0=>Ly g E 12 fun g t12=>Ly g E 13 fun g t13=>Ly g E 14 fun g t14=>Ly g E 3 fun g t3=>Ly g E 11 fun g t11=>C3 M g (.func j7) [t0,t12,t13,t14,t11,t3] H fun g t54 H1=>GO3 g Q .normal ((13,t54)::E) D H1):=by (repeat' apply And.intro)<;>(intro _ _ _ _;refine W_unf ?_;kernel_rfl)
theorem qfx:(cProg Try.prog).func zp=some wl/\wl.results=[.tmp 8,.tmp 9]:=za (by kernel_rfl)
theorem qfy (h:W M ⟨none,zp⟩ (qv 0) true (FIN3 M [.tmp 8,.tmp 9] Q) [(0,a0),(1,a1),(2,a2),(3,a3)] [] H):yw M zp [a0,a1,a2,a3] H Q:=callf (by decide) qfx (ks:=qco) (by kernel_rfl) h
def we:AFunc:=funcAt Try.prog zy
def qcf:Kp:=⟨[0,1,2,3,8,9],false,[0,6,12]⟩
def z4 (k:Nat):Kp × ACode:=(qcf,part we.body k)
theorem qfw (M:Mac) (c:Ctx):(∀ Q E D H,W M c (z4 0) true Q E D H =
 Lz E 1 fun g t1=>Ly g E 2 fun g t2=>Bn g .sub t2 (.int .i64 1) fun g t12=>LOOP3 (W M c (z4 6)) (BLK3 0 Q) ((9,t12)::(8,t1)::E) D H) /\
 (∀ Q E D H,W M c (z4 6) true Q E D H =
  Lz E 8 fun g t8=>Ly g E 9 fun g t9=>Cb g .lss t8 t9 (fun g=>Gt g M c (z4 12) Q E D H) (fun g=>GO3 g (SEQ3 (W M c (z4 12)) Q) (.exit 0) E D H)) /\
 (∀ Q E D H,W M c (z4 12) true Q E D H =
  Lz E 0 fun g t0=>Ly g E 8 fun g t8=>Ly g E 9 fun g t9=>B3 g ((Op.indexSl 21) [t0,t9]) fun g t22=>B3 g ((Op.loadN 21) [t22] H) fun g t23=>B3 g ((Op.indexSl 21) [t0,t8]) fun g t26=>B3 g ((Op.loadN 21) [t26] H) fun g t27=>B3 g ((Op.indexSl 21) [t0,t8]) fun g t28=>B32 g ((Op.store 21) [t28,t23] H) fun g u H1=>B3 g ((Op.indexSl 21) [t0,t9]) fun g t29=>B32 g ((Op.store 21) [t29,t27] H1) fun g u_1 H2=>Ly g E 8 fun g t8_1=>Bn g .add t8_1 (.int .i64 1) fun g t31=>Ly g E 9 fun g t9_1=>Bn g .sub t9_1 (.int .i64 1) fun g t33=>GO3 g (BLK3 1 Q) .normal ((9,t33)::(8,t31)::E) D H2):=by (repeat' apply And.intro)<;>(intro _ _ _ _;refine W_unf ?_;kernel_rfl)
theorem qfu:(cProg Try.prog).func zy=some we/\we.results=[]:=za (by kernel_rfl)
theorem qfv (h:W M ⟨none,zy⟩ (z4 0) true (FIN3 M [] Q) [(0,a0),(1,a1),(2,a2),(3,a3)] [] H):yw M zy [a0,a1,a2,a3] H Q:=callf (by decide) qfu (ks:=qcf) (by kernel_rfl) h
def ky:AFunc:=funcAt Try.prog zf
def qah:Kp:=⟨[0,1,2,3,8,9,10,11,12],false,[0,4,9,15,20,26,28,36,44,46,54,60,68,69,71,78,84,92,93,95,96]⟩
def qc (k:Nat):Kp × ACode:=(qah,part ky.body k)
theorem qdy (M:Mac) (c:Ctx):(∀ Q E D H,W M c (qc 0) true Q E D H =
 Lz E 1 fun g t1=>Bn g .add t1 (.int .i64 1) fun g t14=>W M c (qc 4) g Q ((9,t14)::(8,(.bool false))::E) D H) /\
 (∀ Q E D H,W M c (qc 4) true Q E D H =
  LOOP3 (W M c (qc 9)) (BLK3 0 (SEQ3 (W M c (qc 96)) Q)) ((10,(.int .i64 0))::E) D H) /\
 (∀ Q E D H,W M c (qc 96) true Q E D H =
  GO3 true Q .ret ((8,(.bool false))::E) D H) /\
 (∀ Q E D H,W M c (qc 9) true Q E D H =
  Lz E 10 fun g t10=>Cb g .lss t10 (.int .i64 5) (fun g=>Gt g M c (qc 15) Q E D H) (fun g=>GO3 g (SEQ3 (W M c (qc 15)) Q) (.exit 0) E D H)) /\
 (∀ Q E D H,W M c (qc 15) true Q E D H =
  LOOP3 (W M c (qc 20)) (BLK3 2 (SEQ3 (W M c (qc 28)) (BLK3 1 (SEQ3 (W M c (qc 95)) Q)))) E D H) /\
 (∀ Q E D H,W M c (qc 95) true Q E D H =
  Lz E 10 fun g t10=>Bn g .add t10 (.int .i64 1) fun g t18=>GO3 g Q .normal ((10,t18)::E) D H) /\
 (∀ Q E D H,W M c (qc 28) true Q E D H =
  Lz E 9 fun g t9=>Ly g E 2 fun g t2=>Cb g .eql t9 t2 (fun g=>GO3 g (SEQ3 (W M c (qc 36)) Q) .ret ((8,(.bool true))::E) D H) (fun g=>Gt g M c (qc 36) Q E D H)) /\
 (∀ Q E D H,W M c (qc 20) true Q E D H =
  Lz E 9 fun g t9=>Ly g E 2 fun g t2=>Bn g .lss t9 t2 fun g t21=>JN (fun (k:Bool->AV->AV->AV->AV->AV->AV->AV->AV->AV->AV->AV->AV->AV->AHeap->Prop)=>B3 g (wantV true (some t21)) fun g w=>IG3 g w (fun g=>Ly g E 3 fun g t3=>Ly g E 0 fun g t0=>B3 g ((Op.indexSl 21) [t0,t9]) fun g t26=>B3 g ((Op.loadN 21) [t26] H) fun g t27=>Bn g .sub t9 (.int .i64 1) fun g t30=>B3 g ((Op.indexSl 21) [t0,t30]) fun g t31=>B3 g ((Op.loadN 21) [t31] H) fun g t32=>V3 g [t3,t27,t32] fun g f vs=>C3 M g f vs H fun g t33 H1=>Bn g .lss t33 (.int .i64 0) fun g t34=>B3 g ((Op.un .not) [t34]) fun g t35=>k g t35 t34 t33 t32 t31 t30 t9 t0 t27 t26 t9 t0 t3 H1) (fun g=>k g uu uu uu uu uu uu uu uu uu uu uu uu uu H)) (fun g t35_1 t34_1 t33_1 t32_1 t31_1 t30_1 t29_1 t28_1 t27_1 t26_1 t25_1 t24_1 t23_1 H2=>B3 g (Op.pick [t21,t35_1,(.bool false)]) fun g t36=>IF3 g t36 (fun g=>Gt g M c (qc 26) Q E D H2) (fun g=>GO3 g (SEQ3 (W M c (qc 26)) Q) (.exit 2) E D H2))) /\
 (∀ Q E D H,W M c (qc 36) true Q E D H =
  Lz E 2 fun g t2=>Ly g E 1 fun g t1=>Bn g .sub t2 t1 fun g t44=>Cb g .lss t44 (.int .i64 50) (fun g=>GO3 g (SEQ3 (W M c (qc 44)) Q) .ret ((8,(.bool false))::E) D H) (fun g=>Gt g M c (qc 44) Q E D H)) /\
 (∀ Q E D H,W M c (qc 26) true Q E D H =
  Lz E 9 fun g t9=>Bn g .add t9 (.int .i64 1) fun g t38=>GO3 g (BLK3 3 Q) .normal ((9,t38)::E) D H) /\
 (∀ Q E D H,W M c (qc 44) true Q E D H =
  Lz E 0 fun g t0=>Ly g E 9 fun g t9=>Bn g .sub t9 (.int .i64 1) fun g t50=>Bn g .sub t9 (.int .i64 1) fun g t53=>B3 g ((Op.indexSl 21) [t0,t53]) fun g t54=>B3 g ((Op.loadN 21) [t54] H) fun g t55=>B3 g ((Op.indexSl 21) [t0,t9]) fun g t58=>B3 g ((Op.loadN 21) [t58] H) fun g t59=>B3 g ((Op.indexSl 21) [t0,t9]) fun g t60=>B32 g ((Op.store 21) [t60,t55] H) fun g u H1=>B3 g ((Op.indexSl 21) [t0,t50]) fun g t61=>B32 g ((Op.store 21) [t61,t59] H1) fun g u_1 H2=>W M c (qc 46) g Q E D H2) /\
 (∀ Q E D H,W M c (qc 46) true Q E D H =
  Lz E 9 fun g t9=>Ly g E 1 fun g t1=>Bn g .sub t9 t1 fun g t64=>Cb g .geq t64 (.int .i64 2) (fun g=>Ly g E 9 fun g t9_1=>Bn g .sub t9_1 (.int .i64 1) fun g t67=>LOOP3 (W M c (qc 54)) (BLK3 4 (SEQ3 (W M c (qc 71)) Q)) ((11,t67)::E) D H) (fun g=>Gt g M c (qc 71) Q E D H)) /\
 (∀ Q E D H,W M c (qc 71) true Q E D H =
  Lz E 2 fun g t2=>Ly g E 9 fun g t9=>Bn g .sub t2 t9 fun g t103=>Cb g .geq t103 (.int .i64 2) (fun g=>Ly g E 9 fun g t9_1=>Bn g .add t9_1 (.int .i64 1) fun g t106=>LOOP3 (W M c (qc 78)) (BLK3 6 Q) ((12,t106)::E) D H) (fun g=>GO3 g Q .normal E D H)) /\
 (∀ Q E D H,W M c (qc 54) true Q E D H =
  Lz E 11 fun g t11=>Cb g .geq t11 (.int .i64 1) (fun g=>Gt g M c (qc 60) Q E D H) (fun g=>GO3 g (SEQ3 (W M c (qc 60)) Q) (.exit 4) E D H)) /\
 (∀ Q E D H,W M c (qc 78) true Q E D H =
  Lz E 12 fun g t12=>Ly g E 2 fun g t2=>Cb g .lss t12 t2 (fun g=>Gt g M c (qc 84) Q E D H) (fun g=>GO3 g (SEQ3 (W M c (qc 84)) Q) (.exit 6) E D H)) /\
 (∀ Q E D H,W M c (qc 60) true Q E D H =
  Lz E 3 fun g t3=>Ly g E 0 fun g t0=>Ly g E 11 fun g t11=>B3 g ((Op.indexSl 21) [t0,t11]) fun g t75=>B3 g ((Op.loadN 21) [t75] H) fun g t76=>Bn g .sub t11 (.int .i64 1) fun g t79=>B3 g ((Op.indexSl 21) [t0,t79]) fun g t80=>B3 g ((Op.loadN 21) [t80] H) fun g t81=>V3 g [t3,t76,t81] fun g f vs=>C3 M g f vs H fun g t82 H1=>Bn g .lss t82 (.int .i64 0) fun g t83=>B3 g ((Op.un .not) [t83]) fun g t84=>IF3 g t84 (fun g=>GO3 g (SEQ3 (W M c (qc 68)) (BLK3 5 (SEQ3 (W M c (qc 69)) Q))) (.exit 4) E D H1) (fun g=>Gt g M c (qc 68) (BLK3 5 (SEQ3 (W M c (qc 69)) Q)) E D H1)) /\
 (∀ Q E D H,W M c (qc 84) true Q E D H =
  Lz E 3 fun g t3=>Ly g E 0 fun g t0=>Ly g E 12 fun g t12=>B3 g ((Op.indexSl 21) [t0,t12]) fun g t115=>B3 g ((Op.loadN 21) [t115] H) fun g t116=>Bn g .sub t12 (.int .i64 1) fun g t119=>B3 g ((Op.indexSl 21) [t0,t119]) fun g t120=>B3 g ((Op.loadN 21) [t120] H) fun g t121=>V3 g [t3,t116,t121] fun g f vs=>C3 M g f vs H fun g t122 H1=>Bn g .lss t122 (.int .i64 0) fun g t123=>B3 g ((Op.un .not) [t123]) fun g t124=>IF3 g t124 (fun g=>GO3 g (SEQ3 (W M c (qc 92)) (BLK3 7 (SEQ3 (W M c (qc 93)) Q))) (.exit 6) E D H1) (fun g=>Gt g M c (qc 92) (BLK3 7 (SEQ3 (W M c (qc 93)) Q)) E D H1)) /\
 (∀ Q E D H,W M c (qc 69) true Q E D H =
  Lz E 11 fun g t11=>Bn g .sub t11 (.int .i64 1) fun g t71=>GO3 g Q .normal ((11,t71)::E) D H) /\
 (∀ Q E D H,W M c (qc 68) true Q E D H =
  Lz E 0 fun g t0=>Ly g E 11 fun g t11=>Bn g .sub t11 (.int .i64 1) fun g t89=>Bn g .sub t11 (.int .i64 1) fun g t92=>B3 g ((Op.indexSl 21) [t0,t92]) fun g t93=>B3 g ((Op.loadN 21) [t93] H) fun g t94=>B3 g ((Op.indexSl 21) [t0,t11]) fun g t97=>B3 g ((Op.loadN 21) [t97] H) fun g t98=>B3 g ((Op.indexSl 21) [t0,t11]) fun g t99=>B32 g ((Op.store 21) [t99,t94] H) fun g u H1=>B3 g ((Op.indexSl 21) [t0,t89]) fun g t100=>B32 g ((Op.store 21) [t100,t98] H1) fun g u_1 H2=>GO3 g Q .normal E D H2) /\
 (∀ Q E D H,W M c (qc 93) true Q E D H =
  Lz E 12 fun g t12=>Bn g .add t12 (.int .i64 1) fun g t111=>GO3 g Q .normal ((12,t111)::E) D H) /\
 (∀ Q E D H,W M c (qc 92) true Q E D H =
  Lz E 0 fun g t0=>Ly g E 12 fun g t12=>Bn g .sub t12 (.int .i64 1) fun g t129=>Bn g .sub t12 (.int .i64 1) fun g t132=>B3 g ((Op.indexSl 21) [t0,t132]) fun g t133=>B3 g ((Op.loadN 21) [t133] H) fun g t134=>B3 g ((Op.indexSl 21) [t0,t12]) fun g t137=>B3 g ((Op.loadN 21) [t137] H) fun g t138=>B3 g ((Op.indexSl 21) [t0,t12]) fun g t139=>B32 g ((Op.store 21) [t139,t134] H) fun g u H1=>B3 g ((Op.indexSl 21) [t0,t129]) fun g t140=>B32 g ((Op.store 21) [t140,t138] H1) fun g u_1 H2=>GO3 g Q .normal E D H2):=by (repeat' apply And.intro)<;>(intro _ _ _ _;refine W_unf ?_;kernel_rfl)
theorem qdw:(cProg Try.prog).func zf=some ky/\ky.results=[.tmp 8]:=za (by kernel_rfl)
theorem qdx (h:W M ⟨none,zf⟩ (qc 0) true (FIN3 M [.tmp 8] Q) [(0,a0),(1,a1),(2,a2),(3,a3)] [] H):yw M zf [a0,a1,a2,a3] H Q:=callf (by decide) qdw (ks:=qah) (by kernel_rfl) h
def ve:AFunc:=funcAt Try.prog xp
def qb3:Kp:=⟨[0,1,2,3,4,10,11,12],false,[0,4,6,9,13,19,21,24,30,32,38,43]⟩
def qh (k:Nat):Kp × ACode:=(qb3,part ve.body k)
theorem vf (M:Mac) (c:Ctx):(∀ Q E D H,W M c (qh 0) true Q E D H =
 Lz E 0 fun g t0=>Ly g E 1 fun g t1=>Ly g E 3 fun g t3=>B3 g ((Op.indexSl 21) [t0,t3]) fun g t19=>B3 g ((Op.loadN 21) [t19] H) fun g t20=>B3 g ((Op.indexSl 21) [t0,t1]) fun g t23=>B3 g ((Op.loadN 21) [t23] H) fun g t24=>B3 g ((Op.indexSl 21) [t0,t1]) fun g t25=>B32 g ((Op.store 21) [t25,t20] H) fun g u H1=>B3 g ((Op.indexSl 21) [t0,t3]) fun g t26=>B32 g ((Op.store 21) [t26,t24] H1) fun g u_1 H2=>W M c (qh 4) g Q ((10,(.int .i64 0))::E) D H2) /\
 (∀ Q E D H,W M c (qh 4) true Q E D H =
  Lz E 1 fun g t1=>Bn g .add t1 (.int .i64 1) fun g t28=>Ly g E 2 fun g t2=>Bn g .sub t2 (.int .i64 1) fun g t30=>W M c (qh 6) g Q ((12,t30)::(11,t28)::E) D H) /\
 (∀ Q E D H,W M c (qh 6) true Q E D H =
  LOOP3 (W M c (qh 9)) (BLK3 0 (SEQ3 (W M c (qh 43)) Q)) E D H) /\
 (∀ Q E D H,W M c (qh 43) true Q E D H =
  Lz E 11 fun g t11=>GO3 g Q .ret ((10,t11)::E) D H) /\
 (∀ Q E D H,W M c (qh 9) true Q E D H =
  LOOP3 (W M c (qh 13)) (BLK3 2 (SEQ3 (W M c (qh 21)) (BLK3 1 Q))) E D H) /\
 (∀ Q E D H,W M c (qh 21) true Q E D H =
  LOOP3 (W M c (qh 24)) (BLK3 4 (SEQ3 (W M c (qh 32)) Q)) E D H) /\
 (∀ Q E D H,W M c (qh 13) true Q E D H =
  Lz E 11 fun g t11=>Ly g E 12 fun g t12=>Bn g .leq t11 t12 fun g t33=>JN (fun (k:Bool->AV->AV->AV->AV->AV->AV->AV->AV->AV->AV->AV->AV->AHeap->Prop)=>B3 g (wantV true (some t33)) fun g w=>IG3 g w (fun g=>Ly g E 4 fun g t4=>Ly g E 0 fun g t0=>Ly g E 1 fun g t1=>B3 g ((Op.indexSl 21) [t0,t1]) fun g t38=>B3 g ((Op.loadN 21) [t38] H) fun g t39=>B3 g ((Op.indexSl 21) [t0,t11]) fun g t42=>B3 g ((Op.loadN 21) [t42] H) fun g t43=>V3 g [t4,t39,t43] fun g f vs=>C3 M g f vs H fun g t44 H1=>Bn g .lss t44 (.int .i64 0) fun g t45=>B3 g ((Op.un .not) [t45]) fun g t46=>k g t46 t45 t44 t43 t42 t11 t0 t39 t38 t1 t0 t4 H1) (fun g=>k g uu uu uu uu uu uu uu uu uu uu uu uu H)) (fun g t46_1 t45_1 t44_1 t43_1 t42_1 t41_1 t40_1 t39_1 t38_1 t37_1 t36_1 t35_1 H2=>B3 g (Op.pick [t33,t46_1,(.bool false)]) fun g t47=>IF3 g t47 (fun g=>Gt g M c (qh 19) Q E D H2) (fun g=>GO3 g (SEQ3 (W M c (qh 19)) Q) (.exit 2) E D H2))) /\
 (∀ Q E D H,W M c (qh 32) true Q E D H =
  Lz E 11 fun g t11=>Ly g E 12 fun g t12=>Cb g .gtr t11 t12 (fun g=>GO3 g (SEQ3 (W M c (qh 38)) Q) (.exit 0) E D H) (fun g=>Gt g M c (qh 38) Q E D H)) /\
 (∀ Q E D H,W M c (qh 24) true Q E D H =
  Lz E 11 fun g t11=>Ly g E 12 fun g t12=>Bn g .leq t11 t12 fun g t52=>JN (fun (k:Bool->AV->AV->AV->AV->AV->AV->AV->AV->AV->AV->AV->AHeap->Prop)=>B3 g (wantV true (some t52)) fun g w=>IG3 g w (fun g=>Ly g E 4 fun g t4=>Ly g E 0 fun g t0=>Ly g E 1 fun g t1=>B3 g ((Op.indexSl 21) [t0,t1]) fun g t57=>B3 g ((Op.loadN 21) [t57] H) fun g t58=>B3 g ((Op.indexSl 21) [t0,t12]) fun g t61=>B3 g ((Op.loadN 21) [t61] H) fun g t62=>V3 g [t4,t58,t62] fun g f vs=>C3 M g f vs H fun g t63 H1=>Bn g .lss t63 (.int .i64 0) fun g t64=>k g t64 t63 t62 t61 t12 t0 t58 t57 t1 t0 t4 H1) (fun g=>k g uu uu uu uu uu uu uu uu uu uu uu H)) (fun g t64_1 t63_1 t62_1 t61_1 t60_1 t59_1 t58_1 t57_1 t56_1 t55_1 t54_1 H2=>B3 g (Op.pick [t52,t64_1,(.bool false)]) fun g t65=>IF3 g t65 (fun g=>Gt g M c (qh 30) Q E D H2) (fun g=>GO3 g (SEQ3 (W M c (qh 30)) Q) (.exit 4) E D H2))) /\
 (∀ Q E D H,W M c (qh 19) true Q E D H =
  Lz E 11 fun g t11=>Bn g .add t11 (.int .i64 1) fun g t49=>GO3 g (BLK3 3 Q) .normal ((11,t49)::E) D H) /\
 (∀ Q E D H,W M c (qh 38) true Q E D H =
  Lz E 0 fun g t0=>Ly g E 11 fun g t11=>Ly g E 12 fun g t12=>B3 g ((Op.indexSl 21) [t0,t12]) fun g t77=>B3 g ((Op.loadN 21) [t77] H) fun g t78=>B3 g ((Op.indexSl 21) [t0,t11]) fun g t81=>B3 g ((Op.loadN 21) [t81] H) fun g t82=>B3 g ((Op.indexSl 21) [t0,t11]) fun g t83=>B32 g ((Op.store 21) [t83,t78] H) fun g u H1=>B3 g ((Op.indexSl 21) [t0,t12]) fun g t84=>B32 g ((Op.store 21) [t84,t82] H1) fun g u_1 H2=>Ly g E 11 fun g t11_1=>Bn g .add t11_1 (.int .i64 1) fun g t86=>Ly g E 12 fun g t12_1=>Bn g .sub t12_1 (.int .i64 1) fun g t88=>GO3 g Q .normal ((12,t88)::(11,t86)::E) D H2) /\
 (∀ Q E D H,W M c (qh 30) true Q E D H =
  Lz E 12 fun g t12=>Bn g .sub t12 (.int .i64 1) fun g t67=>GO3 g (BLK3 5 Q) .normal ((12,t67)::E) D H):=by (repeat' apply And.intro)<;>(intro _ _ _ _;refine W_unf ?_;kernel_rfl)
theorem qe0:(cProg Try.prog).func xp=some ve/\ve.results=[.tmp 10]:=za (by kernel_rfl)
theorem qe1 (h:W M ⟨none,xp⟩ (qh 0) true (FIN3 M [.tmp 10] Q) [(0,a0),(1,a1),(2,a2),(3,a3),(4,a4)] [] H):yw M xp [a0,a1,a2,a3,a4] H Q:=callf (by decide) qe0 (ks:=qb3) (by kernel_rfl) h
def qan:AFunc:=funcAt Try.prog xj
def qdb:Kp:=⟨[0,1,2,3,4,10,11,12,13],false,[0,4,6,9,15,17,20,26,28,38,42,44,47,51,57,59,62,68,70,76,81]⟩
def qd (k:Nat):Kp × ACode:=(qdb,part qan.body k)
theorem ki (M:Mac) (c:Ctx):(∀ Q E D H,W M c (qd 0) true Q E D H =
 Lz E 0 fun g t0=>Ly g E 1 fun g t1=>Ly g E 3 fun g t3=>B3 g ((Op.indexSl 21) [t0,t3]) fun g t20=>B3 g ((Op.loadN 21) [t20] H) fun g t21=>B3 g ((Op.indexSl 21) [t0,t1]) fun g t24=>B3 g ((Op.loadN 21) [t24] H) fun g t25=>B3 g ((Op.indexSl 21) [t0,t1]) fun g t26=>B32 g ((Op.store 21) [t26,t21] H) fun g u H1=>B3 g ((Op.indexSl 21) [t0,t3]) fun g t27=>B32 g ((Op.store 21) [t27,t25] H1) fun g u_1 H2=>W M c (qd 4) g Q ((11,(.bool false))::(10,(.int .i64 0))::E) D H2) /\
 (∀ Q E D H,W M c (qd 4) true Q E D H =
  Lz E 1 fun g t1=>Bn g .add t1 (.int .i64 1) fun g t29=>Ly g E 2 fun g t2=>Bn g .sub t2 (.int .i64 1) fun g t31=>W M c (qd 6) g Q ((13,t31)::(12,t29)::E) D H) /\
 (∀ Q E D H,W M c (qd 6) true Q E D H =
  LOOP3 (W M c (qd 9)) (BLK3 0 (SEQ3 (W M c (qd 17)) Q)) E D H) /\
 (∀ Q E D H,W M c (qd 17) true Q E D H =
  LOOP3 (W M c (qd 20)) (BLK3 2 (SEQ3 (W M c (qd 28)) Q)) E D H) /\
 (∀ Q E D H,W M c (qd 9) true Q E D H =
  Lz E 12 fun g t12=>Ly g E 13 fun g t13=>Bn g .leq t12 t13 fun g t34=>JN (fun (k:Bool->AV->AV->AV->AV->AV->AV->AV->AV->AV->AV->AV->AHeap->Prop)=>B3 g (wantV true (some t34)) fun g w=>IG3 g w (fun g=>Ly g E 4 fun g t4=>Ly g E 0 fun g t0=>B3 g ((Op.indexSl 21) [t0,t12]) fun g t39=>B3 g ((Op.loadN 21) [t39] H) fun g t40=>Ly g E 1 fun g t1=>B3 g ((Op.indexSl 21) [t0,t1]) fun g t43=>B3 g ((Op.loadN 21) [t43] H) fun g t44=>V3 g [t4,t40,t44] fun g f vs=>C3 M g f vs H fun g t45 H1=>Bn g .lss t45 (.int .i64 0) fun g t46=>k g t46 t45 t44 t43 t1 t0 t40 t39 t12 t0 t4 H1) (fun g=>k g uu uu uu uu uu uu uu uu uu uu uu H)) (fun g t46_1 t45_1 t44_1 t43_1 t42_1 t41_1 t40_1 t39_1 t38_1 t37_1 t36_1 H2=>B3 g (Op.pick [t34,t46_1,(.bool false)]) fun g t47=>IF3 g t47 (fun g=>Gt g M c (qd 15) Q E D H2) (fun g=>GO3 g (SEQ3 (W M c (qd 15)) Q) (.exit 0) E D H2))) /\
 (∀ Q E D H,W M c (qd 28) true Q E D H =
  Lz E 12 fun g t12=>Ly g E 13 fun g t13=>Cb g .gtr t12 t13 (fun g=>Ly g E 0 fun g t0=>Ly g E 13 fun g t13_1=>Ly g E 1 fun g t1=>B3 g ((Op.indexSl 21) [t0,t1]) fun g t78=>B3 g ((Op.loadN 21) [t78] H) fun g t79=>B3 g ((Op.indexSl 21) [t0,t13_1]) fun g t82=>B3 g ((Op.loadN 21) [t82] H) fun g t83=>B3 g ((Op.indexSl 21) [t0,t13_1]) fun g t84=>B32 g ((Op.store 21) [t84,t79] H) fun g u H1=>B3 g ((Op.indexSl 21) [t0,t1]) fun g t85=>B32 g ((Op.store 21) [t85,t83] H1) fun g u_1 H2=>Ly g E 13 fun g t13_2=>GO3 g (SEQ3 (W M c (qd 38)) Q) .ret ((11,(.bool true))::(10,t13_2)::E) D H2) (fun g=>Gt g M c (qd 38) Q E D H)) /\
 (∀ Q E D H,W M c (qd 20) true Q E D H =
  Lz E 12 fun g t12=>Ly g E 13 fun g t13=>Bn g .leq t12 t13 fun g t52=>JN (fun (k:Bool->AV->AV->AV->AV->AV->AV->AV->AV->AV->AV->AV->AV->AHeap->Prop)=>B3 g (wantV true (some t52)) fun g w=>IG3 g w (fun g=>Ly g E 4 fun g t4=>Ly g E 0 fun g t0=>B3 g ((Op.indexSl 21) [t0,t13]) fun g t57=>B3 g ((Op.loadN 21) [t57] H) fun g t58=>Ly g E 1 fun g t1=>B3 g ((Op.indexSl 21) [t0,t1]) fun g t61=>B3 g ((Op.loadN 21) [t61] H) fun g t62=>V3 g [t4,t58,t62] fun g f vs=>C3 M g f vs H fun g t63 H1=>Bn g .lss t63 (.int .i64 0) fun g t64=>B3 g ((Op.un .not) [t64]) fun g t65=>k g t65 t64 t63 t62 t61 t1 t0 t58 t57 t13 t0 t4 H1) (fun g=>k g uu uu uu uu uu uu uu uu uu uu uu uu H)) (fun g t65_1 t64_1 t63_1 t62_1 t61_1 t60_1 t59_1 t58_1 t57_1 t56_1 t55_1 t54_1 H2=>B3 g (Op.pick [t52,t65_1,(.bool false)]) fun g t66=>IF3 g t66 (fun g=>Gt g M c (qd 26) Q E D H2) (fun g=>GO3 g (SEQ3 (W M c (qd 26)) Q) (.exit 2) E D H2))) /\
 (∀ Q E D H,W M c (qd 15) true Q E D H =
  Lz E 12 fun g t12=>Bn g .add t12 (.int .i64 1) fun g t49=>GO3 g (BLK3 1 Q) .normal ((12,t49)::E) D H) /\
 (∀ Q E D H,W M c (qd 38) true Q E D H =
  Lz E 0 fun g t0=>Ly g E 12 fun g t12=>Ly g E 13 fun g t13=>B3 g ((Op.indexSl 21) [t0,t13]) fun g t93=>B3 g ((Op.loadN 21) [t93] H) fun g t94=>B3 g ((Op.indexSl 21) [t0,t12]) fun g t97=>B3 g ((Op.loadN 21) [t97] H) fun g t98=>B3 g ((Op.indexSl 21) [t0,t12]) fun g t99=>B32 g ((Op.store 21) [t99,t94] H) fun g u H1=>B3 g ((Op.indexSl 21) [t0,t13]) fun g t100=>B32 g ((Op.store 21) [t100,t98] H1) fun g u_1 H2=>Ly g E 12 fun g t12_1=>Bn g .add t12_1 (.int .i64 1) fun g t102=>W M c (qd 42) g Q ((12,t102)::E) D H2) /\
 (∀ Q E D H,W M c (qd 26) true Q E D H =
  Lz E 13 fun g t13=>Bn g .sub t13 (.int .i64 1) fun g t68=>GO3 g (BLK3 3 Q) .normal ((13,t68)::E) D H) /\
 (∀ Q E D H,W M c (qd 42) true Q E D H =
  Lz E 13 fun g t13=>Bn g .sub t13 (.int .i64 1) fun g t104=>W M c (qd 44) g Q ((13,t104)::E) D H) /\
 (∀ Q E D H,W M c (qd 44) true Q E D H =
  LOOP3 (W M c (qd 47)) (BLK3 4 (SEQ3 (W M c (qd 81)) Q)) E D H) /\
 (∀ Q E D H,W M c (qd 81) true Q E D H =
  Lz E 0 fun g t0=>Ly g E 13 fun g t13=>Ly g E 1 fun g t1=>B3 g ((Op.indexSl 21) [t0,t1]) fun g t169=>B3 g ((Op.loadN 21) [t169] H) fun g t170=>B3 g ((Op.indexSl 21) [t0,t13]) fun g t173=>B3 g ((Op.loadN 21) [t173] H) fun g t174=>B3 g ((Op.indexSl 21) [t0,t13]) fun g t175=>B32 g ((Op.store 21) [t175,t170] H) fun g u H1=>B3 g ((Op.indexSl 21) [t0,t1]) fun g t176=>B32 g ((Op.store 21) [t176,t174] H1) fun g u_1 H2=>Ly g E 13 fun g t13_1=>GO3 g Q .ret ((11,(.bool false))::(10,t13_1)::E) D H2) /\
 (∀ Q E D H,W M c (qd 47) true Q E D H =
  LOOP3 (W M c (qd 51)) (BLK3 6 (SEQ3 (W M c (qd 59)) (BLK3 5 Q))) E D H) /\
 (∀ Q E D H,W M c (qd 59) true Q E D H =
  LOOP3 (W M c (qd 62)) (BLK3 8 (SEQ3 (W M c (qd 70)) Q)) E D H) /\
 (∀ Q E D H,W M c (qd 51) true Q E D H =
  Lz E 12 fun g t12=>Ly g E 13 fun g t13=>Bn g .leq t12 t13 fun g t107=>JN (fun (k:Bool->AV->AV->AV->AV->AV->AV->AV->AV->AV->AV->AV->AHeap->Prop)=>B3 g (wantV true (some t107)) fun g w=>IG3 g w (fun g=>Ly g E 4 fun g t4=>Ly g E 0 fun g t0=>B3 g ((Op.indexSl 21) [t0,t12]) fun g t112=>B3 g ((Op.loadN 21) [t112] H) fun g t113=>Ly g E 1 fun g t1=>B3 g ((Op.indexSl 21) [t0,t1]) fun g t116=>B3 g ((Op.loadN 21) [t116] H) fun g t117=>V3 g [t4,t113,t117] fun g f vs=>C3 M g f vs H fun g t118 H1=>Bn g .lss t118 (.int .i64 0) fun g t119=>k g t119 t118 t117 t116 t1 t0 t113 t112 t12 t0 t4 H1) (fun g=>k g uu uu uu uu uu uu uu uu uu uu uu H)) (fun g t119_1 t118_1 t117_1 t116_1 t115_1 t114_1 t113_1 t112_1 t111_1 t110_1 t109_1 H2=>B3 g (Op.pick [t107,t119_1,(.bool false)]) fun g t120=>IF3 g t120 (fun g=>Gt g M c (qd 57) Q E D H2) (fun g=>GO3 g (SEQ3 (W M c (qd 57)) Q) (.exit 6) E D H2))) /\
 (∀ Q E D H,W M c (qd 70) true Q E D H =
  Lz E 12 fun g t12=>Ly g E 13 fun g t13=>Cb g .gtr t12 t13 (fun g=>GO3 g (SEQ3 (W M c (qd 76)) Q) (.exit 4) E D H) (fun g=>Gt g M c (qd 76) Q E D H)) /\
 (∀ Q E D H,W M c (qd 62) true Q E D H =
  Lz E 12 fun g t12=>Ly g E 13 fun g t13=>Bn g .leq t12 t13 fun g t125=>JN (fun (k:Bool->AV->AV->AV->AV->AV->AV->AV->AV->AV->AV->AV->AV->AHeap->Prop)=>B3 g (wantV true (some t125)) fun g w=>IG3 g w (fun g=>Ly g E 4 fun g t4=>Ly g E 0 fun g t0=>B3 g ((Op.indexSl 21) [t0,t13]) fun g t130=>B3 g ((Op.loadN 21) [t130] H) fun g t131=>Ly g E 1 fun g t1=>B3 g ((Op.indexSl 21) [t0,t1]) fun g t134=>B3 g ((Op.loadN 21) [t134] H) fun g t135=>V3 g [t4,t131,t135] fun g f vs=>C3 M g f vs H fun g t136 H1=>Bn g .lss t136 (.int .i64 0) fun g t137=>B3 g ((Op.un .not) [t137]) fun g t138=>k g t138 t137 t136 t135 t134 t1 t0 t131 t130 t13 t0 t4 H1) (fun g=>k g uu uu uu uu uu uu uu uu uu uu uu uu H)) (fun g t138_1 t137_1 t136_1 t135_1 t134_1 t133_1 t132_1 t131_1 t130_1 t129_1 t128_1 t127_1 H2=>B3 g (Op.pick [t125,t138_1,(.bool false)]) fun g t139=>IF3 g t139 (fun g=>Gt g M c (qd 68) Q E D H2) (fun g=>GO3 g (SEQ3 (W M c (qd 68)) Q) (.exit 8) E D H2))) /\
 (∀ Q E D H,W M c (qd 57) true Q E D H =
  Lz E 12 fun g t12=>Bn g .add t12 (.int .i64 1) fun g t122=>GO3 g (BLK3 7 Q) .normal ((12,t122)::E) D H) /\
 (∀ Q E D H,W M c (qd 76) true Q E D H =
  Lz E 0 fun g t0=>Ly g E 12 fun g t12=>Ly g E 13 fun g t13=>B3 g ((Op.indexSl 21) [t0,t13]) fun g t151=>B3 g ((Op.loadN 21) [t151] H) fun g t152=>B3 g ((Op.indexSl 21) [t0,t12]) fun g t155=>B3 g ((Op.loadN 21) [t155] H) fun g t156=>B3 g ((Op.indexSl 21) [t0,t12]) fun g t157=>B32 g ((Op.store 21) [t157,t152] H) fun g u H1=>B3 g ((Op.indexSl 21) [t0,t13]) fun g t158=>B32 g ((Op.store 21) [t158,t156] H1) fun g u_1 H2=>Ly g E 12 fun g t12_1=>Bn g .add t12_1 (.int .i64 1) fun g t160=>Ly g E 13 fun g t13_1=>Bn g .sub t13_1 (.int .i64 1) fun g t162=>GO3 g Q .normal ((13,t162)::(12,t160)::E) D H2) /\
 (∀ Q E D H,W M c (qd 68) true Q E D H =
  Lz E 13 fun g t13=>Bn g .sub t13 (.int .i64 1) fun g t141=>GO3 g (BLK3 9 Q) .normal ((13,t141)::E) D H):=by (repeat' apply And.intro)<;>(intro _ _ _ _;refine W_unf ?_;kernel_rfl)
theorem qgb:(cProg Try.prog).func xj=some qan/\qan.results=[.tmp 10,.tmp 11]:=za (by kernel_rfl)
theorem qgc (h:W M ⟨none,xj⟩ (qd 0) true (FIN3 M [.tmp 10,.tmp 11] Q) [(0,a0),(1,a1),(2,a2),(3,a3),(4,a4)] [] H):yw M xj [a0,a1,a2,a3,a4] H Q:=callf (by decide) qgb (ks:=qdb) (by kernel_rfl) h
def qhl:AFunc:=funcAt Try.prog qcv
def qkl:Kp:=⟨[0,2],false,[0,2,10,18,26]⟩
def kc (k:Nat):Kp × ACode:=(qkl,part qhl.body k)
theorem qqj (M:Mac) (c:Ctx):(∀ Q E D H,W M c (kc 0) true Q E D H =
 W M c (kc 2) true Q ((2,(.int .i64 0))::E) D H) /\
 (∀ Q E D H,W M c (kc 2) true Q E D H =
  Lz E 0 fun g t0=>Cb g .geq t0 (.int .u64 4294967296) (fun g=>Ly g E 0 fun g t0_1=>Bn g .shr t0_1 (.int .u64 32) fun g t6=>Gt g M c (kc 10) Q ((2,(.int .i64 32))::(0,t6)::E) D H) (fun g=>Gt g M c (kc 10) Q E D H)) /\
 (∀ Q E D H,W M c (kc 10) true Q E D H =
  Lz E 0 fun g t0=>Cb g .geq t0 (.int .u64 65536) (fun g=>Ly g E 0 fun g t0_1=>Bn g .shr t0_1 (.int .u64 16) fun g t10=>Ly g E 2 fun g t2=>Bn g .add t2 (.int .i64 16) fun g t12=>Gt g M c (kc 18) Q ((2,t12)::(0,t10)::E) D H) (fun g=>Gt g M c (kc 18) Q E D H)) /\
 (∀ Q E D H,W M c (kc 18) true Q E D H =
  Lz E 0 fun g t0=>Cb g .geq t0 (.int .u64 256) (fun g=>Ly g E 0 fun g t0_1=>Bn g .shr t0_1 (.int .u64 8) fun g t16=>Ly g E 2 fun g t2=>Bn g .add t2 (.int .i64 8) fun g t18=>Gt g M c (kc 26) Q ((2,t18)::(0,t16)::E) D H) (fun g=>Gt g M c (kc 26) Q E D H)) /\
 (∀ Q E D H,W M c (kc 26) true Q E D H =
  Lz E 2 fun g t2=>Ly g E 0 fun g t0=>B3 g ((Op.wrap .u8) [t0]) fun g t21=>B3 g (Op.indexStr [(.str qpx),t21]) fun g t22=>B3 g ((Op.wrap .i64) [t22]) fun g t23=>Bn g .add t2 t23 fun g t24=>GO3 g Q .ret ((2,t24)::E) D H):=by (repeat' apply And.intro)<;>(intro _ _ _ _;refine W_unf ?_;kernel_rfl)
theorem qqh:(cProg Try.prog).func qcv=some qhl/\qhl.results=[.tmp 2]:=za (by kernel_rfl)
theorem qqi (h:W M ⟨none,qcv⟩ (kc 0) true (FIN3 M [.tmp 2] Q) [(0,a0)] [] H):yw M qcv [a0] H Q:=callf (by decide) qqh (ks:=qkl) (by kernel_rfl) h
def qau:AFunc:=funcAt Try.prog zo
def qdf:Kp:=⟨[0,1,2,3,4,10,11],false,[0,4,7,13,19,25]⟩
def xg (k:Nat):Kp × ACode:=(qdf,part qau.body k)
theorem qgj (M:Mac) (c:Ctx):(∀ Q E D H,W M c (xg 0) true Q E D H =
 Lz E 1 fun g t1=>LOOP3 (W M c (xg 4)) (BLK3 0 Q) ((10,t1)::E) D H) /\
 (∀ Q E D H,W M c (xg 4) true Q E D H =
  Lz E 10 fun g t10=>Bn g .mul (.int .i64 2) t10 fun g t14=>Bn g .add t14 (.int .i64 1) fun g t15=>W M c (xg 7) g (BLK3 1 Q) ((11,t15)::E) D H) /\
 (∀ Q E D H,W M c (xg 7) true Q E D H =
  Lz E 11 fun g t11=>Ly g E 2 fun g t2=>Cb g .geq t11 t2 (fun g=>GO3 g (SEQ3 (W M c (xg 13)) Q) (.exit 0) E D H) (fun g=>Gt g M c (xg 13) Q E D H)) /\
 (∀ Q E D H,W M c (xg 13) true Q E D H =
  Lz E 11 fun g t11=>Bn g .add t11 (.int .i64 1) fun g t20=>Ly g E 2 fun g t2=>Bn g .lss t20 t2 fun g t22=>JN (fun (k:Bool->AV->AV->AV->AV->AV->AV->AV->AV->AV->AV->AV->AV->AV->AV->AV->AV->AHeap->Prop)=>B3 g (wantV true (some t22)) fun g w=>IG3 g w (fun g=>Ly g E 4 fun g t4=>Ly g E 0 fun g t0=>Ly g E 3 fun g t3=>Bn g .add t3 t11 fun g t28=>B3 g ((Op.indexSl 21) [t0,t28]) fun g t29=>B3 g ((Op.loadN 21) [t29] H) fun g t30=>Bn g .add t3 t11 fun g t34=>Bn g .add t34 (.int .i64 1) fun g t35=>B3 g ((Op.indexSl 21) [t0,t35]) fun g t36=>B3 g ((Op.loadN 21) [t36] H) fun g t37=>V3 g [t4,t30,t37] fun g f vs=>C3 M g f vs H fun g t38 H1=>Bn g .lss t38 (.int .i64 0) fun g t39=>k g t39 t38 t37 t36 t35 t34 t11 t3 t0 t30 t29 t28 t11 t3 t0 t4 H1) (fun g=>k g uu uu uu uu uu uu uu uu uu uu uu uu uu uu uu uu H)) (fun g t39_1 t38_1 t37_1 t36_1 t35_1 t34_1 t33_1 t32_1 t31_1 t30_1 t29_1 t28_1 t27_1 t26_1 t25_1 t24_1 H2=>B3 g (Op.pick [t22,t39_1,(.bool false)]) fun g t40=>IF3 g t40 (fun g=>Ly g E 11 fun g t11_1=>Bn g .add t11_1 (.int .i64 1) fun g t42=>Gt g M c (xg 19) Q ((11,t42)::E) D H2) (fun g=>Gt g M c (xg 19) Q E D H2))) /\
 (∀ Q E D H,W M c (xg 19) true Q E D H =
  Lz E 4 fun g t4=>Ly g E 0 fun g t0=>Ly g E 3 fun g t3=>Ly g E 10 fun g t10=>Bn g .add t3 t10 fun g t47=>B3 g ((Op.indexSl 21) [t0,t47]) fun g t48=>B3 g ((Op.loadN 21) [t48] H) fun g t49=>Ly g E 11 fun g t11=>Bn g .add t3 t11 fun g t53=>B3 g ((Op.indexSl 21) [t0,t53]) fun g t54=>B3 g ((Op.loadN 21) [t54] H) fun g t55=>V3 g [t4,t49,t55] fun g f vs=>C3 M g f vs H fun g t56 H1=>Bn g .lss t56 (.int .i64 0) fun g t57=>B3 g ((Op.un .not) [t57]) fun g t58=>IF3 g t58 (fun g=>GO3 g (SEQ3 (W M c (xg 25)) Q) .ret E D H1) (fun g=>Gt g M c (xg 25) Q E D H1)) /\
 (∀ Q E D H,W M c (xg 25) true Q E D H =
  Lz E 0 fun g t0=>Ly g E 3 fun g t3=>Ly g E 10 fun g t10=>Bn g .add t3 t10 fun g t62=>Ly g E 11 fun g t11=>Bn g .add t3 t11 fun g t66=>Bn g .add t3 t11 fun g t70=>B3 g ((Op.indexSl 21) [t0,t70]) fun g t71=>B3 g ((Op.loadN 21) [t71] H) fun g t72=>Bn g .add t3 t10 fun g t76=>B3 g ((Op.indexSl 21) [t0,t76]) fun g t77=>B3 g ((Op.loadN 21) [t77] H) fun g t78=>B3 g ((Op.indexSl 21) [t0,t62]) fun g t79=>B32 g ((Op.store 21) [t79,t72] H) fun g u H1=>B3 g ((Op.indexSl 21) [t0,t66]) fun g t80=>B32 g ((Op.store 21) [t80,t78] H1) fun g u_1 H2=>Ly g E 11 fun g t11_1=>GO3 g Q .normal ((10,t11_1)::E) D H2):=by (repeat' apply And.intro)<;>(intro _ _ _ _;refine W_unf ?_;kernel_rfl)
theorem qgh:(cProg Try.prog).func zo=some qau/\qau.results=[]:=za (by kernel_rfl)
theorem qgi (h:W M ⟨none,zo⟩ (xg 0) true (FIN3 M [] Q) [(0,a0),(1,a1),(2,a2),(3,a3),(4,a4)] [] H):yw M zo [a0,a1,a2,a3,a4] H Q:=callf (by decide) qgh (ks:=qdf) (by kernel_rfl) h
def qel:AFunc:=funcAt Try.prog vy
def qgu:Kp:=⟨[0,2],false,[0]⟩
def qgv (k:Nat):Kp × ACode:=(qgu,part qel.body k)
theorem qli (M:Mac) (c:Ctx):(∀ Q E D H,W M c (qgv 0) true Q E D H =
 Lz E 0 fun g t0=>B3 g ((Op.wrap .u64) [t0]) fun g t4=>C3 M g (.func qb9) [t4] H fun g t5 H1=>Bn g .shl (.int .u64 1) t5 fun g t6=>GO3 g Q .ret ((2,t6)::(2,(.int .u64 0))::E) D H1):=by intro _ _ _ _;refine W_unf ?_;kernel_rfl
theorem qlg:(cProg Try.prog).func vy=some qel/\qel.results=[.tmp 2]:=za (by kernel_rfl)
theorem qlh (h:W M ⟨none,vy⟩ (qgv 0) true (FIN3 M [.tmp 2] Q) [(0,a0)] [] H):yw M vy [a0] H Q:=callf (by decide) qlg (ks:=qgu) (by kernel_rfl) h
def qex:AFunc:=funcAt Try.prog wt
def qg6:Kp:=⟨[0,2],false,[0]⟩
def qg7 (k:Nat):Kp × ACode:=(qg6,part qex.body k)
theorem qmb (M:Mac) (c:Ctx):(∀ Q E D H,W M c (qg7 0) true Q E D H =
 Lz E 0 fun g t0=>B3 g (Op.nilCheck [t0]) fun g t4=>B3 g (Op.load1 [t4] H) fun g t5=>B3 g (Op.nilCheck [t0]) fun g t7=>B3 g (Op.load1 [t7] H) fun g t8=>Bn g .shl t8 (.int .u64 13) fun g t9=>Bn g .xor t5 t9 fun g t10=>B3 g (Op.nilCheck [t0]) fun g t11=>B32 g ((Op.store 1) [t11,t10] H) fun g u H1=>Ly g E 0 fun g t0_1=>B3 g (Op.nilCheck [t0_1]) fun g t13=>B3 g (Op.load1 [t13] H1) fun g t14=>B3 g (Op.nilCheck [t0_1]) fun g t16=>B3 g (Op.load1 [t16] H1) fun g t17=>Bn g .shr t17 (.int .u64 7) fun g t18=>Bn g .xor t14 t18 fun g t19=>B3 g (Op.nilCheck [t0_1]) fun g t20=>B32 g ((Op.store 1) [t20,t19] H1) fun g u_1 H2=>Ly g E 0 fun g t0_2=>B3 g (Op.nilCheck [t0_2]) fun g t22=>B3 g (Op.load1 [t22] H2) fun g t23=>B3 g (Op.nilCheck [t0_2]) fun g t25=>B3 g (Op.load1 [t25] H2) fun g t26=>Bn g .shl t26 (.int .u64 17) fun g t27=>Bn g .xor t23 t27 fun g t28=>B3 g (Op.nilCheck [t0_2]) fun g t29=>B32 g ((Op.store 1) [t29,t28] H2) fun g u_2 H3=>Ly g E 0 fun g t0_3=>B3 g (Op.nilCheck [t0_3]) fun g t31=>B3 g (Op.load1 [t31] H3) fun g t32=>GO3 g Q .ret ((2,t32)::(2,(.int .u64 0))::E) D H3):=by intro _ _ _ _;refine W_unf ?_;kernel_rfl
theorem ql9:(cProg Try.prog).func wt=some qex/\qex.results=[.tmp 2]:=za (by kernel_rfl)
theorem qma (h:W M ⟨none,wt⟩ (qg7 0) true (FIN3 M [.tmp 2] Q) [(0,a0)] [] H):yw M wt [a0] H Q:=callf (by decide) ql9 (ks:=qg6) (by kernel_rfl) h
def qbm:AFunc:=funcAt Try.prog j7
def qdt:Kp:=⟨[0,1,2,3,4,5,12],false,[0]⟩
def qdu (k:Nat):Kp × ACode:=(qdt,part qbm.body k)
theorem qg0 (M:Mac) (c:Ctx):(∀ Q E D H,W M c (qdu 0) true Q E D H =
 Lz E 0 fun g t0=>Ly g E 1 fun g t1=>Ly g E 2 fun g t2=>Ly g E 4 fun g t4=>Ly g E 5 fun g t5=>C3 M g (.func zq) [t0,t1,t2,t4,t5] H fun g t19 H1=>B3 g ((Op.extract 0) [t19]) fun g t20=>B3 g ((Op.extract 1) [t19]) fun g t21=>Ly g E 0 fun g t0_1=>Ly g E 3 fun g t3=>Ly g E 4 fun g t4_1=>Ly g E 5 fun g t5_1=>C3 M g (.func zq) [t0_1,t21,t3,t4_1,t5_1] H1 fun g t28 H2=>B3 g ((Op.extract 0) [t28]) fun g t29=>B3 g ((Op.extract 1) [t28]) fun g t30=>Ly g E 0 fun g t0_2=>Ly g E 4 fun g t4_2=>Ly g E 5 fun g t5_2=>C3 M g (.func zq) [t0_2,t20,t29,t4_2,t5_2] H2 fun g t37 H3=>B3 g ((Op.extract 0) [t37]) fun g t38=>B3 g ((Op.extract 1) [t37]) fun g t39=>GO3 g Q .ret ((12,t39)::(2,t39)::(1,t38)::(3,t30)::(2,t29)::(2,t21)::(1,t20)::(12,(.int .i64 0))::E) D H3):=by intro _ _ _ _;refine W_unf ?_;kernel_rfl
theorem qgy:(cProg Try.prog).func j7=some qbm/\qbm.results=[.tmp 12]:=za (by kernel_rfl)
theorem qgz (h:W M ⟨none,j7⟩ (qdu 0) true (FIN3 M [.tmp 12] Q) [(0,a0),(1,a1),(2,a2),(3,a3),(4,a4),(5,a5)] [] H):yw M j7 [a0,a1,a2,a3,a4,a5] H Q:=callf (by decide) qgy (ks:=qdt) (by kernel_rfl) h
def qbn:AFunc:=funcAt Try.prog zq
def qdv:Kp:=⟨[0,1,2,3,4,10,11],false,[0,2,12]⟩
def jp (k:Nat):Kp × ACode:=(qdv,part qbn.body k)
theorem qg3 (M:Mac) (c:Ctx):(∀ Q E D H,W M c (jp 0) true Q E D H =
 W M c (jp 2) true Q ((11,(.int .i64 0))::(10,(.int .i64 0))::E) D H) /\
 (∀ Q E D H,W M c (jp 2) true Q E D H =
  Lz E 4 fun g t4=>Ly g E 0 fun g t0=>Ly g E 2 fun g t2=>B3 g ((Op.indexSl 21) [t0,t2]) fun g t15=>B3 g ((Op.loadN 21) [t15] H) fun g t16=>Ly g E 1 fun g t1=>B3 g ((Op.indexSl 21) [t0,t1]) fun g t19=>B3 g ((Op.loadN 21) [t19] H) fun g t20=>V3 g [t4,t16,t20] fun g f vs=>C3 M g f vs H fun g t21 H1=>Cb g .lss t21 (.int .i64 0) (fun g=>Ly g E 3 fun g t3=>B3 g (Op.nilCheck [t3]) fun g t24=>B3 g (Op.load1 [t24] H1) fun g t25=>Bn g .add t25 (.int .i64 1) fun g t26=>B3 g (Op.nilCheck [t3]) fun g t27=>B32 g ((Op.store 1) [t27,t26] H1) fun g u H2=>Ly g E 2 fun g t2_1=>Ly g E 1 fun g t1_1=>GO3 g (SEQ3 (W M c (jp 12)) Q) .ret ((11,t1_1)::(10,t2_1)::E) D H2) (fun g=>Gt g M c (jp 12) Q E D H1)) /\
 (∀ Q E D H,W M c (jp 12) true Q E D H =
  Lz E 1 fun g t1=>Ly g E 2 fun g t2=>GO3 g Q .ret ((11,t2)::(10,t1)::E) D H):=by (repeat' apply And.intro)<;>(intro _ _ _ _;refine W_unf ?_;kernel_rfl)
theorem qg1:(cProg Try.prog).func zq=some qbn/\qbn.results=[.tmp 10,.tmp 11]:=za (by kernel_rfl)
theorem qg2 (h:W M ⟨none,zq⟩ (jp 0) true (FIN3 M [.tmp 10,.tmp 11] Q) [(0,a0),(1,a1),(2,a2),(3,a3),(4,a4)] [] H):yw M zq [a0,a1,a2,a3,a4] H Q:=callf (by decide) qg1 (ks:=qdv) (by kernel_rfl) h
end
end Go.Am
namespace Go.Am
abbrev qbs:Nat:=108
abbrev qcz:Nat:=121
abbrev qb4:Nat:=82
abbrev qcg:Nat:=107
abbrev yp:Nat:=38
abbrev qbt:Nat:=75
abbrev yy:Nat:=89
abbrev qaw:Nat:=73
abbrev wz:Nat:=104
abbrev qaa:Nat:=44
abbrev qb6:Nat:=42
abbrev qax:Nat:=78
abbrev qcs:Nat:=43
abbrev qb7:Nat:=45
abbrev qay:Nat:=88
abbrev qb8:Nat:=84
abbrev ya:Nat:=109
abbrev vx:Nat:=86
abbrev qaz:Nat:=118
abbrev qdn:Nat:=111
abbrev yn:Nat:=122
abbrev qct:Nat:=87
abbrev qkv:Nat:=34
abbrev T__11:Nat:=30
abbrev qj:Nat:=43
abbrev wv:Nat:=36
abbrev qj3:Nat:=146
abbrev jj:Nat:=153
abbrev yg:Nat:=94
noncomputable section
open Go.Proofs Go.Proofs.Ytiibohocdbaekaa
variable {M:Mac} [MK M] {H:AHeap} {Q:AEnd->AHeap->Prop} {a0 a1 a2 a3:AV}
def qxj:AFunc:=funcAt Try.prog qkv
def q2f:Kp:=⟨[0,1,4,5],false,[0,2,10]⟩
def qk3 (k:Nat):Kp × ACode:=(q2f,part qxj.body k)
theorem l1_New_w (M:Mac) (c:Ctx):(∀ Q E D H,W M c (qk3 0) true Q E D H =
 W M c (qk3 2) true Q ((5,(.int .i64 0))::(4,.nilp)::E) D H) /\
 (∀ Q E D H,W M c (qk3 2) true Q E D H =
  Lz E 0 fun g t0=>Bn g .lss t0 (.int .i64 1) fun g t7=>JN (fun (k:Bool->AV->AV->AHeap->Prop)=>B3 g (wantV false (some t7)) fun g w=>IG3 g w (fun g=>Bn g .gtr t0 (.int .i64 8) fun g t10=>k g t10 t0 H) (fun g=>k g uu uu H)) (fun g t10_1 t9_1 H1=>B3 g (Op.pick [t7,(.bool true),t10_1]) fun g t11=>JN (fun (k:Bool->AV->AV->AHeap->Prop)=>B3 g (wantV false (some t11)) fun g w=>IG3 g w (fun g=>Ly g E 1 fun g t1=>Bn g .lss t1 (.int .i64 1) fun g t14=>k g t14 t1 H1) (fun g=>k g uu uu H1)) (fun g t14_1 t13_1 H2=>B3 g (Op.pick [t11,(.bool true),t14_1]) fun g t15=>JN (fun (k:Bool->AV->AV->AHeap->Prop)=>B3 g (wantV false (some t15)) fun g w=>IG3 g w (fun g=>Ly g E 1 fun g t1_1=>Bn g .gtr t1_1 (.int .i64 4) fun g t18=>k g t18 t1_1 H2) (fun g=>k g uu uu H2)) (fun g t18_1 t17_1 H3=>B3 g (Op.pick [t15,(.bool true),t18_1]) fun g t19=>IF3 g t19 (fun g=>GO3 g (SEQ3 (W M c (qk3 10)) Q) .ret ((5,(.int .i64 2))::(4,.nilp)::E) D H3) (fun g=>Gt g M c (qk3 10) Q E D H3))))) /\
 (∀ Q E D H,W M c (qk3 10) true Q E D H =
  Lz E 0 fun g t0=>Ly g E 1 fun g t1=>Bn g .mul t0 t1 fun g t24=>B32 g ((Op.mkSlice qj 160 [(.int .i64 0),(.int .i64 0),(.bool false),(.bool false),(.int .u64 0),(.int .u64 0),(.int .u64 0),(.int .u64 0),(.int .u64 0),(.int .u64 0),(.int .u64 0),(.int .u64 0),(.int .u64 0),(.int .u64 0),(.int .u64 0),(.int .u64 0),(.int .u64 0),(.int .u64 0),(.int .u64 0),(.int .u64 0),(.int .i64 0)]) [t24,t24]) fun g o1 k1=>B3 g ((Op.build [(.int .i64 0),(.int .i64 0),.nils,(.int .i64 0)] [(0,1),(1,1),(2,1)]) [t0,t1,(k1 H.next)]) fun g t26=>A3 g qj3 (AV.cells t26) (H.alloc o1) fun g t27 H2=>GO3 g Q .ret ((5,(.int .i64 0))::(4,t27)::E) D H2):=by (repeat' apply And.intro)<;>(intro _ _ _ _;refine W_unf ?_;kernel_rfl)
theorem l1_New_f:(cProg Try.prog).func qkv=some qxj/\qxj.results=[.tmp 4,.tmp 5]:=za (by kernel_rfl)
theorem l1_New_s (h:W M ⟨none,qkv⟩ (qk3 0) true (FIN3 M [.tmp 4,.tmp 5] Q) [(0,a0),(1,a1)] [] H):yw M qkv [a0,a1] H Q:=callf (by decide) l1_New_f (ks:=q2f) (by kernel_rfl) h
def qdp:AFunc:=funcAt Try.prog qb4
def qdq:Kp:=⟨[0,2,3,4,6,7],false,[0,4,9]⟩
def qet (k:Nat):Kp × ACode:=(qdq,part qdp.body k)
def qc1:ALoop:=loopAt qdp 0
def qmm (k:Nat):Kp × ACode:=(⟨qdq.keep,qdq.pan,[0]⟩,part qc1.assign k)
def qmn (k:Nat):Kp × ACode:=(⟨qdq.keep,qdq.pan,[0]⟩,part qc1.body k)
theorem qlp:nth qdp.loops 0=some qc1/\qc1.params=[7]:=⟨by kernel_rfl,by kernel_rfl⟩
theorem qnw (M:Mac) (c:Ctx):(∀ Q E D H,W M c (qet 0) true Q E D H =
 A3 true T__11 [.nils] H fun g t3 H1=>W M c (qet 4) g Q ((3,t3)::(2,.nils)::E) D H1) /\
 (∀ Q E D H,W M c (qmm 0) true Q E D H =
  Lz E 7 fun g t7=>GO3 g Q .normal ((4,t7)::E) D H) /\
 (∀ Q E D H,W M c (qmn 0) true Q E D H =
  Lz E 3 fun g t3=>B3 g (Op.load1 [t3] H) fun g t8=>Ly g E 4 fun g t4=>B3 g (Op.nilCheck [t4]) fun g t10=>B3 g ((Op.loadN 21) [t10] H) fun g t11=>B32 g ((Op.buildSlice qj 1 [(.int .i64 0),(.int .i64 0),(.bool false),(.bool false),(.int .u64 0),(.int .u64 0),(.int .u64 0),(.int .u64 0),(.int .u64 0),(.int .u64 0),(.int .u64 0),(.int .u64 0),(.int .u64 0),(.int .u64 0),(.int .u64 0),(.int .u64 0),(.int .u64 0),(.int .u64 0),(.int .u64 0),(.int .u64 0),(.int .i64 0)] [(0,21)]) [t11]) fun g o1 k1=>B32 g ((Op.append qj 21 160) [t8,(k1 H.next)] (H.alloc o1)) fun g t13 H2=>B32 g ((Op.store 1) [t3,t13] H2) fun g u H3=>GO3 g (BLK3 1 Q) .normal E D H3) /\
 (∀ Q E D H,W M c (qet 4) true Q E D H =
  Lz E 0 fun g t0=>C3 M g (.func qb8) [t0] H fun g t6 H1=>RNG3 M qdq.keep c 0 ((6,t6)::E) D H1 (BLK3 0 (SEQ3 (W M c (qet 9)) Q)) t6) /\
 (∀ Q E D H,W M c (qet 9) true Q E D H =
  Lz E 3 fun g t3=>B3 g (Op.load1 [t3] H) fun g t14=>C3 M g (.func yb) [t14,(.fn (.func qcg) [] [])] H fun g t15 H1=>Ly g E 3 fun g t3_1=>B3 g (Op.load1 [t3_1] H1) fun g t16=>GO3 g Q .ret ((2,t16)::E) D H1):=by (repeat' apply And.intro)<;>(intro _ _ _ _;refine W_unf ?_;kernel_rfl)
theorem qnv:(cProg Try.prog).func qb4=some qdp/\qdp.results=[.tmp 2]:=za (by kernel_rfl)
theorem qtn:M.func qb4=some qdp:=MK.at (by decide) qnv.1
theorem qvk (h:W M ⟨none,qb4⟩ (qet 0) true (FIN3 M [.tmp 2] Q) [(0,a0)] [] H):yw M qb4 [a0] H Q:=callf (by decide) qnv (ks:=qdq) (by kernel_rfl) h
def qb0:AFunc:=funcAt Try.prog yp
def qb1:Kp:=⟨[0,2,3,7,8],false,[0,2,10,15]⟩
def vz (k:Nat):Kp × ACode:=(qb1,part qb0.body k)
def qa6:ALoop:=loopAt qb0 0
def qjh (k:Nat):Kp × ACode:=(⟨qb1.keep,qb1.pan,[0]⟩,part qa6.assign k)
def qji (k:Nat):Kp × ACode:=(⟨qb1.keep,qb1.pan,[0]⟩,part qa6.body k)
theorem qis:nth qb0.loops 0=some qa6/\qa6.params=[8]:=⟨by kernel_rfl,by kernel_rfl⟩
theorem qkf (M:Mac) (c:Ctx):(∀ Q E D H,W M c (vz 0) true Q E D H =
 W M c (vz 2) true Q ((2,(.int .i64 0))::E) D H) /\
 (∀ Q E D H,W M c (qjh 0) true Q E D H =
  Lz E 8 fun g t8=>GO3 g Q .normal ((3,t8)::E) D H) /\
 (∀ Q E D H,W M c (qji 0) true Q E D H =
  Lz E 3 fun g t3=>B3 g ((Op.build [(.int .u64 0),(.int .u64 0),(.int .u64 0),(.int .u64 0),(.int .u64 0),(.int .u64 0),(.int .u64 0),(.int .u64 0)] []) []) fun g t12=>Ns g 2 t3 (.bool false) H fun g u H1=>Ns g 3 t3 (.bool false) H1 fun g u_1 H2=>B3 g (Op.nilCheck [t3]) fun g t17=>B3 g ((Op.fieldAddr 12) [t17]) fun g t18=>B32 g ((Op.store 8) [t18,t12] H2) fun g u_2 H3=>GO3 g (BLK3 1 Q) .normal E D H3) /\
 (∀ Q E D H,W M c (vz 2) true Q E D H =
  Lz E 0 fun g t0=>B3 g ((Op.eq .ptr false) [t0,.nilp] H) fun g t5=>IF3 g t5 (fun g=>GO3 g (SEQ3 (W M c (vz 10)) Q) .ret ((2,(.int .i64 1))::E) D H) (fun g=>Gt g M c (vz 10) Q E D H)) /\
 (∀ Q E D H,W M c (vz 10) true Q E D H =
  Lz E 0 fun g t0=>C3 M g (.func qb8) [t0] H fun g t7 H1=>RNG3 M qb1.keep c 0 ((7,t7)::E) D H1 (BLK3 0 (SEQ3 (W M c (vz 15)) Q)) t7) /\
 (∀ Q E D H,W M c (vz 15) true Q E D H =
  GO3 true Q .ret ((2,(.int .i64 0))::E) D H):=by (repeat' apply And.intro)<;>(intro _ _ _ _;refine W_unf ?_;kernel_rfl)
theorem qke:(cProg Try.prog).func yp=some qb0/\qb0.results=[.tmp 2]:=za (by kernel_rfl)
theorem qo2:M.func yp=some qb0:=MK.at (by decide) qke.1
theorem qp7 (h:W M ⟨none,yp⟩ (vz 0) true (FIN3 M [.tmp 2] Q) [(0,a0)] [] H):yw M yp [a0] H Q:=callf (by decide) qke (ks:=qb1) (by kernel_rfl) h
def qa7:AFunc:=funcAt Try.prog yy
def qa8:Kp:=⟨[0,2,3,7,8],false,[0,2,10,15]⟩
def yz (k:Nat):Kp × ACode:=(qa8,part qa7.body k)
def qak:ALoop:=loopAt qa7 0
def qit (k:Nat):Kp × ACode:=(⟨qa8.keep,qa8.pan,[0]⟩,part qak.assign k)
def qiu (k:Nat):Kp × ACode:=(⟨qa8.keep,qa8.pan,[0]⟩,part qak.body k)
theorem qib:nth qa7.loops 0=some qak/\qak.params=[8]:=⟨by kernel_rfl,by kernel_rfl⟩
theorem qjk (M:Mac) (c:Ctx):(∀ Q E D H,W M c (yz 0) true Q E D H =
 W M c (yz 2) true Q ((2,(.int .i64 0))::E) D H) /\
 (∀ Q E D H,W M c (qit 0) true Q E D H =
  Lz E 8 fun g t8=>GO3 g Q .normal ((3,t8)::E) D H) /\
 (∀ Q E D H,W M c (qiu 0) true Q E D H =
  Lz E 3 fun g t3=>Nf g 3 t3 H fun g t12=>IF3 g t12 (fun g=>Ly g E 3 fun g t3_1=>B3 g (Op.nilCheck [t3_1]) fun g t15=>B3 g ((Op.fieldAddr 12) [t15]) fun g t16=>B3 g ((Op.loadN 8) [t16] H) fun g t17=>B3 g (Op.nilCheck [t3_1]) fun g t18=>B3 g ((Op.fieldAddr 4) [t18]) fun g t19=>B32 g ((Op.store 8) [t19,t17] H) fun g u H1=>GO3 g (BLK3 1 Q) .normal E D H1) (fun g=>GO3 g (BLK3 1 Q) .normal E D H)) /\
 (∀ Q E D H,W M c (yz 2) true Q E D H =
  Lz E 0 fun g t0=>B3 g ((Op.eq .ptr false) [t0,.nilp] H) fun g t5=>IF3 g t5 (fun g=>GO3 g (SEQ3 (W M c (yz 10)) Q) .ret ((2,(.int .i64 1))::E) D H) (fun g=>Gt g M c (yz 10) Q E D H)) /\
 (∀ Q E D H,W M c (yz 10) true Q E D H =
  Lz E 0 fun g t0=>C3 M g (.func qb8) [t0] H fun g t7 H1=>RNG3 M qa8.keep c 0 ((7,t7)::E) D H1 (BLK3 0 (SEQ3 (W M c (yz 15)) Q)) t7) /\
 (∀ Q E D H,W M c (yz 15) true Q E D H =
  Lz E 0 fun g t0=>C3 M g (.func yp) [t0] H fun g t21 H1=>GO3 g Q .ret ((2,t21)::E) D H1):=by (repeat' apply And.intro)<;>(intro _ _ _ _;refine W_unf ?_;kernel_rfl)
theorem qjj:(cProg Try.prog).func yy=some qa7/\qa7.results=[.tmp 2]:=za (by kernel_rfl)
theorem qod:M.func yy=some qa7:=MK.at (by decide) qjj.1
theorem qo3 (h:W M ⟨none,yy⟩ (yz 0) true (FIN3 M [.tmp 2] Q) [(0,a0)] [] H):yw M yy [a0] H Q:=callf (by decide) qjj (ks:=qa8) (by kernel_rfl) h
def qiy:AFunc:=funcAt Try.prog qb6
def qmr:Kp:=⟨[0,1,2,6,7,8,9,10],false,[0,2,8,14,18,20,26]⟩
def jx (k:Nat):Kp × ACode:=(qmr,part qiy.body k)
theorem qtz (M:Mac) (c:Ctx):(∀ Q E D H,W M c (jx 0) true Q E D H =
 W M c (jx 2) true Q ((6,(.int .i64 0))::E) D H) /\
 (∀ Q E D H,W M c (jx 2) true Q E D H =
  Lz E 2 fun g t2=>B3 g ((Op.un .not) [t2]) fun g t12=>IF3 g t12 (fun g=>Ly g E 0 fun g t0=>Ly g E 1 fun g t1=>C3 M g (.func vx) [t0,t1,(.int .i64 0)] H fun g t16 H1=>B3 g ((Op.extract 0) [t16]) fun g t17=>B3 g ((Op.extract 1) [t16]) fun g t18=>W M c (jx 8) g (SEQ3 (W M c (jx 18)) Q) ((8,t18)::(7,t17)::E) D H1) (fun g=>Gt g M c (jx 18) Q E D H)) /\
 (∀ Q E D H,W M c (jx 18) true Q E D H =
  Lz E 0 fun g t0=>Ly g E 1 fun g t1=>C3 M g (.func vx) [t0,t1,(.int .i64 2)] H fun g t28 H1=>B3 g ((Op.extract 0) [t28]) fun g t29=>B3 g ((Op.extract 1) [t28]) fun g t30=>W M c (jx 20) g Q ((10,t30)::(9,t29)::E) D H1) /\
 (∀ Q E D H,W M c (jx 8) true Q E D H =
  Lz E 8 fun g t8=>Cb g .eql t8 (.int .i64 0) (fun g=>Ly g E 7 fun g t7=>Ns g 2 t7 (.bool true) H fun g u H1=>Gt g M c (jx 14) Q E D H1) (fun g=>Gt g M c (jx 14) Q E D H)) /\
 (∀ Q E D H,W M c (jx 20) true Q E D H =
  Lz E 10 fun g t10=>Bn g .eql t10 (.int .i64 0) fun g t32=>JN (fun (k:Bool->AV->AV->AV->AV->AV->AHeap->Prop)=>B3 g (wantV true (some t32)) fun g w=>IG3 g w (fun g=>Ly g E 9 fun g t9=>B3 g (Op.nilCheck [t9]) fun g t35=>B3 g ((Op.fieldAddr 3) [t35]) fun g t36=>B3 g (Op.load1 [t36] H) fun g t37=>B3 g ((Op.un .not) [t37]) fun g t38=>k g t38 t37 t36 t35 t9 H) (fun g=>k g uu uu uu uu uu H)) (fun g t38_1 t37_1 t36_1 t35_1 t34_1 H1=>B3 g (Op.pick [t32,t38_1,(.bool false)]) fun g t39=>IF3 g t39 (fun g=>Ly g E 9 fun g t9_1=>B3 g (Op.nilCheck [t9_1]) fun g t43=>B3 g ((Op.fieldAddr 4) [t43]) fun g t44=>B3 g ((Op.loadN 8) [t44] H1) fun g t45=>Ns g 3 t9_1 (.bool true) H1 fun g u H2=>B3 g (Op.nilCheck [t9_1]) fun g t48=>B3 g ((Op.fieldAddr 12) [t48]) fun g t49=>B32 g ((Op.store 8) [t49,t45] H2) fun g u_1 H3=>Gt g M c (jx 26) Q E D H3) (fun g=>Gt g M c (jx 26) Q E D H1))) /\
 (∀ Q E D H,W M c (jx 14) true Q E D H =
  Lz E 8 fun g t8=>GO3 g Q .ret ((6,t8)::E) D H) /\
 (∀ Q E D H,W M c (jx 26) true Q E D H =
  Lz E 10 fun g t10=>GO3 g Q .ret ((6,t10)::E) D H):=by (repeat' apply And.intro)<;>(intro _ _ _ _;refine W_unf ?_;kernel_rfl)
theorem qtx:(cProg Try.prog).func qb6=some qiy/\qiy.results=[.tmp 6]:=za (by kernel_rfl)
theorem qty (h:W M ⟨none,qb6⟩ (jx 0) true (FIN3 M [.tmp 6] Q) [(0,a0),(1,a1),(2,a2)] [] H):yw M qb6 [a0,a1,a2] H Q:=callf (by decide) qtx (ks:=qmr) (by kernel_rfl) h
def qju:AFunc:=funcAt Try.prog qcs
def qnx:Kp:=⟨[0,1,2,6,7,8],false,[0,2,10,12,20]⟩
def vv (k:Nat):Kp × ACode:=(qnx,part qju.body k)
theorem qvn (M:Mac) (c:Ctx):(∀ Q E D H,W M c (vv 0) true Q E D H =
 W M c (vv 2) true Q ((6,(.int .i64 0))::E) D H) /\
 (∀ Q E D H,W M c (vv 2) true Q E D H =
  Lz E 0 fun g t0=>B3 g ((Op.eq .ptr true) [t0,.nilp] H) fun g t10=>JN (fun (k:Bool->AV->AV->AHeap->Prop)=>B3 g (wantV true (some t10)) fun g w=>IG3 g w (fun g=>Ly g E 1 fun g t1=>Bn g .lss t1 (.int .i64 0) fun g t13=>k g t13 t1 H) (fun g=>k g uu uu H)) (fun g t13_1 t12_1 H1=>B3 g (Op.pick [t10,t13_1,(.bool false)]) fun g t14=>IF3 g t14 (fun g=>GO3 g (SEQ3 (W M c (vv 10)) Q) .ret ((6,(.int .i64 2))::E) D H1) (fun g=>Gt g M c (vv 10) Q E D H1))) /\
 (∀ Q E D H,W M c (vv 10) true Q E D H =
  Lz E 0 fun g t0=>Ly g E 1 fun g t1=>Bn g .quo t1 (.int .i64 8) fun g t18=>C3 M g (.func vx) [t0,t18,(.int .i64 2)] H fun g t19 H1=>B3 g ((Op.extract 0) [t19]) fun g t20=>B3 g ((Op.extract 1) [t19]) fun g t21=>W M c (vv 12) g Q ((8,t21)::(7,t20)::E) D H1) /\
 (∀ Q E D H,W M c (vv 12) true Q E D H =
  Lz E 8 fun g t8=>Cb g .neq t8 (.int .i64 0) (fun g=>Ly g E 8 fun g t8_1=>GO3 g (SEQ3 (W M c (vv 20)) Q) .ret ((6,t8_1)::E) D H) (fun g=>Gt g M c (vv 20) Q E D H)) /\
 (∀ Q E D H,W M c (vv 20) true Q E D H =
  Lz E 0 fun g t0=>Ly g E 7 fun g t7=>C3 M g (.func qct) [t0,t7] H fun g t27 H1=>Ly g E 7 fun g t7_1=>Ly g E 1 fun g t1=>Bn g .rem t1 (.int .i64 8) fun g t30=>Ly g E 2 fun g t2=>B3 g (Op.nilCheck [t7_1]) fun g t32=>B3 g ((Op.fieldAddr 4) [t32]) fun g t33=>B3 g ((Op.indexArr 8 1) [t33,t30]) fun g t34=>B32 g ((Op.store 1) [t34,t2] H1) fun g u H2=>GO3 g Q .ret ((6,(.int .i64 0))::E) D H2):=by (repeat' apply And.intro)<;>(intro _ _ _ _;refine W_unf ?_;kernel_rfl)
theorem qvl:(cProg Try.prog).func qcs=some qju/\qju.results=[.tmp 6]:=za (by kernel_rfl)
theorem qvm (h:W M ⟨none,qcs⟩ (vv 0) true (FIN3 M [.tmp 6] Q) [(0,a0),(1,a1),(2,a2)] [] H):yw M qcs [a0,a1,a2] H Q:=callf (by decide) qvl (ks:=qnx) (by kernel_rfl) h
def qix:AFunc:=funcAt Try.prog qaa
def qmq:Kp:=⟨[0,1,4,5,6,21],false,[0,4,12]⟩
def qc3 (k:Nat):Kp × ACode:=(qmq,part qix.body k)
theorem qtw (M:Mac) (c:Ctx):(∀ Q E D H,W M c (qc3 0) true Q E D H =
 A3 true qj [(.int .i64 0),(.int .i64 0),(.bool false),(.bool false),(.int .u64 0),(.int .u64 0),(.int .u64 0),(.int .u64 0),(.int .u64 0),(.int .u64 0),(.int .u64 0),(.int .u64 0),(.int .u64 0),(.int .u64 0),(.int .u64 0),(.int .u64 0),(.int .u64 0),(.int .u64 0),(.int .u64 0),(.int .u64 0),(.int .i64 0)] H fun g t4 H1=>Ly g E 0 fun g t0=>Ly g E 1 fun g t1=>C3 M g (.func qay) [t0,t1] H1 fun g t9 H2=>W M c (qc3 4) g Q ((6,t9)::(5,(.bool false))::(4,t4)::E) D H2) /\
 (∀ Q E D H,W M c (qc3 4) true Q E D H =
  Lz E 6 fun g t6=>B3 g ((Op.eq .ptr false) [t6,.nilp] H) fun g t11=>IF3 g t11 (fun g=>B3 g ((Op.build [(.int .i64 0),(.int .i64 0),(.bool false),(.bool false),(.int .u64 0),(.int .u64 0),(.int .u64 0),(.int .u64 0),(.int .u64 0),(.int .u64 0),(.int .u64 0),(.int .u64 0),(.int .u64 0),(.int .u64 0),(.int .u64 0),(.int .u64 0),(.int .u64 0),(.int .u64 0),(.int .u64 0),(.int .u64 0),(.int .i64 0)] []) []) fun g t12=>Ly g E 4 fun g t4=>B32 g ((Op.store 21) [t4,t12] H) fun g u H1=>GO3 g (SEQ3 (W M c (qc3 12)) Q) .ret ((5,(.bool false))::E) D H1) (fun g=>Gt g M c (qc3 12) Q E D H)) /\
 (∀ Q E D H,W M c (qc3 12) true Q E D H =
  Lz E 6 fun g t6=>B3 g (Op.nilCheck [t6]) fun g t14=>B3 g ((Op.loadN 21) [t14] H) fun g t15=>Ly g E 4 fun g t4=>B32 g ((Op.store 21) [t4,t15] H) fun g u H1=>GO3 g Q .ret ((5,(.bool true))::E) D H1):=by (repeat' apply And.intro)<;>(intro _ _ _ _;refine W_unf ?_;kernel_rfl)
theorem qtu:(cProg Try.prog).func qaa=some qix/\qix.results=[.cellN 21 4,.tmp 5]:=za (by kernel_rfl)
theorem qtv (h:W M ⟨none,qaa⟩ (qc3 0) true (FIN3 M [.cellN 21 4,.tmp 5] Q) [(0,a0),(1,a1)] [] H):yw M qaa [a0,a1] H Q:=callf (by decide) qtu (ks:=qmq) (by kernel_rfl) h
def qiz:AFunc:=funcAt Try.prog qb7
def qms:Kp:=⟨[0,1,4,5,6,7],false,[0,2,10,12,20]⟩
def yo (k:Nat):Kp × ACode:=(qms,part qiz.body k)
theorem qt2 (M:Mac) (c:Ctx):(∀ Q E D H,W M c (yo 0) true Q E D H =
 W M c (yo 2) true Q ((5,(.int .i64 0))::(4,(.int .u64 0))::E) D H) /\
 (∀ Q E D H,W M c (yo 2) true Q E D H =
  Lz E 0 fun g t0=>B3 g ((Op.eq .ptr true) [t0,.nilp] H) fun g t9=>JN (fun (k:Bool->AV->AV->AHeap->Prop)=>B3 g (wantV true (some t9)) fun g w=>IG3 g w (fun g=>Ly g E 1 fun g t1=>Bn g .lss t1 (.int .i64 0) fun g t12=>k g t12 t1 H) (fun g=>k g uu uu H)) (fun g t12_1 t11_1 H1=>B3 g (Op.pick [t9,t12_1,(.bool false)]) fun g t13=>IF3 g t13 (fun g=>GO3 g (SEQ3 (W M c (yo 10)) Q) .ret ((5,(.int .i64 2))::(4,(.int .u64 0))::E) D H1) (fun g=>Gt g M c (yo 10) Q E D H1))) /\
 (∀ Q E D H,W M c (yo 10) true Q E D H =
  Lz E 0 fun g t0=>Ly g E 1 fun g t1=>Bn g .quo t1 (.int .i64 8) fun g t17=>C3 M g (.func vx) [t0,t17,(.int .i64 0)] H fun g t18 H1=>B3 g ((Op.extract 0) [t18]) fun g t19=>B3 g ((Op.extract 1) [t18]) fun g t20=>W M c (yo 12) g Q ((7,t20)::(6,t19)::E) D H1) /\
 (∀ Q E D H,W M c (yo 12) true Q E D H =
  Lz E 7 fun g t7=>Cb g .neq t7 (.int .i64 0) (fun g=>Ly g E 7 fun g t7_1=>GO3 g (SEQ3 (W M c (yo 20)) Q) .ret ((5,t7_1)::(4,(.int .u64 0))::E) D H) (fun g=>Gt g M c (yo 20) Q E D H)) /\
 (∀ Q E D H,W M c (yo 20) true Q E D H =
  Lz E 0 fun g t0=>Ly g E 6 fun g t6=>C3 M g (.func qct) [t0,t6] H fun g t26 H1=>Ly g E 6 fun g t6_1=>Ly g E 1 fun g t1=>Bn g .rem t1 (.int .i64 8) fun g t29=>B3 g (Op.nilCheck [t6_1]) fun g t30=>B3 g ((Op.fieldAddr 4) [t30]) fun g t31=>B3 g ((Op.indexArr 8 1) [t31,t29]) fun g t32=>B3 g (Op.load1 [t32] H1) fun g t33=>GO3 g Q .ret ((5,(.int .i64 0))::(4,t33)::E) D H1):=by (repeat' apply And.intro)<;>(intro _ _ _ _;refine W_unf ?_;kernel_rfl)
theorem qt0:(cProg Try.prog).func qb7=some qiz/\qiz.results=[.tmp 4,.tmp 5]:=za (by kernel_rfl)
theorem qt1 (h:W M ⟨none,qb7⟩ (yo 0) true (FIN3 M [.tmp 4,.tmp 5] Q) [(0,a0),(1,a1)] [] H):yw M qb7 [a0,a1] H Q:=callf (by decide) qt0 (ks:=qms) (by kernel_rfl) h
def qiv:AFunc:=funcAt Try.prog qaw
def qmo:Kp:=⟨[0,1,4,5,6,7,8,21],false,[0,4,12]⟩
def qc2 (k:Nat):Kp × ACode:=(qmo,part qiv.body k)
theorem qtq (M:Mac) (c:Ctx):(∀ Q E D H,W M c (qc2 0) true Q E D H =
 A3 true qj [(.int .i64 0),(.int .i64 0),(.bool false),(.bool false),(.int .u64 0),(.int .u64 0),(.int .u64 0),(.int .u64 0),(.int .u64 0),(.int .u64 0),(.int .u64 0),(.int .u64 0),(.int .u64 0),(.int .u64 0),(.int .u64 0),(.int .u64 0),(.int .u64 0),(.int .u64 0),(.int .u64 0),(.int .u64 0),(.int .i64 0)] H fun g t4 H1=>Ly g E 0 fun g t0=>Ly g E 1 fun g t1=>C3 M g (.func vx) [t0,t1,(.int .i64 0)] H1 fun g t12 H2=>B3 g ((Op.extract 0) [t12]) fun g t13=>B3 g ((Op.extract 1) [t12]) fun g t14=>W M c (qc2 4) g Q ((7,t14)::(6,t13)::(5,(.int .i64 0))::(4,t4)::E) D H2) /\
 (∀ Q E D H,W M c (qc2 4) true Q E D H =
  Lz E 7 fun g t7=>Cb g .neq t7 (.int .i64 0) (fun g=>B3 g ((Op.build [(.int .i64 0),(.int .i64 0),(.bool false),(.bool false),(.int .u64 0),(.int .u64 0),(.int .u64 0),(.int .u64 0),(.int .u64 0),(.int .u64 0),(.int .u64 0),(.int .u64 0),(.int .u64 0),(.int .u64 0),(.int .u64 0),(.int .u64 0),(.int .u64 0),(.int .u64 0),(.int .u64 0),(.int .u64 0),(.int .i64 0)] []) []) fun g t17=>Ly g E 7 fun g t7_1=>Ly g E 4 fun g t4=>B32 g ((Op.store 21) [t4,t17] H) fun g u H1=>GO3 g (SEQ3 (W M c (qc2 12)) Q) .ret ((5,t7_1)::E) D H1) (fun g=>Gt g M c (qc2 12) Q E D H)) /\
 (∀ Q E D H,W M c (qc2 12) true Q E D H =
  Lz E 6 fun g t6=>B3 g (Op.nilCheck [t6]) fun g t20=>B3 g ((Op.loadN 21) [t20] H) fun g t21=>A3 g qj [(.int .i64 0),(.int .i64 0),(.bool false),(.bool false),(.int .u64 0),(.int .u64 0),(.int .u64 0),(.int .u64 0),(.int .u64 0),(.int .u64 0),(.int .u64 0),(.int .u64 0),(.int .u64 0),(.int .u64 0),(.int .u64 0),(.int .u64 0),(.int .u64 0),(.int .u64 0),(.int .u64 0),(.int .u64 0),(.int .i64 0)] H fun g t8 H1=>B32 g ((Op.store 21) [t8,t21] H1) fun g u H2=>Ly g E 6 fun g t6_1=>B3 g ((Op.build [(.int .i64 0),(.int .i64 0),(.bool false),(.bool false),(.int .u64 0),(.int .u64 0),(.int .u64 0),(.int .u64 0),(.int .u64 0),(.int .u64 0),(.int .u64 0),(.int .u64 0),(.int .u64 0),(.int .u64 0),(.int .u64 0),(.int .u64 0),(.int .u64 0),(.int .u64 0),(.int .u64 0),(.int .u64 0),(.int .i64 0)] []) []) fun g t23=>B3 g (Op.nilCheck [t6_1]) fun g t24=>B32 g ((Op.store 21) [t24,t23] H2) fun g u_1 H3=>B3 g ((Op.loadN 21) [t8] H3) fun g t25=>Ly g E 4 fun g t4=>B32 g ((Op.store 21) [t4,t25] H3) fun g u_2 H4=>GO3 g Q .ret ((5,(.int .i64 0))::(8,t8)::(21,t21)::E) D H4):=by (repeat' apply And.intro)<;>(intro _ _ _ _;refine W_unf ?_;kernel_rfl)
theorem qto:(cProg Try.prog).func qaw=some qiv/\qiv.results=[.cellN 21 4,.tmp 5]:=za (by kernel_rfl)
theorem qtp (h:W M ⟨none,qaw⟩ (qc2 0) true (FIN3 M [.cellN 21 4,.tmp 5] Q) [(0,a0),(1,a1)] [] H):yw M qaw [a0,a1] H Q:=callf (by decide) qto (ks:=qmo) (by kernel_rfl) h
def qhi:AFunc:=funcAt Try.prog qbt
def qkg:Kp:=⟨[0,1,4,5,6,7,8],false,[0,4,12]⟩
def qb2 (k:Nat):Kp × ACode:=(qkg,part qhi.body k)
theorem qqa (M:Mac) (c:Ctx):(∀ Q E D H,W M c (qb2 0) true Q E D H =
 A3 true wv [(.int .u64 0),(.int .u64 0),(.int .u64 0),(.int .u64 0),(.int .u64 0),(.int .u64 0),(.int .u64 0),(.int .u64 0)] H fun g t4 H1=>Ly g E 0 fun g t0=>Ly g E 1 fun g t1=>C3 M g (.func vx) [t0,t1,(.int .i64 2)] H1 fun g t11 H2=>B3 g ((Op.extract 0) [t11]) fun g t12=>B3 g ((Op.extract 1) [t11]) fun g t13=>W M c (qb2 4) g Q ((7,t13)::(6,t12)::(8,t11)::(5,(.int .i64 0))::(4,t4)::E) D H2) /\
 (∀ Q E D H,W M c (qb2 4) true Q E D H =
  Lz E 7 fun g t7=>Cb g .neq t7 (.int .i64 0) (fun g=>B3 g ((Op.build [(.int .u64 0),(.int .u64 0),(.int .u64 0),(.int .u64 0),(.int .u64 0),(.int .u64 0),(.int .u64 0),(.int .u64 0)] []) []) fun g t16=>Ly g E 7 fun g t7_1=>Ly g E 4 fun g t4=>B32 g ((Op.store 8) [t4,t16] H) fun g u H1=>GO3 g (SEQ3 (W M c (qb2 12)) Q) .ret ((5,t7_1)::E) D H1) (fun g=>Gt g M c (qb2 12) Q E D H)) /\
 (∀ Q E D H,W M c (qb2 12) true Q E D H =
  Lz E 6 fun g t6=>Ns g 1 t6 (.int .i64 1) H fun g u H1=>Ly g E 6 fun g t6_1=>B3 g (Op.nilCheck [t6_1]) fun g t22=>B3 g ((Op.fieldAddr 4) [t22]) fun g t23=>B3 g ((Op.loadN 8) [t23] H1) fun g t24=>Ly g E 4 fun g t4=>B32 g ((Op.store 8) [t4,t24] H1) fun g u_1 H2=>GO3 g Q .ret ((5,(.int .i64 0))::E) D H2):=by (repeat' apply And.intro)<;>(intro _ _ _ _;refine W_unf ?_;kernel_rfl)
theorem qp8:(cProg Try.prog).func qbt=some qhi/\qhi.results=[.cellN 8 4,.tmp 5]:=za (by kernel_rfl)
theorem qp9 (h:W M ⟨none,qbt⟩ (qb2 0) true (FIN3 M [.cellN 8 4,.tmp 5] Q) [(0,a0),(1,a1)] [] H):yw M qbt [a0,a1] H Q:=callf (by decide) qp8 (ks:=qkg) (by kernel_rfl) h
def qgl:AFunc:=funcAt Try.prog qax
def qjl:Kp:=⟨[0,1,2,5,6,7,8],false,[0,4,10]⟩
def qa9 (k:Nat):Kp × ACode:=(qjl,part qgl.body k)
theorem qo6 (M:Mac) (c:Ctx):(∀ Q E D H,W M c (qa9 0) true Q E D H =
 Lz E 2 fun g t2=>A3 g wv (AV.cells t2) H fun g t5 H1=>Ly g E 0 fun g t0=>Ly g E 1 fun g t1=>C3 M g (.func vx) [t0,t1,(.int .i64 1)] H1 fun g t12 H2=>B3 g ((Op.extract 0) [t12]) fun g t13=>B3 g ((Op.extract 1) [t12]) fun g t14=>W M c (qa9 4) g Q ((8,t14)::(7,t13)::(6,(.int .i64 0))::(5,t5)::E) D H2) /\
 (∀ Q E D H,W M c (qa9 4) true Q E D H =
  Lz E 8 fun g t8=>Cb g .eql t8 (.int .i64 0) (fun g=>Ly g E 7 fun g t7=>Ly g E 5 fun g t5=>B3 g ((Op.loadN 8) [t5] H) fun g t19=>Ns g 1 t7 (.int .i64 2) H fun g u H1=>CK3 g ((Op.loadN 8) [t5] H1) (some t19) fun g=>B3 g (Op.nilCheck [t7]) fun g t22=>B3 g ((Op.fieldAddr 4) [t22]) fun g t23=>B32 g ((Op.store 8) [t23,t19] H1) fun g u_1 H2=>Gt g M c (qa9 10) Q E D H2) (fun g=>Gt g M c (qa9 10) Q E D H)) /\
 (∀ Q E D H,W M c (qa9 10) true Q E D H =
  Lz E 8 fun g t8=>GO3 g Q .ret ((6,t8)::E) D H):=by (repeat' apply And.intro)<;>(intro _ _ _ _;refine W_unf ?_;kernel_rfl)
theorem qo4:(cProg Try.prog).func qax=some qgl/\qgl.results=[.tmp 6]:=za (by kernel_rfl)
theorem qo5 (h:W M ⟨none,qax⟩ (qa9 0) true (FIN3 M [.tmp 6] Q) [(0,a0),(1,a1),(2,a2)] [] H):yw M qax [a0,a1,a2] H Q:=callf (by decide) qo4 (ks:=qjl) (by kernel_rfl) h
def qiw:AFunc:=funcAt Try.prog wz
def qmp:Kp:=⟨[0,1,2,3,7,8,9,10,11,12,21],false,[0,2,16,23,25,33]⟩
def jw (k:Nat):Kp × ACode:=(qmp,part qiw.body k)
theorem qtt (M:Mac) (c:Ctx):(∀ Q E D H,W M c (jw 0) true Q E D H =
 Lz E 3 fun g t3=>A3 g wv (AV.cells t3) H fun g t7 H1=>A3 g qj [(.int .i64 0),(.int .i64 0),(.bool false),(.bool false),(.int .u64 0),(.int .u64 0),(.int .u64 0),(.int .u64 0),(.int .u64 0),(.int .u64 0),(.int .u64 0),(.int .u64 0),(.int .u64 0),(.int .u64 0),(.int .u64 0),(.int .u64 0),(.int .u64 0),(.int .u64 0),(.int .u64 0),(.int .u64 0),(.int .i64 0)] H1 fun g t8 H2=>W M c (jw 2) g Q ((10,(.int .i64 0))::(9,(.bool false))::(8,t8)::(7,t7)::E) D H2) /\
 (∀ Q E D H,W M c (jw 2) true Q E D H =
  Lz E 0 fun g t0=>B3 g ((Op.eq .ptr false) [t0,.nilp] H) fun g t15=>IF3 g t15 (fun g=>B3 g ((Op.build [(.int .i64 0),(.int .i64 0),(.bool false),(.bool false),(.int .u64 0),(.int .u64 0),(.int .u64 0),(.int .u64 0),(.int .u64 0),(.int .u64 0),(.int .u64 0),(.int .u64 0),(.int .u64 0),(.int .u64 0),(.int .u64 0),(.int .u64 0),(.int .u64 0),(.int .u64 0),(.int .u64 0),(.int .u64 0),(.int .i64 0)] []) []) fun g t16=>Ly g E 8 fun g t8=>B32 g ((Op.store 21) [t8,t16] H) fun g u H1=>GO3 g (BLK3 0 (SEQ3 (W M c (jw 23)) Q)) .ret ((10,(.int .i64 1))::(9,(.bool false))::E) D H1) (fun g=>Ly g E 1 fun g t1=>Bn g .lss t1 (.int .i64 0) fun g t19=>JN (fun (k:Bool->AV->AV->AV->AHeap->Prop)=>B3 g (wantV false (some t19)) fun g w=>IG3 g w (fun g=>Ly g E 2 fun g t2=>Bn g .neq t2 (.int .i64 1) fun g t22=>k g t22 t22 t2 H) (fun g=>k g uu uu uu H)) (fun g t23_1 t22_1 t21_1 H1=>JN (fun (k:Bool->AV->AV->AHeap->Prop)=>B3 g (wantV true (some t23_1)) fun g w=>IG3 g w (fun g=>Ly g E 2 fun g t2_1=>Bn g .neq t2_1 (.int .i64 2) fun g t25=>k g t25 t2_1 H1) (fun g=>k g uu uu H1)) (fun g t25_1 t24_1 H2=>JN (fun (k:Bool->AV->AHeap->Prop)=>B3 g (wantV false (some t19)) fun g w=>IG3 g w (fun g=>B3 g (Op.pick [t23_1,t25_1,(.bool false)]) fun g t26=>k g t26 H2) (fun g=>k g uu H2)) (fun g t26_1 H3=>B3 g (Op.pick [t19,(.bool true),t26_1]) fun g t27=>IF3 g t27 (fun g=>B3 g ((Op.build [(.int .i64 0),(.int .i64 0),(.bool false),(.bool false),(.int .u64 0),(.int .u64 0),(.int .u64 0),(.int .u64 0),(.int .u64 0),(.int .u64 0),(.int .u64 0),(.int .u64 0),(.int .u64 0),(.int .u64 0),(.int .u64 0),(.int .u64 0),(.int .u64 0),(.int .u64 0),(.int .u64 0),(.int .u64 0),(.int .i64 0)] []) []) fun g t28=>Ly g E 8 fun g t8=>B32 g ((Op.store 21) [t8,t28] H3) fun g u H4=>GO3 g (BLK3 0 (SEQ3 (W M c (jw 23)) Q)) .ret ((10,(.int .i64 2))::(9,(.bool false))::(21,t21_1)::E) D H4) (fun g=>W M c (jw 16) g (BLK3 0 (SEQ3 (W M c (jw 23)) Q)) ((21,t21_1)::E) D H3)))))) /\
 (∀ Q E D H,W M c (jw 23) true Q E D H =
  Lz E 0 fun g t0=>Ly g E 1 fun g t1=>C3 M g (.func qaz) [t0,t1] H fun g t37 H1=>W M c (jw 25) g Q ((11,t37)::E) D H1) /\
 (∀ Q E D H,W M c (jw 16) true Q E D H =
  Lz E 0 fun g t0=>Ly g E 1 fun g t1=>C3 M g (.func qay) [t0,t1] H fun g t32 H1=>B3 g ((Op.eq .ptr true) [t32,.nilp] H1) fun g t33=>IF3 g t33 (fun g=>B3 g ((Op.build [(.int .i64 0),(.int .i64 0),(.bool false),(.bool false),(.int .u64 0),(.int .u64 0),(.int .u64 0),(.int .u64 0),(.int .u64 0),(.int .u64 0),(.int .u64 0),(.int .u64 0),(.int .u64 0),(.int .u64 0),(.int .u64 0),(.int .u64 0),(.int .u64 0),(.int .u64 0),(.int .u64 0),(.int .u64 0),(.int .i64 0)] []) []) fun g t34=>Ly g E 8 fun g t8=>B32 g ((Op.store 21) [t8,t34] H1) fun g u H2=>GO3 g Q .ret ((10,(.int .i64 21))::(9,(.bool false))::E) D H2) (fun g=>GO3 g Q .normal E D H1)) /\
 (∀ Q E D H,W M c (jw 25) true Q E D H =
  Lz E 11 fun g t11=>B3 g ((Op.eq .ptr false) [t11,.nilp] H) fun g t39=>IF3 g t39 (fun g=>B3 g ((Op.build [(.int .i64 0),(.int .i64 0),(.bool false),(.bool false),(.int .u64 0),(.int .u64 0),(.int .u64 0),(.int .u64 0),(.int .u64 0),(.int .u64 0),(.int .u64 0),(.int .u64 0),(.int .u64 0),(.int .u64 0),(.int .u64 0),(.int .u64 0),(.int .u64 0),(.int .u64 0),(.int .u64 0),(.int .u64 0),(.int .i64 0)] []) []) fun g t40=>Ly g E 8 fun g t8=>B32 g ((Op.store 21) [t8,t40] H) fun g u H1=>GO3 g (SEQ3 (W M c (jw 33)) Q) .ret ((10,(.int .i64 22))::(9,(.bool false))::E) D H1) (fun g=>Gt g M c (jw 33) Q E D H)) /\
 (∀ Q E D H,W M c (jw 33) true Q E D H =
  Lz E 11 fun g t11=>B3 g (Op.nilCheck [t11]) fun g t42=>B3 g ((Op.loadN 21) [t42] H) fun g t43=>A3 g qj [(.int .i64 0),(.int .i64 0),(.bool false),(.bool false),(.int .u64 0),(.int .u64 0),(.int .u64 0),(.int .u64 0),(.int .u64 0),(.int .u64 0),(.int .u64 0),(.int .u64 0),(.int .u64 0),(.int .u64 0),(.int .u64 0),(.int .u64 0),(.int .u64 0),(.int .u64 0),(.int .u64 0),(.int .u64 0),(.int .i64 0)] H fun g t12 H1=>B32 g ((Op.store 21) [t12,t43] H1) fun g u H2=>Ly g E 11 fun g t11_1=>Ly g E 1 fun g t1=>Ly g E 2 fun g t2=>Ly g E 7 fun g t7=>B3 g ((Op.loadN 8) [t7] H2) fun g t47=>B3 g ((Op.build [(.int .i64 0),(.int .i64 0),(.bool false),(.bool false),(.int .u64 0),(.int .u64 0),(.int .u64 0),(.int .u64 0),(.int .u64 0),(.int .u64 0),(.int .u64 0),(.int .u64 0),(.int .u64 0),(.int .u64 0),(.int .u64 0),(.int .u64 0),(.int .u64 0),(.int .u64 0),(.int .u64 0),(.int .u64 0),(.int .i64 0)] [(0,1),(1,1),(4,8)]) [t1,t2,t47]) fun g t48=>B3 g (Op.nilCheck [t11_1]) fun g t49=>B32 g ((Op.store 21) [t49,t48] H2) fun g u_1 H3=>Ly g E 0 fun g t0=>Ly g E 11 fun g t11_2=>C3 M g (.func qct) [t0,t11_2] H3 fun g t52 H4=>B3 g ((Op.loadN 21) [t12] H4) fun g t53=>B3 g ((Op.fieldAddr 1) [t12]) fun g t54=>B3 g (Op.load1 [t54] H4) fun g t55=>Bn g .neq t55 (.int .i64 0) fun g t56=>Ly g E 8 fun g t8=>B32 g ((Op.store 21) [t8,t53] H4) fun g u_2 H5=>CK3 g (Op.load1 [t54] H5) (some t55) fun g=>GO3 g Q .ret ((10,(.int .i64 0))::(9,t56)::(12,t12)::E) D H5):=by (repeat' apply And.intro)<;>(intro _ _ _ _;refine W_unf ?_;kernel_rfl)
theorem qtr:(cProg Try.prog).func wz=some qiw/\qiw.results=[.cellN 21 8,.tmp 9,.tmp 10]:=za (by kernel_rfl)
theorem qts (h:W M ⟨none,wz⟩ (jw 0) true (FIN3 M [.cellN 21 8,.tmp 9,.tmp 10] Q) [(0,a0),(1,a1),(2,a2),(3,a3)] [] H):yw M wz [a0,a1,a2,a3] H Q:=callf (by decide) qtr (ks:=qmp) (by kernel_rfl) h
def qi0:AFunc:=funcAt Try.prog qb8
def qmu:Kp:=⟨[0,1,2],false,[0]⟩
def qmv (k:Nat):Kp × ACode:=(qmu,part qi0.body k)
theorem qt5 (M:Mac) (c:Ctx):(∀ Q E D H,W M c (qmv 0) true Q E D H =
 Lz E 0 fun g t0=>A3 g yg (AV.cells t0) H fun g t1 H1=>B3 g ((Op.mkFunc ya 0) [t1]) fun g t3=>GO3 g Q .ret ((2,t3)::(2,.nilf)::(1,t1)::E) D H1):=by intro _ _ _ _;refine W_unf ?_;kernel_rfl
theorem qt3:(cProg Try.prog).func qb8=some qi0/\qi0.results=[.tmp 2]:=za (by kernel_rfl)
theorem qt4 (h:W M ⟨none,qb8⟩ (qmv 0) true (FIN3 M [.tmp 2] Q) [(0,a0)] [] H):yw M qb8 [a0] H Q:=callf (by decide) qt3 (ks:=qmu) (by kernel_rfl) h
def qh2:AFunc:=funcAt Try.prog qcg
def qln:Kp:=⟨[0,1,2,3,4],false,[0]⟩
def qlo (k:Nat):Kp × ACode:=(qln,part qh2.body k)
theorem qrp (M:Mac) (c:Ctx):(∀ Q E D H,W M c (qlo 0) true Q E D H =
 Lz E 0 fun g t0=>A3 g qj (AV.cells t0) H fun g t2 H1=>Ly g E 1 fun g t1=>A3 g qj (AV.cells t1) H1 fun g t3 H2=>Fl g 0 t2 H2 fun g t6=>Fl g 0 t3 H2 fun g t8=>C3 M g (.func qbs) [t6,t8] H2 fun g t9 H3=>GO3 g Q .ret ((4,t9)::(4,(.int .i64 0))::(3,t3)::(2,t2)::E) D H3):=by intro _ _ _ _;refine W_unf ?_;kernel_rfl
theorem qrn:(cProg Try.prog).func qcg=some qh2/\qh2.results=[.tmp 4]:=za (by kernel_rfl)
theorem qro (h:W M ⟨none,qcg⟩ (qlo 0) true (FIN3 M [.tmp 4] Q) [(0,a0),(1,a1)] [] H):yw M qcg [a0,a1] H Q:=callf (by decide) qrn (ks:=qln) (by kernel_rfl) h
def qk2:AFunc:=funcAt Try.prog vx
def qo9:Kp:=⟨[0,1,2,6,7,8],false,[0,2,10,12,20]⟩
def qag (k:Nat):Kp × ACode:=(qo9,part qk2.body k)
theorem qxi (M:Mac) (c:Ctx):(∀ Q E D H,W M c (qag 0) true Q E D H =
 W M c (qag 2) true Q ((7,(.int .i64 0))::(6,.nilp)::E) D H) /\
 (∀ Q E D H,W M c (qag 2) true Q E D H =
  Lz E 0 fun g t0=>B3 g ((Op.eq .ptr false) [t0,.nilp] H) fun g t10=>IF3 g t10 (fun g=>GO3 g (SEQ3 (W M c (qag 10)) Q) .ret ((7,(.int .i64 1))::(6,.nilp)::E) D H) (fun g=>Gt g M c (qag 10) Q E D H)) /\
 (∀ Q E D H,W M c (qag 10) true Q E D H =
  Lz E 0 fun g t0=>Ly g E 1 fun g t1=>C3 M g (.func qay) [t0,t1] H fun g t13 H1=>W M c (qag 12) g Q ((8,t13)::E) D H1) /\
 (∀ Q E D H,W M c (qag 12) true Q E D H =
  Lz E 8 fun g t8=>B3 g ((Op.eq .ptr false) [t8,.nilp] H) fun g t15=>JN (fun (k:Bool->AV->AV->AV->AHeap->Prop)=>B3 g (wantV false (some t15)) fun g w=>IG3 g w (fun g=>Ly g E 2 fun g t2=>Bn g .neq t2 (.int .i64 0) fun g t18=>k g t18 t18 t2 H) (fun g=>k g uu uu uu H)) (fun g t19_1 t18_1 t17_1 H1=>JN (fun (k:Bool->AV->AV->AV->AV->AV->AV->AHeap->Prop)=>B3 g (wantV true (some t19_1)) fun g w=>IG3 g w (fun g=>B3 g (Op.nilCheck [t8]) fun g t21=>B3 g ((Op.fieldAddr 1) [t21]) fun g t22=>B3 g (Op.load1 [t22] H1) fun g t23=>Ly g E 2 fun g t2_1=>Bn g .neq t23 t2_1 fun g t25=>k g t25 t2_1 t23 t22 t21 t8 H1) (fun g=>k g uu uu uu uu uu uu H1)) (fun g t25_1 t24_1 t23_1 t22_1 t21_1 t20_1 H2=>JN (fun (k:Bool->AV->AHeap->Prop)=>B3 g (wantV false (some t15)) fun g w=>IG3 g w (fun g=>B3 g (Op.pick [t19_1,t25_1,(.bool false)]) fun g t26=>k g t26 H2) (fun g=>k g uu H2)) (fun g t26_1 H3=>B3 g (Op.pick [t15,(.bool true),t26_1]) fun g t27=>IF3 g t27 (fun g=>GO3 g (SEQ3 (W M c (qag 20)) Q) .ret ((7,(.int .i64 20))::(6,.nilp)::E) D H3) (fun g=>Gt g M c (qag 20) Q E D H3))))) /\
 (∀ Q E D H,W M c (qag 20) true Q E D H =
  Lz E 8 fun g t8=>GO3 g Q .ret ((7,(.int .i64 0))::(6,t8)::E) D H):=by (repeat' apply And.intro)<;>(intro _ _ _ _;refine W_unf ?_;kernel_rfl)
theorem qxg:(cProg Try.prog).func vx=some qk2/\qk2.results=[.tmp 6,.tmp 7]:=za (by kernel_rfl)
theorem qxh (h:W M ⟨none,vx⟩ (qag 0) true (FIN3 M [.tmp 6,.tmp 7] Q) [(0,a0),(1,a1),(2,a2)] [] H):yw M vx [a0,a1,a2] H Q:=callf (by decide) qxg (ks:=qo9) (by kernel_rfl) h
def qjw:AFunc:=funcAt Try.prog qct
def qn2:Kp:=⟨[0,1],false,[0]⟩
def qn3 (k:Nat):Kp × ACode:=(qn2,part qjw.body k)
theorem qvu (M:Mac) (c:Ctx):(∀ Q E D H,W M c (qn3 0) true Q E D H =
 Lz E 0 fun g t0=>Nf g 3 t0 H fun g t7=>Bn g .add t7 (.int .i64 1) fun g t8=>Ns g 3 t0 t8 H fun g u H1=>Ly g E 1 fun g t1=>Ly g E 0 fun g t0_1=>Nf g 3 t0_1 H1 fun g t15=>Ns g 20 t1 t15 H1 fun g u_1 H2=>GO3 g Q .normal E D H2):=by intro _ _ _ _;refine W_unf ?_;kernel_rfl
theorem qvs:(cProg Try.prog).func qct=some qjw/\qjw.results=[]:=za (by kernel_rfl)
theorem qvt (h:W M ⟨none,qct⟩ (qn3 0) true (FIN3 M [] Q) [(0,a0),(1,a1)] [] H):yw M qct [a0,a1] H Q:=callf (by decide) qvs (ks:=qn2) (by kernel_rfl) h
def qeh:AFunc:=funcAt Try.prog qay
def qei:Kp:=⟨[0,1,3,4,5,8,9],false,[0,2,7]⟩
def qfs (k:Nat):Kp × ACode:=(qei,part qeh.body k)
def qdr:ALoop:=loopAt qeh 0
def qny (k:Nat):Kp × ACode:=(⟨qei.keep,qei.pan,[0]⟩,part qdr.assign k)
def qnz (k:Nat):Kp × ACode:=(⟨qei.keep,qei.pan,[0]⟩,part qdr.body k)
theorem qmt:nth qeh.loops 0=some qdr/\qdr.params=[9]:=⟨by kernel_rfl,by kernel_rfl⟩
theorem qo8 (M:Mac) (c:Ctx):(∀ Q E D H,W M c (qfs 0) true Q E D H =
 Lz E 1 fun g t1=>A3 g T_int (AV.cells t1) H fun g t3 H1=>A3 g jj [.nilp] H1 fun g t4 H2=>W M c (qfs 2) g Q ((4,t4)::(3,t3)::E) D H2) /\
 (∀ Q E D H,W M c (qny 0) true Q E D H =
  Lz E 9 fun g t9=>GO3 g Q .normal ((5,t9)::E) D H) /\
 (∀ Q E D H,W M c (qnz 0) true Q E D H =
  Lz E 5 fun g t5=>Nf g 1 t5 H fun g t13=>Bn g .neq t13 (.int .i64 0) fun g t14=>JN (fun (k:Bool->AV->AV->AV->AV->AV->AV->AHeap->Prop)=>B3 g (wantV true (some t14)) fun g w=>IG3 g w (fun g=>B3 g (Op.nilCheck [t5]) fun g t17=>B3 g ((Op.fieldAddr 0) [t17]) fun g t18=>B3 g (Op.load1 [t18] H) fun g t19=>Ly g E 3 fun g t3=>B3 g (Op.load1 [t3] H) fun g t20=>Bn g .eql t19 t20 fun g t21=>k g t21 t20 t19 t18 t17 t5 H) (fun g=>k g uu uu uu uu uu uu H)) (fun g t21_1 t20_1 t19_1 t18_1 t17_1 t16_1 H1=>B3 g (Op.pick [t14,t21_1,(.bool false)]) fun g t22=>IF3 g t22 (fun g=>Ly g E 5 fun g t5_1=>Ly g E 4 fun g t4=>B32 g ((Op.store 1) [t4,t5_1] H1) fun g u H2=>GO3 g (BLK3 1 Q) .ret E D H2) (fun g=>GO3 g (BLK3 1 Q) .normal E D H1))) /\
 (∀ Q E D H,W M c (qfs 2) true Q E D H =
  Lz E 0 fun g t0=>Ly g E 3 fun g t3=>B3 g (Op.load1 [t3] H) fun g t7=>C3 M g (.func qdn) [t0,t7] H fun g t8 H1=>RNG3 M qei.keep c 0 ((8,t8)::E) D H1 (BLK3 0 (SEQ3 (W M c (qfs 7)) Q)) t8) /\
 (∀ Q E D H,W M c (qfs 7) true Q E D H =
  Lz E 4 fun g t4=>B32 g ((Op.store 1) [t4,.nilp] H) fun g u H1=>GO3 g Q .ret E D H1):=by (repeat' apply And.intro)<;>(intro _ _ _ _;refine W_unf ?_;kernel_rfl)
theorem qo7:(cProg Try.prog).func qay=some qeh/\qeh.results=[.cell1 4]:=za (by kernel_rfl)
theorem qvo:M.func qay=some qeh:=MK.at (by decide) qo7.1
theorem qxf (h:W M ⟨none,qay⟩ (qfs 0) true (FIN3 M [.cell1 4] Q) [(0,a0),(1,a1)] [] H):yw M qay [a0,a1] H Q:=callf (by decide) qo7 (ks:=qei) (by kernel_rfl) h
def qc4:AFunc:=funcAt Try.prog qaz
def qc5:Kp:=⟨[0,1,4,5,6,9,10],false,[0,2,3,5,7,12]⟩
def yd (k:Nat):Kp × ACode:=(qc5,part qc4.body k)
def qci:ALoop:=loopAt qc4 0
def qlq (k:Nat):Kp × ACode:=(⟨qc5.keep,qc5.pan,[0]⟩,part qci.assign k)
def qbk (k:Nat):Kp × ACode:=(⟨qc5.keep,qc5.pan,[0,9,15]⟩,part qci.body k)
theorem qki:nth qc4.loops 0=some qci/\qci.params=[10]:=⟨by kernel_rfl,by kernel_rfl⟩
theorem qmx (M:Mac) (c:Ctx):(∀ Q E D H,W M c (yd 0) true Q E D H =
 A3 true jj [.nilp] H fun g t4 H1=>W M c (yd 2) g Q ((4,t4)::E) D H1) /\
 (∀ Q E D H,W M c (qlq 0) true Q E D H =
  Lz E 10 fun g t10=>GO3 g Q .normal ((6,t10)::E) D H) /\
 (∀ Q E D H,W M c (qbk 0) true Q E D H =
  Lz E 6 fun g t6=>Nf g 1 t6 H fun g t14=>Cb g .eql t14 (.int .i64 0) (fun g=>Ly g E 6 fun g t6_1=>Ly g E 4 fun g t4=>B32 g ((Op.store 1) [t4,t6_1] H) fun g u H1=>GO3 g (SEQ3 (W M c (qbk 9)) (BLK3 1 Q)) .ret E D H1) (fun g=>Gt g M c (qbk 9) (BLK3 1 Q) E D H)) /\
 (∀ Q E D H,W M c (yd 2) true Q E D H =
  W M c (yd 3) true (SCP3 (yd 3).2 Q) E D H) /\
 (∀ Q E D H,W M c (qbk 9) true Q E D H =
  Lz E 6 fun g t6=>Nf g 2 t6 H fun g t20=>JN (fun (k:Bool->AV->AV->AV->AV->AHeap->Prop)=>B3 g (wantV false (some t20)) fun g w=>IG3 g w (fun g=>B3 g (Op.nilCheck [t6]) fun g t23=>B3 g ((Op.fieldAddr 3) [t23]) fun g t24=>B3 g (Op.load1 [t24] H) fun g t25=>k g t25 t24 t23 t6 H) (fun g=>k g uu uu uu uu H)) (fun g t25_1 t24_1 t23_1 t22_1 H1=>B3 g (Op.pick [t20,(.bool true),t25_1]) fun g t26=>IF3 g t26 (fun g=>GO3 g (SEQ3 (W M c (qbk 15)) Q) (.exit 1) E D H1) (fun g=>Gt g M c (qbk 15) Q E D H1))) /\
 (∀ Q E D H,W M c (yd 3) true Q E D H =
  A3 true jj [.nilp] H fun g t5 H1=>W M c (yd 5) g Q ((5,t5)::E) D H1) /\
 (∀ Q E D H,W M c (qbk 15) true Q E D H =
  Lz E 5 fun g t5=>B3 g (Op.load1 [t5] H) fun g t27=>B3 g ((Op.eq .ptr false) [t27,.nilp] H) fun g t28=>JN (fun (k:Bool->AV->AV->AV->AV->AV->AV->AV->AV->AV->AHeap->Prop)=>B3 g (wantV false (some t28)) fun g w=>IG3 g w (fun g=>Ly g E 6 fun g t6=>B3 g (Op.nilCheck [t6]) fun g t31=>B3 g ((Op.fieldAddr 20) [t31]) fun g t32=>B3 g (Op.load1 [t32] H) fun g t33=>B3 g (Op.load1 [t5] H) fun g t34=>B3 g (Op.nilCheck [t34]) fun g t35=>B3 g ((Op.fieldAddr 20) [t35]) fun g t36=>B3 g (Op.load1 [t36] H) fun g t37=>Bn g .lss t33 t37 fun g t38=>k g t38 t37 t36 t35 t34 t33 t32 t31 t6 H) (fun g=>k g uu uu uu uu uu uu uu uu uu H)) (fun g t38_1 t37_1 t36_1 t35_1 t34_1 t33_1 t32_1 t31_1 t30_1 H1=>B3 g (Op.pick [t28,(.bool true),t38_1]) fun g t39=>IF3 g t39 (fun g=>Ly g E 6 fun g t6_1=>Ly g E 5 fun g t5_1=>B32 g ((Op.store 1) [t5_1,t6_1] H1) fun g u H2=>GO3 g Q .normal E D H2) (fun g=>GO3 g Q .normal E D H1))) /\
 (∀ Q E D H,W M c (yd 5) true Q E D H =
  Gt true M c (yd 7) Q E D H) /\
 (∀ Q E D H,W M c (yd 7) true Q E D H =
  Lz E 0 fun g t0=>Ly g E 1 fun g t1=>C3 M g (.func qdn) [t0,t1] H fun g t9 H1=>RNG3 M qc5.keep c 0 ((9,t9)::E) D H1 (BLK3 0 (SEQ3 (W M c (yd 12)) Q)) t9) /\
 (∀ Q E D H,W M c (yd 12) true Q E D H =
  Lz E 5 fun g t5=>B3 g (Op.load1 [t5] H) fun g t41=>Ly g E 4 fun g t4=>B32 g ((Op.store 1) [t4,t41] H) fun g u H1=>GO3 g Q .ret E D H1):=by (repeat' apply And.intro)<;>(intro _ _ _ _;refine W_unf ?_;kernel_rfl)
theorem qmw:(cProg Try.prog).func qaz=some qc4/\qc4.results=[.cell1 4]:=za (by kernel_rfl)
theorem qrq:M.func qaz=some qc4:=MK.at (by decide) qmw.1
theorem qt6 (h:W M ⟨none,qaz⟩ (yd 0) true (FIN3 M [.cell1 4] Q) [(0,a0),(1,a1)] [] H):yw M qaz [a0,a1] H Q:=callf (by decide) qmw (ks:=qc5) (by kernel_rfl) h
def qhj:AFunc:=funcAt Try.prog ya
def qkh:Kp:=⟨[0,1,3,10,11],false,[0,1,7,9,13,19,23,29,34]⟩
def zl (k:Nat):Kp × ACode:=(qkh,part qhj.body k)
theorem qqd (M:Mac) (c:Ctx):(∀ Q E D H,W M c (zl 0) true Q E D H =
 W M c (zl 1) true (SCP3 (zl 1).2 Q) E D H) /\
 (∀ Q E D H,W M c (zl 1) true Q E D H =
  Lz E 1 fun g t1=>B3 g (Op.load1 [t1] H) fun g t4=>B3 g ((Op.eq .ptr false) [t4,.nilp] H) fun g t5=>IF3 g t5 (fun g=>GO3 g (SEQ3 (W M c (zl 7)) Q) .ret E D H) (fun g=>Gt g M c (zl 7) Q E D H)) /\
 (∀ Q E D H,W M c (zl 7) true Q E D H =
  Gt true M c (zl 9) Q E D H) /\
 (∀ Q E D H,W M c (zl 9) true Q E D H =
  Lz E 1 fun g t1=>B3 g (Op.load1 [t1] H) fun g t6=>Nf g 2 t6 H fun g t9=>B3 g (Op.lenSl [t9]) fun g t10=>LOOP3 (W M c (zl 13)) (BLK3 0 Q) ((11,(.int .i64 0))::(10,t10)::E) D H) /\
 (∀ Q E D H,W M c (zl 13) true Q E D H =
  Lz E 11 fun g t11=>Ly g E 10 fun g t10=>Cb g .lss t11 t10 (fun g=>Gt g M c (zl 19) Q E D H) (fun g=>GO3 g (SEQ3 (W M c (zl 19)) Q) (.exit 0) E D H)) /\
 (∀ Q E D H,W M c (zl 19) true Q E D H =
  Lz E 11 fun g t11=>W M c (zl 23) g (BLK3 1 (SEQ3 (W M c (zl 34)) Q)) ((3,t11)::E) D H) /\
 (∀ Q E D H,W M c (zl 34) true Q E D H =
  Lz E 11 fun g t11=>Bn g .add t11 (.int .i64 1) fun g t32=>GO3 g Q .normal ((11,t32)::E) D H) /\
 (∀ Q E D H,W M c (zl 23) true Q E D H =
  Lz E 1 fun g t1=>B3 g (Op.load1 [t1] H) fun g t14=>Nf g 2 t14 H fun g t17=>Ly g E 3 fun g t3=>B3 g ((Op.indexSl 21) [t17,t3]) fun g t19=>Fl g 1 t19 H fun g t21=>Cb g .eql t21 (.int .i64 0) (fun g=>GO3 g (SEQ3 (W M c (zl 29)) Q) (.exit 1) E D H) (fun g=>Gt g M c (zl 29) Q E D H)) /\
 (∀ Q E D H,W M c (zl 29) true Q E D H =
  Lz E 0 fun g t0=>Ly g E 1 fun g t1=>B3 g (Op.load1 [t1] H) fun g t24=>Nf g 2 t24 H fun g t27=>Ly g E 3 fun g t3=>B3 g ((Op.indexSl 21) [t27,t3]) fun g t29=>V3 g [t0,t29] fun g f vs=>C3 M g f vs H fun g t30 H1=>B3 g ((Op.un .not) [t30]) fun g t31=>IF3 g t31 (fun g=>GO3 g Q .ret E D H1) (fun g=>GO3 g Q .normal E D H1)):=by (repeat' apply And.intro)<;>(intro _ _ _ _;refine W_unf ?_;kernel_rfl)
theorem qqb:(cProg Try.prog).func ya=some qhj/\qhj.results=[]:=za (by kernel_rfl)
theorem qqc (h:W M ⟨none,ya⟩ (zl 0) true (FIN3 M [] Q) [(0,a0),(1,a1)] [] H):yw M ya [a0,a1] H Q:=callf (by decide) qqb (ks:=qkh) (by kernel_rfl) h
def qhd:AFunc:=funcAt Try.prog qbs
def qj6:Kp:=⟨[0,1,4,5,6],false,[0,4,6,10,18,22,30,38,46]⟩
def zh (k:Nat):Kp × ACode:=(qj6,part qhd.body k)
theorem qp3 (M:Mac) (c:Ctx):(∀ Q E D H,W M c (zh 0) true Q E D H =
 Lz E 0 fun g t0=>C3 M g (.func qcz) [t0] H fun g t8 H1=>W M c (zh 4) g Q ((5,t8)::(4,(.int .i64 0))::E) D H1) /\
 (∀ Q E D H,W M c (zh 4) true Q E D H =
  Lz E 1 fun g t1=>C3 M g (.func qcz) [t1] H fun g t10 H1=>W M c (zh 6) g Q ((6,t10)::E) D H1) /\
 (∀ Q E D H,W M c (zh 6) true Q E D H =
  Lz E 5 fun g t5=>IF3 g t5 (fun g=>W M c (zh 10) g (SEQ3 (W M c (zh 22)) Q) E D H) (fun g=>Gt g M c (zh 22) Q E D H)) /\
 (∀ Q E D H,W M c (zh 22) true Q E D H =
  Lz E 6 fun g t6=>IF3 g t6 (fun g=>GO3 g (SEQ3 (W M c (zh 30)) Q) .ret ((4,(.int .i64 1))::E) D H) (fun g=>Gt g M c (zh 30) Q E D H)) /\
 (∀ Q E D H,W M c (zh 10) true Q E D H =
  Lz E 6 fun g t6=>IF3 g t6 (fun g=>GO3 g (SEQ3 (W M c (zh 18)) Q) .ret ((4,(.int .i64 0))::E) D H) (fun g=>Gt g M c (zh 18) Q E D H)) /\
 (∀ Q E D H,W M c (zh 30) true Q E D H =
  Lz E 0 fun g t0=>Ly g E 1 fun g t1=>Cb g .lss t0 t1 (fun g=>GO3 g (SEQ3 (W M c (zh 38)) Q) .ret ((4,(.int .i64 (-1)))::E) D H) (fun g=>Gt g M c (zh 38) Q E D H)) /\
 (∀ Q E D H,W M c (zh 18) true Q E D H =
  GO3 true Q .ret ((4,(.int .i64 (-1)))::E) D H) /\
 (∀ Q E D H,W M c (zh 38) true Q E D H =
  Lz E 0 fun g t0=>Ly g E 1 fun g t1=>Cb g .gtr t0 t1 (fun g=>GO3 g (SEQ3 (W M c (zh 46)) Q) .ret ((4,(.int .i64 1))::E) D H) (fun g=>Gt g M c (zh 46) Q E D H)) /\
 (∀ Q E D H,W M c (zh 46) true Q E D H =
  GO3 true Q .ret ((4,(.int .i64 0))::E) D H):=by (repeat' apply And.intro)<;>(intro _ _ _ _;refine W_unf ?_;kernel_rfl)
theorem qp1:(cProg Try.prog).func qbs=some qhd/\qhd.results=[.tmp 4]:=za (by kernel_rfl)
theorem qp2 (h:W M ⟨none,qbs⟩ (zh 0) true (FIN3 M [.tmp 4] Q) [(0,a0),(1,a1)] [] H):yw M qbs [a0,a1] H Q:=callf (by decide) qp1 (ks:=qj6) (by kernel_rfl) h
def qjv:AFunc:=funcAt Try.prog qdn
def qn0:Kp:=⟨[0,1,2,3,4],false,[0]⟩
def qn1 (k:Nat):Kp × ACode:=(qn0,part qjv.body k)
theorem qvr (M:Mac) (c:Ctx):(∀ Q E D H,W M c (qn1 0) true Q E D H =
 Lz E 0 fun g t0=>A3 g yg (AV.cells t0) H fun g t2 H1=>Ly g E 1 fun g t1=>A3 g T_int (AV.cells t1) H1 fun g t3 H2=>B3 g ((Op.mkFunc yn 0) [t2,t3]) fun g t5=>GO3 g Q .ret ((4,t5)::(4,.nilf)::(3,t3)::(2,t2)::E) D H2):=by intro _ _ _ _;refine W_unf ?_;kernel_rfl
theorem qvp:(cProg Try.prog).func qdn=some qjv/\qjv.results=[.tmp 4]:=za (by kernel_rfl)
theorem qvq (h:W M ⟨none,qdn⟩ (qn1 0) true (FIN3 M [.tmp 4] Q) [(0,a0),(1,a1)] [] H):yw M qdn [a0,a1] H Q:=callf (by decide) qvp (ks:=qn0) (by kernel_rfl) h
def qip:AFunc:=funcAt Try.prog qcz
def qmg:Kp:=⟨[0,2],false,[0]⟩
def qmh (k:Nat):Kp × ACode:=(qmg,part qip.body k)
theorem qs7 (M:Mac) (c:Ctx):(∀ Q E D H,W M c (qmh 0) true Q E D H =
 Lz E 0 fun g t0=>Bn g .neq t0 t0 fun g t5=>GO3 g Q .ret ((2,t5)::(2,(.bool false))::E) D H):=by intro _ _ _ _;refine W_unf ?_;kernel_rfl
theorem qs5:(cProg Try.prog).func qcz=some qip/\qip.results=[.tmp 2]:=za (by kernel_rfl)
theorem qs6 (h:W M ⟨none,qcz⟩ (qmh 0) true (FIN3 M [.tmp 2] Q) [(0,a0)] [] H):yw M qcz [a0] H Q:=callf (by decide) qs5 (ks:=qmg) (by kernel_rfl) h
def qh3:AFunc:=funcAt Try.prog yn
def qlr:Kp:=⟨[0,1,2,4,5,26,27],false,[0,6,12,18,27]⟩
def ko (k:Nat):Kp × ACode:=(qlr,part qh3.body k)
theorem qrt (M:Mac) (c:Ctx):(∀ Q E D H,W M c (ko 0) true Q E D H =
 Lz E 1 fun g t1=>B3 g (Op.load1 [t1] H) fun g t6=>B3 g ((Op.eq .ptr false) [t6,.nilp] H) fun g t7=>JN (fun (k:Bool->AV->AV->AHeap->Prop)=>B3 g (wantV false (some t7)) fun g w=>IG3 g w (fun g=>Ly g E 2 fun g t2=>B3 g (Op.load1 [t2] H) fun g t9=>Bn g .lss t9 (.int .i64 0) fun g t10=>k g t10 t9 H) (fun g=>k g uu uu H)) (fun g t10_1 t9_1 H1=>B3 g (Op.pick [t7,(.bool true),t10_1]) fun g t11=>IF3 g t11 (fun g=>GO3 g (SEQ3 (W M c (ko 6)) Q) .ret E D H1) (fun g=>Gt g M c (ko 6) Q E D H1))) /\
 (∀ Q E D H,W M c (ko 6) true Q E D H =
  Lz E 2 fun g t2=>B3 g (Op.load1 [t2] H) fun g t12=>Ly g E 1 fun g t1=>B3 g (Op.load1 [t1] H) fun g t13=>Nf g 0 t13 H fun g t16=>Bn g .rem t12 t16 fun g t17=>B3 g (Op.load1 [t1] H) fun g t18=>Nf g 1 t18 H fun g t21=>Bn g .mul t17 t21 fun g t22=>Ly g E 1 fun g t1_1=>B3 g (Op.load1 [t1_1] H) fun g t23=>Nf g 1 t23 H fun g t26=>LOOP3 (W M c (ko 12)) (BLK3 0 Q) ((27,(.int .i64 0))::(26,t26)::(4,t22)::E) D H) /\
 (∀ Q E D H,W M c (ko 12) true Q E D H =
  Lz E 27 fun g t27=>Ly g E 26 fun g t26=>Cb g .lss t27 t26 (fun g=>Gt g M c (ko 18) Q E D H) (fun g=>GO3 g (SEQ3 (W M c (ko 18)) Q) (.exit 0) E D H)) /\
 (∀ Q E D H,W M c (ko 18) true Q E D H =
  Lz E 27 fun g t27=>Ly g E 0 fun g t0=>Ly g E 1 fun g t1=>B3 g (Op.load1 [t1] H) fun g t31=>Nf g 2 t31 H fun g t34=>Ly g E 4 fun g t4=>Bn g .add t4 t27 fun g t37=>B3 g ((Op.indexSl 21) [t34,t37]) fun g t38=>V3 g [t0,t38] fun g f vs=>C3 M g f vs H fun g t39 H1=>B3 g ((Op.un .not) [t39]) fun g t40=>IF3 g t40 (fun g=>GO3 g (BLK3 1 (SEQ3 (W M c (ko 27)) Q)) .ret ((5,t27)::E) D H1) (fun g=>GO3 g (BLK3 1 (SEQ3 (W M c (ko 27)) Q)) .normal ((5,t27)::E) D H1)) /\
 (∀ Q E D H,W M c (ko 27) true Q E D H =
  Lz E 27 fun g t27=>Bn g .add t27 (.int .i64 1) fun g t41=>GO3 g Q .normal ((27,t41)::E) D H):=by (repeat' apply And.intro)<;>(intro _ _ _ _;refine W_unf ?_;kernel_rfl)
theorem qrr:(cProg Try.prog).func yn=some qh3/\qh3.results=[]:=za (by kernel_rfl)
theorem qrs (h:W M ⟨none,yn⟩ (ko 0) true (FIN3 M [] Q) [(0,a0),(1,a1),(2,a2)] [] H):yw M yn [a0,a1,a2] H Q:=callf (by decide) qrr (ks:=qlr) (by kernel_rfl) h
end
end Go.Am
namespace Go.Am
abbrev qg9:Nat:=10
abbrev qbv:Nat:=19
abbrev qab:Nat:=11
abbrev qbw:Nat:=16
abbrev qc0:Nat:=36
abbrev qa0:Nat:=15
abbrev qbg:Nat:=37
abbrev km:Nat:=32
abbrev qa1:Nat:=77
abbrev qbh:Nat:=12
abbrev qbi:Nat:=18
abbrev qar:Nat:=17
abbrev yq:Nat:=46
abbrev qa2:Nat:=41
abbrev qai:Nat:=35
abbrev qmc:Nat:=80
abbrev qaf:Nat:=79
abbrev qbj:Nat:=83
abbrev qch:Nat:=72
abbrev qa3:Nat:=39
abbrev qaj:Nat:=71
abbrev kv:Nat:=74
abbrev qbx:Nat:=40
abbrev vn:Nat:=85
abbrev yl:Nat:=76
abbrev yx:Nat:=103
abbrev qa4:Nat:=110
abbrev yr:Nat:=81
abbrev ja:Nat:=105
abbrev xm:Nat:=38
abbrev qf7:Nat:=23
abbrev qha:Nat:=99
noncomputable section
open Go.Proofs Go.Proofs.Ytiibohocdbaekaa
variable {M:Mac} [MK M] {H:AHeap} {Q:AEnd->AHeap->Prop} {a0 a1 a2 a3:AV}
def qqk:AFunc:=funcAt Try.prog qg9
def qwg:Kp:=⟨[0,1,3,4,5,6,7],false,[0,4,12]⟩
def qhm (k:Nat):Kp × ACode:=(qwg,part qqk.body k)
theorem q3v (M:Mac) (c:Ctx):(∀ Q E D H,W M c (qhm 0) true Q E D H =
 Lz E 1 fun g t1=>A3 g qf7 (AV.cells t1) H fun g t3 H1=>Fl g 2 t3 H1 fun g t10=>Fl g 3 t3 H1 fun g t12=>C3 M g (.func qkv) [t10,t12] H1 fun g t13 H2=>B3 g ((Op.extract 0) [t13]) fun g t14=>B3 g ((Op.extract 1) [t13]) fun g t15=>W M c (qhm 4) g Q ((7,t15)::(6,t14)::(5,(.int .i64 0))::(4,.nilp)::(3,t3)::E) D H2) /\
 (∀ Q E D H,W M c (qhm 4) true Q E D H =
  Lz E 7 fun g t7=>Bn g .neq t7 (.int .i64 0) fun g t17=>JN (fun (k:Bool->AV->AV->AHeap->Prop)=>B3 g (wantV false (some t17)) fun g w=>IG3 g w (fun g=>Ly g E 0 fun g t0=>Bn g .lss t0 (.int .i64 0) fun g t20=>k g t20 t0 H) (fun g=>k g uu uu H)) (fun g t20_1 t19_1 H1=>B3 g (Op.pick [t17,(.bool true),t20_1]) fun g t21=>JN (fun (k:Bool->AV->AV->AV->AV->AHeap->Prop)=>B3 g (wantV false (some t21)) fun g w=>IG3 g w (fun g=>Ly g E 0 fun g t0_1=>Ly g E 3 fun g t3=>B3 g ((Op.fieldAddr 1) [t3]) fun g t24=>B3 g (Op.load1 [t24] H1) fun g t25=>Bn g .geq t0_1 t25 fun g t26=>k g t26 t25 t24 t0_1 H1) (fun g=>k g uu uu uu uu H1)) (fun g t26_1 t25_1 t24_1 t23_1 H2=>B3 g (Op.pick [t21,(.bool true),t26_1]) fun g t27=>JN (fun (k:Bool->AV->AV->AV->AHeap->Prop)=>B3 g (wantV false (some t27)) fun g w=>IG3 g w (fun g=>Ly g E 3 fun g t3_1=>B3 g ((Op.fieldAddr 1) [t3_1]) fun g t29=>B3 g (Op.load1 [t29] H2) fun g t30=>Bn g .gtr t30 (.int .i64 4) fun g t31=>k g t31 t30 t29 H2) (fun g=>k g uu uu uu H2)) (fun g t31_1 t30_1 t29_1 H3=>B3 g (Op.pick [t27,(.bool true),t31_1]) fun g t32=>JN (fun (k:Bool->AV->AV->AV->AHeap->Prop)=>B3 g (wantV false (some t32)) fun g w=>IG3 g w (fun g=>Ly g E 3 fun g t3_2=>B3 g ((Op.fieldAddr 0) [t3_2]) fun g t34=>B3 g (Op.load1 [t34] H3) fun g t35=>Bn g .lss t35 (.int .i64 2) fun g t36=>k g t36 t35 t34 H3) (fun g=>k g uu uu uu H3)) (fun g t36_1 t35_1 t34_1 H4=>B3 g (Op.pick [t32,(.bool true),t36_1]) fun g t37=>JN (fun (k:Bool->AV->AV->AV->AHeap->Prop)=>B3 g (wantV false (some t37)) fun g w=>IG3 g w (fun g=>Ly g E 3 fun g t3_3=>B3 g ((Op.fieldAddr 0) [t3_3]) fun g t39=>B3 g (Op.load1 [t39] H4) fun g t40=>Bn g .gtr t40 (.int .i64 64) fun g t41=>k g t41 t40 t39 H4) (fun g=>k g uu uu uu H4)) (fun g t41_1 t40_1 t39_1 H5=>B3 g (Op.pick [t37,(.bool true),t41_1]) fun g t42=>IF3 g t42 (fun g=>GO3 g (SEQ3 (W M c (qhm 12)) Q) .ret ((5,(.int .i64 2))::(4,.nilp)::E) D H5) (fun g=>Gt g M c (qhm 12) Q E D H5))))))) /\
 (∀ Q E D H,W M c (qhm 12) true Q E D H =
  Lz E 0 fun g t0=>Ly g E 3 fun g t3=>Fl g 0 t3 H fun g t45=>Ly g E 6 fun g t6=>B3 g ((Op.build [(.int .i64 0),(.int .i64 0),.nilp,(.int .i64 0),(.int .i64 0),(.int .i64 0),(.int .u64 0),(.int .u64 0),(.int .u64 0),(.int .u64 0),(.int .u64 0),(.int .u64 0),(.int .u64 0),(.int .u64 0),.nils,(.bool false),(.int .i64 0)] [(0,1),(1,1),(2,1)]) [t0,t45,t6]) fun g t47=>A3 g qha (AV.cells t47) H fun g t48 H1=>GO3 g Q .ret ((5,(.int .i64 0))::(4,t48)::E) D H1):=by (repeat' apply And.intro)<;>(intro _ _ _ _;refine W_unf ?_;kernel_rfl)
theorem q3t:(cProg Try.prog).func qg9=some qqk/\qqk.results=[.tmp 4,.tmp 5]:=za (by kernel_rfl)
theorem q3u (h:W M ⟨none,qg9⟩ (qhm 0) true (FIN3 M [.tmp 4,.tmp 5] Q) [(0,a0),(1,a1)] [] H):yw M qg9 [a0,a1] H Q:=callf (by decide) q3t (ks:=qwg) (by kernel_rfl) h
def qc6:AFunc:=funcAt Try.prog qab
def qc7:Kp:=⟨[0,2,3,4,6,7],false,[0,4,9]⟩
def qd5 (k:Nat):Kp × ACode:=(qc7,part qc6.body k)
def qcj:ALoop:=loopAt qc6 0
def qls (k:Nat):Kp × ACode:=(⟨qc7.keep,qc7.pan,[0]⟩,part qcj.assign k)
def qlt (k:Nat):Kp × ACode:=(⟨qc7.keep,qc7.pan,[0]⟩,part qcj.body k)
theorem qkn:nth qc6.loops 0=some qcj/\qcj.params=[7]:=⟨by kernel_rfl,by kernel_rfl⟩
theorem qm2 (M:Mac) (c:Ctx):(∀ Q E D H,W M c (qd5 0) true Q E D H =
 A3 true T__11 [.nils] H fun g t3 H1=>W M c (qd5 4) g Q ((3,t3)::(2,.nils)::E) D H1) /\
 (∀ Q E D H,W M c (qls 0) true Q E D H =
  A3 true qj [(.int .i64 0),(.int .i64 0),(.bool false),(.bool false),(.int .u64 0),(.int .u64 0),(.int .u64 0),(.int .u64 0),(.int .u64 0),(.int .u64 0),(.int .u64 0),(.int .u64 0),(.int .u64 0),(.int .u64 0),(.int .u64 0),(.int .u64 0),(.int .u64 0),(.int .u64 0),(.int .u64 0),(.int .u64 0),(.int .i64 0)] H fun g t4 H1=>Ly g E 7 fun g t7=>B32 g ((Op.store 21) [t4,t7] H1) fun g u H2=>GO3 g Q .normal ((4,t4)::E) D H2) /\
 (∀ Q E D H,W M c (qlt 0) true Q E D H =
  Lz E 3 fun g t3=>B3 g (Op.load1 [t3] H) fun g t8=>Ly g E 4 fun g t4=>B3 g ((Op.loadN 21) [t4] H) fun g t9=>B32 g ((Op.buildSlice qj 1 [(.int .i64 0),(.int .i64 0),(.bool false),(.bool false),(.int .u64 0),(.int .u64 0),(.int .u64 0),(.int .u64 0),(.int .u64 0),(.int .u64 0),(.int .u64 0),(.int .u64 0),(.int .u64 0),(.int .u64 0),(.int .u64 0),(.int .u64 0),(.int .u64 0),(.int .u64 0),(.int .u64 0),(.int .u64 0),(.int .i64 0)] [(0,21)]) [t9]) fun g o1 k1=>B32 g ((Op.append qj 21 160) [t8,(k1 H.next)] (H.alloc o1)) fun g t11 H2=>B32 g ((Op.store 1) [t3,t11] H2) fun g u H3=>GO3 g (BLK3 1 Q) .normal E D H3) /\
 (∀ Q E D H,W M c (qd5 4) true Q E D H =
  Lz E 0 fun g t0=>C3 M g (.func qai) [t0] H fun g t6 H1=>RNG3 M qc7.keep c 0 ((6,t6)::E) D H1 (BLK3 0 (SEQ3 (W M c (qd5 9)) Q)) t6) /\
 (∀ Q E D H,W M c (qd5 9) true Q E D H =
  Lz E 3 fun g t3=>B3 g (Op.load1 [t3] H) fun g t12=>GO3 g Q .ret ((2,t12)::E) D H):=by (repeat' apply And.intro)<;>(intro _ _ _ _;refine W_unf ?_;kernel_rfl)
theorem qm1:(cProg Try.prog).func qab=some qc6/\qc6.results=[.tmp 2]:=za (by kernel_rfl)
theorem qru:M.func qab=some qc6:=MK.at (by decide) qm1.1
theorem quj (h:W M ⟨none,qab⟩ (qd5 0) true (FIN3 M [.tmp 2] Q) [(0,a0)] [] H):yw M qab [a0] H Q:=callf (by decide) qm1 (ks:=qc7) (by kernel_rfl) h
def qh6:AFunc:=funcAt Try.prog qbh
def qlw:Kp:=⟨[0,2],false,[0]⟩
def qlx (k:Nat):Kp × ACode:=(qlw,part qh6.body k)
theorem qr3 (M:Mac) (c:Ctx):(∀ Q E D H,W M c (qlx 0) true Q E D H =
 Lz E 0 fun g t0=>B3 g ((Op.eq .ptr true) [t0,.nilp] H) fun g t4=>JN (fun (k:Bool->AV->AV->AV->AV->AHeap->Prop)=>B3 g (wantV true (some t4)) fun g w=>IG3 g w (fun g=>B3 g (Op.nilCheck [t0]) fun g t7=>B3 g ((Op.fieldAddr 15) [t7]) fun g t8=>B3 g (Op.load1 [t8] H) fun g t9=>k g t9 t8 t7 t0 H) (fun g=>k g uu uu uu uu H)) (fun g t9_1 t8_1 t7_1 t6_1 H1=>B3 g (Op.pick [t4,t9_1,(.bool false)]) fun g t10=>GO3 g Q .ret ((2,t10)::(2,(.bool false))::E) D H1)):=by intro _ _ _ _;refine W_unf ?_;kernel_rfl
theorem qr1:(cProg Try.prog).func qbh=some qh6/\qh6.results=[.tmp 2]:=za (by kernel_rfl)
theorem qr2 (h:W M ⟨none,qbh⟩ (qlx 0) true (FIN3 M [.tmp 2] Q) [(0,a0)] [] H):yw M qbh [a0] H Q:=callf (by decide) qr1 (ks:=qlw) (by kernel_rfl) h
def qh7:AFunc:=funcAt Try.prog qbi
def qly:Kp:=⟨[0,1,4,5,6,7,8,9,11],false,[0,2,12,14,24,30]⟩
def jt (k:Nat):Kp × ACode:=(qly,part qh7.body k)
theorem qr6 (M:Mac) (c:Ctx):(∀ Q E D H,W M c (jt 0) true Q E D H =
 W M c (jt 2) true Q ((7,(.int .i64 0))::(6,.nils)::(5,(.bool false))::(4,(.int .u64 0))::E) D H) /\
 (∀ Q E D H,W M c (jt 2) true Q E D H =
  Lz E 0 fun g t0=>Ly g E 1 fun g t1=>C3 M g (.func qa3) [t0,t1] H fun g t14 H1=>Cb g .neq t14 (.int .i64 0) (fun g=>GO3 g (SEQ3 (W M c (jt 12)) Q) .ret ((7,t14)::(6,.nils)::(5,(.bool false))::(4,(.int .u64 0))::(8,t14)::E) D H1) (fun g=>Gt g M c (jt 12) Q ((8,t14)::E) D H1)) /\
 (∀ Q E D H,W M c (jt 12) true Q E D H =
  Lz E 1 fun g t1=>Bn g .quo t1 (.int .i64 8) fun g t19=>W M c (jt 14) g Q ((9,t19)::E) D H) /\
 (∀ Q E D H,W M c (jt 14) true Q E D H =
  Lz E 0 fun g t0=>Nf g 2 t0 H fun g t24=>Ly g E 9 fun g t9=>C3 M g (.func qaa) [t24,t9] H fun g t26 H1=>B3 g ((Op.extract 0) [t26]) fun g t27=>B3 g ((Op.extract 1) [t26]) fun g t28=>A3 g qj [(.int .i64 0),(.int .i64 0),(.bool false),(.bool false),(.int .u64 0),(.int .u64 0),(.int .u64 0),(.int .u64 0),(.int .u64 0),(.int .u64 0),(.int .u64 0),(.int .u64 0),(.int .u64 0),(.int .u64 0),(.int .u64 0),(.int .u64 0),(.int .u64 0),(.int .u64 0),(.int .u64 0),(.int .u64 0),(.int .i64 0)] H1 fun g t10 H2=>B32 g ((Op.store 21) [t10,t27] H2) fun g u H3=>B3 g ((Op.un .not) [t28]) fun g t30=>IF3 g t30 (fun g=>Ly g E 0 fun g t0_1=>Ly g E 9 fun g t9_1=>C3 M g (.func qa2) [t0_1,(.int .i64 1),t9_1] H3 fun g t33 H4=>GO3 g (SEQ3 (W M c (jt 24)) Q) .ret ((7,(.int .i64 0))::(6,t33)::(5,(.bool false))::(4,(.int .u64 0))::(11,t28)::E) D H4) (fun g=>Gt g M c (jt 24) Q ((11,t28)::E) D H3)) /\
 (∀ Q E D H,W M c (jt 24) true Q E D H =
  Lz E 0 fun g t0=>Nf g 15 t0 H fun g t37=>IF3 g t37 (fun g=>Ly g E 0 fun g t0_1=>Nf g 2 t0_1 H fun g t41=>Ly g E 9 fun g t9=>C3 M g (.func qb6) [t41,t9,(.bool false)] H fun g t43 H1=>Gt g M c (jt 30) Q E D H1) (fun g=>Gt g M c (jt 30) Q E D H)) /\
 (∀ Q E D H,W M c (jt 30) true Q E D H =
  Lz E 0 fun g t0=>Nf g 2 t0 H fun g t48=>Ly g E 1 fun g t1=>C3 M g (.func qb7) [t48,t1] H fun g t50 H1=>B3 g ((Op.extract 0) [t50]) fun g t51=>B3 g ((Op.extract 1) [t50]) fun g t52=>GO3 g Q .ret ((7,(.int .i64 0))::(6,.nils)::(5,(.bool true))::(4,t51)::(4,t51)::E) D H1):=by (repeat' apply And.intro)<;>(intro _ _ _ _;refine W_unf ?_;kernel_rfl)
theorem qr4:(cProg Try.prog).func qbi=some qh7/\qh7.results=[.tmp 4,.tmp 5,.tmp 6,.tmp 7]:=za (by kernel_rfl)
theorem qr5 (h:W M ⟨none,qbi⟩ (jt 0) true (FIN3 M [.tmp 4,.tmp 5,.tmp 6,.tmp 7] Q) [(0,a0),(1,a1)] [] H):yw M qbi [a0,a1] H Q:=callf (by decide) qr4 (ks:=qly) (by kernel_rfl) h
def qhp:AFunc:=funcAt Try.prog qar
def qkp:Kp:=⟨[0,1,2,6,7,8,9,10],false,[0,2,12,14,22,28]⟩
def jl (k:Nat):Kp × ACode:=(qkp,part qhp.body k)
theorem qqt (M:Mac) (c:Ctx):(∀ Q E D H,W M c (jl 0) true Q E D H =
 W M c (jl 2) true Q ((8,(.int .i64 0))::(7,.nils)::(6,(.bool false))::E) D H) /\
 (∀ Q E D H,W M c (jl 2) true Q E D H =
  Lz E 0 fun g t0=>Ly g E 1 fun g t1=>C3 M g (.func qa3) [t0,t1] H fun g t13 H1=>Cb g .neq t13 (.int .i64 0) (fun g=>GO3 g (SEQ3 (W M c (jl 12)) Q) .ret ((8,t13)::(7,.nils)::(6,(.bool false))::(9,t13)::E) D H1) (fun g=>Gt g M c (jl 12) Q ((9,t13)::E) D H1)) /\
 (∀ Q E D H,W M c (jl 12) true Q E D H =
  Lz E 1 fun g t1=>Bn g .quo t1 (.int .i64 8) fun g t18=>W M c (jl 14) g Q ((10,t18)::E) D H) /\
 (∀ Q E D H,W M c (jl 14) true Q E D H =
  Lz E 0 fun g t0=>Ly g E 10 fun g t10=>C3 M g (.func qbx) [t0,t10] H fun g t21 H1=>B3 g ((Op.un .not) [t21]) fun g t22=>IF3 g t22 (fun g=>Ly g E 0 fun g t0_1=>Ly g E 10 fun g t10_1=>C3 M g (.func qa2) [t0_1,(.int .i64 2),t10_1] H1 fun g t25 H2=>GO3 g (SEQ3 (W M c (jl 22)) Q) .ret ((8,(.int .i64 0))::(7,t25)::(6,(.bool false))::E) D H2) (fun g=>Gt g M c (jl 22) Q E D H1)) /\
 (∀ Q E D H,W M c (jl 22) true Q E D H =
  Lz E 0 fun g t0=>Nf g 15 t0 H fun g t29=>IF3 g t29 (fun g=>Ly g E 0 fun g t0_1=>Nf g 2 t0_1 H fun g t33=>Ly g E 10 fun g t10=>C3 M g (.func qb6) [t33,t10,(.bool true)] H fun g t35 H1=>Gt g M c (jl 28) Q E D H1) (fun g=>Gt g M c (jl 28) Q E D H)) /\
 (∀ Q E D H,W M c (jl 28) true Q E D H =
  Lz E 0 fun g t0=>Nf g 2 t0 H fun g t39=>Ly g E 1 fun g t1=>Ly g E 2 fun g t2=>C3 M g (.func qcs) [t39,t1,t2] H fun g t42 H1=>GO3 g Q .ret ((8,(.int .i64 0))::(7,.nils)::(6,(.bool true))::E) D H1):=by (repeat' apply And.intro)<;>(intro _ _ _ _;refine W_unf ?_;kernel_rfl)
theorem qqr:(cProg Try.prog).func qar=some qhp/\qhp.results=[.tmp 6,.tmp 7,.tmp 8]:=za (by kernel_rfl)
theorem qqs (h:W M ⟨none,qar⟩ (jl 0) true (FIN3 M [.tmp 6,.tmp 7,.tmp 8] Q) [(0,a0),(1,a1),(2,a2)] [] H):yw M qar [a0,a1,a2] H Q:=callf (by decide) qqr (ks:=qkp) (by kernel_rfl) h
def qi2:AFunc:=funcAt Try.prog qc0
def qm3:Kp:=⟨[0,1,2,3,8,9,10,11,12,13,14],false,[0,2,12,20,22,30,32,38]⟩
def jf (k:Nat):Kp × ACode:=(qm3,part qi2.body k)
theorem qum (M:Mac) (c:Ctx):(∀ Q E D H,W M c (jf 0) true Q E D H =
 W M c (jf 2) true Q ((11,(.int .i64 0))::(10,.nils)::(9,(.bool false))::(8,(.bool false))::E) D H) /\
 (∀ Q E D H,W M c (jf 2) true Q E D H =
  Lz E 0 fun g t0=>Ly g E 1 fun g t1=>C3 M g (.func qa3) [t0,t1] H fun g t18 H1=>Cb g .neq t18 (.int .i64 0) (fun g=>GO3 g (SEQ3 (W M c (jf 12)) Q) .ret ((11,t18)::(10,.nils)::(9,(.bool false))::(8,(.bool false))::(12,t18)::E) D H1) (fun g=>Gt g M c (jf 12) Q ((12,t18)::E) D H1)) /\
 (∀ Q E D H,W M c (jf 12) true Q E D H =
  Lz E 0 fun g t0=>Nf g 15 t0 H fun g t25=>IF3 g t25 (fun g=>GO3 g (SEQ3 (W M c (jf 20)) Q) .ret ((11,(.int .i64 41))::(10,.nils)::(9,(.bool false))::(8,(.bool false))::E) D H) (fun g=>Gt g M c (jf 20) Q E D H)) /\
 (∀ Q E D H,W M c (jf 20) true Q E D H =
  Lz E 1 fun g t1=>Bn g .quo t1 (.int .i64 8) fun g t27=>W M c (jf 22) g Q ((13,t27)::E) D H) /\
 (∀ Q E D H,W M c (jf 22) true Q E D H =
  Lz E 0 fun g t0=>Ly g E 13 fun g t13=>C3 M g (.func qbx) [t0,t13] H fun g t30 H1=>B3 g ((Op.un .not) [t30]) fun g t31=>IF3 g t31 (fun g=>Ly g E 0 fun g t0_1=>Ly g E 13 fun g t13_1=>C3 M g (.func qa2) [t0_1,(.int .i64 2),t13_1] H1 fun g t34 H2=>GO3 g (SEQ3 (W M c (jf 30)) Q) .ret ((11,(.int .i64 0))::(10,t34)::(9,(.bool false))::(8,(.bool false))::E) D H2) (fun g=>Gt g M c (jf 30) Q E D H1)) /\
 (∀ Q E D H,W M c (jf 30) true Q E D H =
  Lz E 0 fun g t0=>Nf g 2 t0 H fun g t39=>Ly g E 1 fun g t1=>C3 M g (.func qb7) [t39,t1] H fun g t41 H1=>B3 g ((Op.extract 0) [t41]) fun g t42=>B3 g ((Op.extract 1) [t41]) fun g t43=>W M c (jf 32) g Q ((14,t42)::E) D H1) /\
 (∀ Q E D H,W M c (jf 32) true Q E D H =
  Lz E 14 fun g t14=>Ly g E 2 fun g t2=>Cb g .eql t14 t2 (fun g=>Ly g E 0 fun g t0=>Nf g 2 t0 H fun g t50=>Ly g E 1 fun g t1=>Ly g E 3 fun g t3=>C3 M g (.func qcs) [t50,t1,t3] H fun g t53 H1=>Gt g M c (jf 38) Q E D H1) (fun g=>Gt g M c (jf 38) Q E D H)) /\
 (∀ Q E D H,W M c (jf 38) true Q E D H =
  Lz E 14 fun g t14=>Ly g E 2 fun g t2=>Bn g .eql t14 t2 fun g t56=>GO3 g Q .ret ((11,(.int .i64 0))::(10,.nils)::(9,(.bool true))::(8,t56)::E) D H):=by (repeat' apply And.intro)<;>(intro _ _ _ _;refine W_unf ?_;kernel_rfl)
theorem quk:(cProg Try.prog).func qc0=some qi2/\qi2.results=[.tmp 8,.tmp 9,.tmp 10,.tmp 11]:=za (by kernel_rfl)
theorem qul (h:W M ⟨none,qc0⟩ (jf 0) true (FIN3 M [.tmp 8,.tmp 9,.tmp 10,.tmp 11] Q) [(0,a0),(1,a1),(2,a2),(3,a3)] [] H):yw M qc0 [a0,a1,a2,a3] H Q:=callf (by decide) quk (ks:=qm3) (by kernel_rfl) h
def qho:AFunc:=funcAt Try.prog qbw
def qko:Kp:=⟨[0,2],false,[0,2,17]⟩
def qas (k:Nat):Kp × ACode:=(qko,part qho.body k)
theorem qqq (M:Mac) (c:Ctx):(∀ Q E D H,W M c (qas 0) true Q E D H =
 W M c (qas 2) true Q ((2,(.int .i64 0))::E) D H) /\
 (∀ Q E D H,W M c (qas 2) true Q E D H =
  Lz E 0 fun g t0=>B3 g ((Op.eq .ptr false) [t0,.nilp] H) fun g t5=>IF3 g t5 (fun g=>GO3 g (BLK3 0 (SEQ3 (W M c (qas 17)) Q)) .ret ((2,(.int .i64 1))::E) D H) (fun g=>Ly g E 0 fun g t0_1=>Nf g 15 t0_1 H fun g t10=>IF3 g t10 (fun g=>GO3 g (BLK3 0 (SEQ3 (W M c (qas 17)) Q)) .ret ((2,(.int .i64 41))::E) D H) (fun g=>GO3 g (BLK3 0 (SEQ3 (W M c (qas 17)) Q)) .normal E D H))) /\
 (∀ Q E D H,W M c (qas 17) true Q E D H =
  Lz E 0 fun g t0=>Ns g 15 t0 (.bool true) H fun g u H1=>Ns g 16 t0 (.int .i64 0) H1 fun g u_1 H2=>GO3 g Q .ret ((2,(.int .i64 0))::E) D H2):=by (repeat' apply And.intro)<;>(intro _ _ _ _;refine W_unf ?_;kernel_rfl)
theorem qqo:(cProg Try.prog).func qbw=some qho/\qho.results=[.tmp 2]:=za (by kernel_rfl)
theorem qqp (h:W M ⟨none,qbw⟩ (qas 0) true (FIN3 M [.tmp 2] Q) [(0,a0)] [] H):yw M qbw [a0] H Q:=callf (by decide) qqo (ks:=qko) (by kernel_rfl) h
def qgn:AFunc:=funcAt Try.prog qa0
def qjm:Kp:=⟨[0,2],false,[0,2,17]⟩
def wq (k:Nat):Kp × ACode:=(qjm,part qgn.body k)
theorem qpg (M:Mac) (c:Ctx):(∀ Q E D H,W M c (wq 0) true Q E D H =
 W M c (wq 2) true Q ((2,(.int .i64 0))::E) D H) /\
 (∀ Q E D H,W M c (wq 2) true Q E D H =
  Lz E 0 fun g t0=>B3 g ((Op.eq .ptr false) [t0,.nilp] H) fun g t5=>IF3 g t5 (fun g=>GO3 g (BLK3 0 (SEQ3 (W M c (wq 17)) Q)) .ret ((2,(.int .i64 1))::E) D H) (fun g=>Ly g E 0 fun g t0_1=>Nf g 15 t0_1 H fun g t10=>B3 g ((Op.un .not) [t10]) fun g t11=>IF3 g t11 (fun g=>GO3 g (BLK3 0 (SEQ3 (W M c (wq 17)) Q)) .ret ((2,(.int .i64 40))::E) D H) (fun g=>GO3 g (BLK3 0 (SEQ3 (W M c (wq 17)) Q)) .normal E D H))) /\
 (∀ Q E D H,W M c (wq 17) true Q E D H =
  Lz E 0 fun g t0=>Nf g 2 t0 H fun g t15=>C3 M g (.func yp) [t15] H fun g t16 H1=>Ly g E 0 fun g t0_1=>Ns g 15 t0_1 (.bool false) H1 fun g u H2=>GO3 g Q .ret ((2,(.int .i64 0))::E) D H2):=by (repeat' apply And.intro)<;>(intro _ _ _ _;refine W_unf ?_;kernel_rfl)
theorem qpe:(cProg Try.prog).func qa0=some qgn/\qgn.results=[.tmp 2]:=za (by kernel_rfl)
theorem qpf (h:W M ⟨none,qa0⟩ (wq 0) true (FIN3 M [.tmp 2] Q) [(0,a0)] [] H):yw M qa0 [a0] H Q:=callf (by decide) qpe (ks:=qjm) (by kernel_rfl) h
def qhn:AFunc:=funcAt Try.prog qbv
def qkm:Kp:=⟨[0,1,4],false,[0,2,16,23]⟩
def yt (k:Nat):Kp × ACode:=(qkm,part qhn.body k)
theorem qqn (M:Mac) (c:Ctx):(∀ Q E D H,W M c (yt 0) true Q E D H =
 W M c (yt 2) true Q ((4,(.int .i64 0))::E) D H) /\
 (∀ Q E D H,W M c (yt 2) true Q E D H =
  Lz E 0 fun g t0=>B3 g ((Op.eq .ptr false) [t0,.nilp] H) fun g t7=>IF3 g t7 (fun g=>GO3 g (BLK3 0 (SEQ3 (W M c (yt 23)) Q)) .ret ((4,(.int .i64 1))::E) D H) (fun g=>Ly g E 0 fun g t0_1=>Nf g 15 t0_1 H fun g t12=>B3 g ((Op.un .not) [t12]) fun g t13=>IF3 g t13 (fun g=>GO3 g (BLK3 0 (SEQ3 (W M c (yt 23)) Q)) .ret ((4,(.int .i64 40))::E) D H) (fun g=>W M c (yt 16) g (BLK3 0 (SEQ3 (W M c (yt 23)) Q)) E D H))) /\
 (∀ Q E D H,W M c (yt 23) true Q E D H =
  Lz E 0 fun g t0=>Ly g E 1 fun g t1=>C3 M g (.func yq) [t0,t1] H fun g t23 H1=>GO3 g Q .ret ((4,(.int .i64 0))::E) D H1) /\
 (∀ Q E D H,W M c (yt 16) true Q E D H =
  Lz E 1 fun g t1=>Bn g .lss t1 (.int .i64 1) fun g t16=>JN (fun (k:Bool->AV->AV->AHeap->Prop)=>B3 g (wantV false (some t16)) fun g w=>IG3 g w (fun g=>Bn g .gtr t1 (.int .i64 7) fun g t19=>k g t19 t1 H) (fun g=>k g uu uu H)) (fun g t19_1 t18_1 H1=>B3 g (Op.pick [t16,(.bool true),t19_1]) fun g t20=>IF3 g t20 (fun g=>GO3 g Q .ret ((4,(.int .i64 2))::E) D H1) (fun g=>GO3 g Q .normal E D H1))):=by (repeat' apply And.intro)<;>(intro _ _ _ _;refine W_unf ?_;kernel_rfl)
theorem qql:(cProg Try.prog).func qbv=some qhn/\qhn.results=[.tmp 4]:=za (by kernel_rfl)
theorem qqm (h:W M ⟨none,qbv⟩ (yt 0) true (FIN3 M [.tmp 4] Q) [(0,a0),(1,a1)] [] H):yw M qbv [a0,a1] H Q:=callf (by decide) qql (ks:=qkm) (by kernel_rfl) h
def qh5:AFunc:=funcAt Try.prog km
def qlv:Kp:=⟨[0,1,3,4,5,6,7,8,9,51,69],false,[0,2,10,12,20,34,40,41,49,53,61,73,75,85]⟩
def xd (k:Nat):Kp × ACode:=(qlv,part qh5.body k)
theorem qr0 (M:Mac) (c:Ctx):(∀ Q E D H,W M c (xd 0) true Q E D H =
 Lz E 1 fun g t1=>A3 g xm (AV.cells t1) H fun g t3 H1=>W M c (xd 2) g Q ((5,(.int .i64 0))::(4,.nils)::(3,t3)::E) D H1) /\
 (∀ Q E D H,W M c (xd 2) true Q E D H =
  Lz E 0 fun g t0=>B3 g ((Op.eq .ptr false) [t0,.nilp] H) fun g t11=>IF3 g t11 (fun g=>GO3 g (SEQ3 (W M c (xd 10)) Q) .ret ((5,(.int .i64 1))::(4,.nils)::E) D H) (fun g=>Gt g M c (xd 10) Q E D H)) /\
 (∀ Q E D H,W M c (xd 10) true Q E D H =
  Lz E 0 fun g t0=>Nf g 2 t0 H fun g t16=>Ly g E 3 fun g t3=>Fl g 2 t3 H fun g t18=>C3 M g (.func qaa) [t16,t18] H fun g t19 H1=>B3 g ((Op.extract 0) [t19]) fun g t20=>B3 g ((Op.extract 1) [t19]) fun g t21=>A3 g qj [(.int .i64 0),(.int .i64 0),(.bool false),(.bool false),(.int .u64 0),(.int .u64 0),(.int .u64 0),(.int .u64 0),(.int .u64 0),(.int .u64 0),(.int .u64 0),(.int .u64 0),(.int .u64 0),(.int .u64 0),(.int .u64 0),(.int .u64 0),(.int .u64 0),(.int .u64 0),(.int .u64 0),(.int .u64 0),(.int .i64 0)] H1 fun g t6 H2=>B32 g ((Op.store 21) [t6,t20] H2) fun g u H3=>W M c (xd 12) g Q ((7,t21)::(6,t6)::E) D H3) /\
 (∀ Q E D H,W M c (xd 12) true Q E D H =
  Lz E 3 fun g t3=>Fl g 1 t3 H fun g t23=>Ly g E 0 fun g t0=>Nf g 0 t0 H fun g t27=>Bn g .neq t23 t27 fun g t28=>JN (fun (k:Bool->AV->AV->AV->AHeap->Prop)=>B3 g (wantV false (some t28)) fun g w=>IG3 g w (fun g=>B3 g ((Op.fieldAddr 2) [t3]) fun g t30=>B3 g (Op.load1 [t30] H) fun g t31=>Bn g .lss t31 (.int .i64 0) fun g t32=>k g t32 t31 t30 H) (fun g=>k g uu uu uu H)) (fun g t32_1 t31_1 t30_1 H1=>B3 g (Op.pick [t28,(.bool true),t32_1]) fun g t33=>JN (fun (k:Bool->AV->AV->AV->AV->AV->AV->AV->AHeap->Prop)=>B3 g (wantV false (some t33)) fun g w=>IG3 g w (fun g=>B3 g ((Op.fieldAddr 2) [t3]) fun g t35=>B3 g (Op.load1 [t35] H1) fun g t36=>B3 g (Op.nilCheck [t0]) fun g t38=>B3 g ((Op.fieldAddr 1) [t38]) fun g t39=>B3 g (Op.load1 [t39] H1) fun g t40=>Bn g .geq t36 t40 fun g t41=>k g t41 t40 t39 t38 t0 t36 t35 H1) (fun g=>k g uu uu uu uu uu uu uu H1)) (fun g t41_1 t40_1 t39_1 t38_1 t37_1 t36_1 t35_1 H2=>B3 g (Op.pick [t33,(.bool true),t41_1]) fun g t42=>JN (fun (k:Bool->AV->AV->AV->AV->AV->AHeap->Prop)=>B3 g (wantV false (some t42)) fun g w=>IG3 g w (fun g=>B3 g ((Op.loadN 11) [t3] H2) fun g t45=>Ly g E 6 fun g t6=>B3 g ((Op.loadN 21) [t6] H2) fun g t46=>C3 M g (.func qaj) [t0,t45,t46] H2 fun g t47 H3=>B3 g ((Op.un .not) [t47]) fun g t48=>k g t48 t47 t46 t45 t0 H3) (fun g=>k g uu uu uu uu uu H2)) (fun g t48_1 t47_1 t46_1 t45_1 t44_1 H4=>B3 g (Op.pick [t42,(.bool true),t48_1]) fun g t49=>IF3 g t49 (fun g=>GO3 g (SEQ3 (W M c (xd 20)) Q) .ret ((5,(.int .i64 30))::(4,.nils)::E) D H4) (fun g=>Gt g M c (xd 20) Q E D H4))))) /\
 (∀ Q E D H,W M c (xd 20) true Q E D H =
  Lz E 3 fun g t3=>Fl g 0 t3 H fun g t51=>Cb g .eql t51 (.int .i64 11) (fun g=>Ly g E 0 fun g t0=>Ly g E 6 fun g t6=>B3 g ((Op.loadN 21) [t6] H) fun g t55=>C3 M g (.func qch) [t0,t55,(.bool true)] H fun g t56 H1=>Ly g E 0 fun g t0_1=>Nf g 2 t0_1 H1 fun g t60=>Ly g E 3 fun g t3_1=>Fl g 2 t3_1 H1 fun g t62=>C3 M g (.func qaw) [t60,t62] H1 fun g t63 H2=>Ly g E 0 fun g t0_2=>Ly g E 3 fun g t3_2=>Fl g 2 t3_2 H2 fun g t66=>C3 M g (.func kv) [t0_2,(.int .i64 4),t66] H2 fun g t67 H3=>B32 g ((Op.buildSlice xm 1 [(.int .i64 0),(.int .i64 0),(.int .i64 0),(.int .u64 0),(.int .u64 0),(.int .u64 0),(.int .u64 0),(.int .u64 0),(.int .u64 0),(.int .u64 0),(.int .u64 0)] [(0,11)]) [t67]) fun g o4 k4=>GO3 g (BLK3 0 (SEQ3 (W M c (xd 73)) Q)) .ret ((5,(.int .i64 0))::(4,(k4 H3.next))::(51,t51)::E) D (H3.alloc o4)) (fun g=>W M c (xd 34) g (BLK3 0 (SEQ3 (W M c (xd 73)) Q)) ((51,t51)::E) D H)) /\
 (∀ Q E D H,W M c (xd 73) true Q E D H =
  Lz E 0 fun g t0=>B3 g ((Op.build [(.int .i64 0),(.int .i64 0),(.int .i64 0),(.int .u64 0),(.int .u64 0),(.int .u64 0),(.int .u64 0),(.int .u64 0),(.int .u64 0),(.int .u64 0),(.int .u64 0)] []) []) fun g t130=>B3 g (Op.nilCheck [t0]) fun g t131=>B3 g ((Op.fieldAddr 3) [t131]) fun g t132=>B32 g ((Op.store 11) [t132,t130] H) fun g u H1=>W M c (xd 75) g Q E D H1) /\
 (∀ Q E D H,W M c (xd 34) true Q E D H =
  Lz E 51 fun g t51=>Bn g .eql t51 (.int .i64 12) fun g t70=>IF3 g t70 (fun g=>Gt g M c (xd 40) Q ((69,t70)::E) D H) (fun g=>Ly g E 51 fun g t51_1=>Bn g .eql t51_1 (.int .i64 13) fun g t71=>Gt g M c (xd 40) Q ((69,t71)::(69,t70)::E) D H)) /\
 (∀ Q E D H,W M c (xd 75) true Q E D H =
  Lz E 7 fun g t7=>IF3 g t7 (fun g=>Ly g E 0 fun g t0=>Nf g 2 t0 H fun g t137=>Ly g E 3 fun g t3=>Fl g 2 t3 H fun g t139=>B3 g ((Op.fieldAddr 3) [t3]) fun g t140=>B3 g ((Op.loadN 8) [t140] H) fun g t141=>C3 M g (.func qax) [t137,t139,t141] H fun g t142 H1=>Ly g E 0 fun g t0_1=>Ly g E 3 fun g t3_1=>Fl g 2 t3_1 H1 fun g t145=>C3 M g (.func kv) [t0_1,(.int .i64 7),t145] H1 fun g t146 H2=>B32 g ((Op.buildSlice xm 1 [(.int .i64 0),(.int .i64 0),(.int .i64 0),(.int .u64 0),(.int .u64 0),(.int .u64 0),(.int .u64 0),(.int .u64 0),(.int .u64 0),(.int .u64 0),(.int .u64 0)] [(0,11)]) [t146]) fun g o3 k3=>GO3 g (SEQ3 (W M c (xd 85)) Q) .ret ((5,(.int .i64 0))::(4,(k3 H2.next))::E) D (H2.alloc o3)) (fun g=>Gt g M c (xd 85) Q E D H)) /\
 (∀ Q E D H,W M c (xd 40) true Q E D H =
  Lz E 69 fun g t69=>IF3 g t69 (fun g=>W M c (xd 41) g Q E D H) (fun g=>Ly g E 51 fun g t51=>Cb g .eql t51 (.int .i64 16) (fun g=>Ly g E 0 fun g t0=>Nf g 14 t0 H fun g t124=>Ly g E 3 fun g t3=>B3 g ((Op.mkFunc qa1 0) [t3]) fun g t125=>C3 M g (.func yl) [t124,t125] H fun g t126 H1=>Ns g 14 t0 t126 H1 fun g u H2=>GO3 g Q .ret ((5,(.int .i64 0))::(4,.nils)::E) D H2) (fun g=>GO3 g Q .normal E D H))) /\
 (∀ Q E D H,W M c (xd 85) true Q E D H =
  Lz E 0 fun g t0=>Ly g E 3 fun g t3=>B3 g ((Op.loadN 11) [t3] H) fun g t149=>C3 M g (.func qaf) [t0,t149] H fun g t150 H1=>Ly g E 0 fun g t0_1=>Ly g E 3 fun g t3_1=>Fl g 2 t3_1 H1 fun g t154=>C3 M g (.func kv) [t0_1,(.int .i64 7),t154] H1 fun g t155 H2=>B32 g ((Op.buildSlice xm 1 [(.int .i64 0),(.int .i64 0),(.int .i64 0),(.int .u64 0),(.int .u64 0),(.int .u64 0),(.int .u64 0),(.int .u64 0),(.int .u64 0),(.int .u64 0),(.int .u64 0)] [(0,11)]) [t155]) fun g o3 k3=>B32 g ((Op.append xm 11 88) [t150,(k3 H2.next)] (H2.alloc o3)) fun g t157 H4=>GO3 g Q .ret ((5,(.int .i64 0))::(4,t157)::(9,t150)::E) D H4) /\
 (∀ Q E D H,W M c (xd 41) true Q E D H =
  Lz E 7 fun g t7=>B3 g ((Op.un .not) [t7]) fun g t73=>IF3 g t73 (fun g=>Ly g E 0 fun g t0=>Ly g E 3 fun g t3=>Fl g 2 t3 H fun g t76=>C3 M g (.func kv) [t0,(.int .i64 6),t76] H fun g t77 H1=>B32 g ((Op.buildSlice xm 1 [(.int .i64 0),(.int .i64 0),(.int .i64 0),(.int .u64 0),(.int .u64 0),(.int .u64 0),(.int .u64 0),(.int .u64 0),(.int .u64 0),(.int .u64 0),(.int .u64 0)] [(0,11)]) [t77]) fun g o2 k2=>GO3 g (SEQ3 (W M c (xd 49)) Q) .ret ((5,(.int .i64 0))::(4,(k2 H1.next))::E) D (H1.alloc o2)) (fun g=>Gt g M c (xd 49) Q E D H)) /\
 (∀ Q E D H,W M c (xd 49) true Q E D H =
  Lz E 0 fun g t0=>Ly g E 6 fun g t6=>B3 g ((Op.loadN 21) [t6] H) fun g t80=>Ly g E 3 fun g t3=>Fl g 0 t3 H fun g t82=>Bn g .eql t82 (.int .i64 13) fun g t83=>C3 M g (.func qch) [t0,t80,t83] H fun g t84 H1=>Ly g E 0 fun g t0_1=>Ly g E 3 fun g t3_1=>Fl g 2 t3_1 H1 fun g t87=>C3 M g (.func kv) [t0_1,(.int .i64 5),t87] H1 fun g t88 H2=>A3 g xm [(.int .i64 0),(.int .i64 0),(.int .i64 0),(.int .u64 0),(.int .u64 0),(.int .u64 0),(.int .u64 0),(.int .u64 0),(.int .u64 0),(.int .u64 0),(.int .u64 0)] H2 fun g t8 H3=>B32 g ((Op.store 11) [t8,t88] H3) fun g u H4=>W M c (xd 53) g Q ((8,t8)::E) D H4) /\
 (∀ Q E D H,W M c (xd 53) true Q E D H =
  Lz E 3 fun g t3=>Fl g 0 t3 H fun g t90=>Cb g .eql t90 (.int .i64 12) (fun g=>Ly g E 0 fun g t0=>Nf g 2 t0 H fun g t96=>Ly g E 3 fun g t3_1=>Fl g 2 t3_1 H fun g t98=>C3 M g (.func qbt) [t96,t98] H fun g t99 H1=>B3 g ((Op.extract 0) [t99]) fun g t100=>B3 g ((Op.extract 1) [t99]) fun g t101=>Ly g E 8 fun g t8=>B3 g ((Op.fieldAddr 3) [t8]) fun g t102=>B32 g ((Op.store 8) [t102,t100] H1) fun g u H2=>Gt g M c (xd 61) Q E D H2) (fun g=>Ly g E 0 fun g t0=>Nf g 2 t0 H fun g t107=>Ly g E 3 fun g t3_1=>Fl g 2 t3_1 H fun g t109=>C3 M g (.func qaw) [t107,t109] H fun g t110 H1=>B3 g ((Op.extract 0) [t110]) fun g t111=>B3 g ((Op.extract 1) [t110]) fun g t112=>Ly g E 6 fun g t6=>B32 g ((Op.store 21) [t6,t111] H1) fun g u H2=>Ly g E 6 fun g t6_1=>B3 g ((Op.fieldAddr 4) [t6_1]) fun g t113=>B3 g ((Op.loadN 8) [t113] H2) fun g t114=>Ly g E 8 fun g t8=>B3 g ((Op.fieldAddr 3) [t8]) fun g t115=>B32 g ((Op.store 8) [t115,t114] H2) fun g u_1 H3=>Gt g M c (xd 61) Q E D H3)) /\
 (∀ Q E D H,W M c (xd 61) true Q E D H =
  Lz E 8 fun g t8=>B3 g ((Op.loadN 11) [t8] H) fun g t116=>B32 g ((Op.buildSlice xm 1 [(.int .i64 0),(.int .i64 0),(.int .i64 0),(.int .u64 0),(.int .u64 0),(.int .u64 0),(.int .u64 0),(.int .u64 0),(.int .u64 0),(.int .u64 0),(.int .u64 0)] [(0,11)]) [t116]) fun g o1 k1=>GO3 g Q .ret ((5,(.int .i64 0))::(4,(k1 H.next))::E) D (H.alloc o1)):=by (repeat' apply And.intro)<;>(intro _ _ _ _;refine W_unf ?_;kernel_rfl)
theorem qry:(cProg Try.prog).func km=some qh5/\qh5.results=[.tmp 4,.tmp 5]:=za (by kernel_rfl)
theorem qrz (h:W M ⟨none,km⟩ (xd 0) true (FIN3 M [.tmp 4,.tmp 5] Q) [(0,a0),(1,a1)] [] H):yw M km [a0,a1] H Q:=callf (by decide) qry (ks:=qlv) (by kernel_rfl) h
def qh4:AFunc:=funcAt Try.prog qbg
def qlu:Kp:=⟨[0,1,4,5,6,7],false,[0,2,17,19,27,33]⟩
def jn (k:Nat):Kp × ACode:=(qlu,part qh4.body k)
theorem qrx (M:Mac) (c:Ctx):(∀ Q E D H,W M c (jn 0) true Q E D H =
 W M c (jn 2) true Q ((5,(.int .i64 0))::(4,.nils)::E) D H) /\
 (∀ Q E D H,W M c (jn 2) true Q E D H =
  Lz E 0 fun g t0=>B3 g ((Op.eq .ptr false) [t0,.nilp] H) fun g t10=>IF3 g t10 (fun g=>GO3 g (BLK3 0 (SEQ3 (W M c (jn 17)) Q)) .ret ((5,(.int .i64 1))::(4,.nils)::E) D H) (fun g=>Ly g E 1 fun g t1=>Bn g .lss t1 (.int .i64 0) fun g t13=>JN (fun (k:Bool->AV->AV->AV->AV->AV->AV->AHeap->Prop)=>B3 g (wantV false (some t13)) fun g w=>IG3 g w (fun g=>Ly g E 0 fun g t0_1=>B3 g (Op.nilCheck [t0_1]) fun g t17=>B3 g ((Op.fieldAddr 1) [t17]) fun g t18=>B3 g (Op.load1 [t18] H) fun g t19=>Bn g .geq t1 t19 fun g t20=>k g t20 t19 t18 t17 t0_1 t1 H) (fun g=>k g uu uu uu uu uu uu H)) (fun g t20_1 t19_1 t18_1 t17_1 t16_1 t15_1 H1=>B3 g (Op.pick [t13,(.bool true),t20_1]) fun g t21=>IF3 g t21 (fun g=>GO3 g (BLK3 0 (SEQ3 (W M c (jn 17)) Q)) .ret ((5,(.int .i64 2))::(4,.nils)::E) D H1) (fun g=>GO3 g (BLK3 0 (SEQ3 (W M c (jn 17)) Q)) .normal E D H1)))) /\
 (∀ Q E D H,W M c (jn 17) true Q E D H =
  Lz E 0 fun g t0=>Nf g 2 t0 H fun g t26=>Ly g E 1 fun g t1=>C3 M g (.func qaa) [t26,t1] H fun g t28 H1=>B3 g ((Op.extract 0) [t28]) fun g t29=>B3 g ((Op.extract 1) [t28]) fun g t30=>A3 g qj [(.int .i64 0),(.int .i64 0),(.bool false),(.bool false),(.int .u64 0),(.int .u64 0),(.int .u64 0),(.int .u64 0),(.int .u64 0),(.int .u64 0),(.int .u64 0),(.int .u64 0),(.int .u64 0),(.int .u64 0),(.int .u64 0),(.int .u64 0),(.int .u64 0),(.int .u64 0),(.int .u64 0),(.int .u64 0),(.int .i64 0)] H1 fun g t6 H2=>B32 g ((Op.store 21) [t6,t29] H2) fun g u H3=>W M c (jn 19) g Q ((7,t30)::(6,t6)::E) D H3) /\
 (∀ Q E D H,W M c (jn 19) true Q E D H =
  Lz E 7 fun g t7=>B3 g ((Op.un .not) [t7]) fun g t32=>IF3 g t32 (fun g=>GO3 g (SEQ3 (W M c (jn 27)) Q) .ret ((5,(.int .i64 20))::(4,.nils)::E) D H) (fun g=>Gt g M c (jn 27) Q E D H)) /\
 (∀ Q E D H,W M c (jn 27) true Q E D H =
  Lz E 6 fun g t6=>Fl g 2 t6 H fun g t34=>JN (fun (k:Bool->AV->AV->AHeap->Prop)=>B3 g (wantV false (some t34)) fun g w=>IG3 g w (fun g=>B3 g ((Op.fieldAddr 3) [t6]) fun g t36=>B3 g (Op.load1 [t36] H) fun g t37=>k g t37 t36 H) (fun g=>k g uu uu H)) (fun g t37_1 t36_1 H1=>B3 g (Op.pick [t34,(.bool true),t37_1]) fun g t38=>IF3 g t38 (fun g=>Ly g E 0 fun g t0=>C3 M g (.func yq) [t0,(.int .i64 4)] H1 fun g t40 H2=>Gt g M c (jn 33) Q E D H2) (fun g=>Gt g M c (jn 33) Q E D H1))) /\
 (∀ Q E D H,W M c (jn 33) true Q E D H =
  Lz E 0 fun g t0=>Nf g 2 t0 H fun g t45=>Ly g E 1 fun g t1=>C3 M g (.func qaw) [t45,t1] H fun g t47 H1=>B3 g ((Op.extract 0) [t47]) fun g t48=>B3 g ((Op.extract 1) [t47]) fun g t49=>Ly g E 6 fun g t6=>B32 g ((Op.store 21) [t6,t48] H1) fun g u H2=>Ly g E 0 fun g t0_1=>Ly g E 6 fun g t6_1=>B3 g ((Op.loadN 21) [t6_1] H2) fun g t51=>C3 M g (.func qbj) [t0_1,t51] H2 fun g t52 H3=>GO3 g Q .ret ((5,(.int .i64 0))::(4,t52)::E) D H3):=by (repeat' apply And.intro)<;>(intro _ _ _ _;refine W_unf ?_;kernel_rfl)
theorem qrv:(cProg Try.prog).func qbg=some qh4/\qh4.results=[.tmp 4,.tmp 5]:=za (by kernel_rfl)
theorem qrw (h:W M ⟨none,qbg⟩ (jn 0) true (FIN3 M [.tmp 4,.tmp 5] Q) [(0,a0),(1,a1)] [] H):yw M qbg [a0,a1] H Q:=callf (by decide) qrv (ks:=qlu) (by kernel_rfl) h
def qf9:AFunc:=funcAt Try.prog qai
def qi4:Kp:=⟨[0,2],false,[0,2,10]⟩
def qal (k:Nat):Kp × ACode:=(qi4,part qf9.body k)
theorem qog (M:Mac) (c:Ctx):(∀ Q E D H,W M c (qal 0) true Q E D H =
 W M c (qal 2) true Q ((2,.nilf)::E) D H) /\
 (∀ Q E D H,W M c (qal 2) true Q E D H =
  Lz E 0 fun g t0=>B3 g ((Op.eq .ptr false) [t0,.nilp] H) fun g t4=>IF3 g t4 (fun g=>GO3 g (SEQ3 (W M c (qal 10)) Q) .ret ((2,(.fn (.func qmc) [] []))::E) D H) (fun g=>Gt g M c (qal 10) Q E D H)) /\
 (∀ Q E D H,W M c (qal 10) true Q E D H =
  Lz E 0 fun g t0=>Nf g 2 t0 H fun g t8=>C3 M g (.func qb4) [t8] H fun g t9 H1=>C3 M g (.func yr) [t9] H1 fun g t10 H2=>GO3 g Q .ret ((2,t10)::E) D H2):=by (repeat' apply And.intro)<;>(intro _ _ _ _;refine W_unf ?_;kernel_rfl)
theorem qoe:(cProg Try.prog).func qai=some qf9/\qf9.results=[.tmp 2]:=za (by kernel_rfl)
theorem qof (h:W M ⟨none,qai⟩ (qal 0) true (FIN3 M [.tmp 2] Q) [(0,a0)] [] H):yw M qai [a0] H Q:=callf (by decide) qoe (ks:=qi4) (by kernel_rfl) h
def qi6:AFunc:=funcAt Try.prog qa3
def qm5:Kp:=⟨[0,1,4],false,[0,2,17]⟩
def qca (k:Nat):Kp × ACode:=(qm5,part qi6.body k)
theorem qut (M:Mac) (c:Ctx):(∀ Q E D H,W M c (qca 0) true Q E D H =
 W M c (qca 2) true Q ((4,(.int .i64 0))::E) D H) /\
 (∀ Q E D H,W M c (qca 2) true Q E D H =
  Lz E 0 fun g t0=>B3 g ((Op.eq .ptr false) [t0,.nilp] H) fun g t7=>IF3 g t7 (fun g=>GO3 g (BLK3 0 (SEQ3 (W M c (qca 17)) Q)) .ret ((4,(.int .i64 1))::E) D H) (fun g=>Ly g E 1 fun g t1=>Bn g .lss t1 (.int .i64 0) fun g t10=>JN (fun (k:Bool->AV->AV->AV->AV->AV->AV->AV->AHeap->Prop)=>B3 g (wantV false (some t10)) fun g w=>IG3 g w (fun g=>Ly g E 0 fun g t0_1=>B3 g (Op.nilCheck [t0_1]) fun g t14=>B3 g ((Op.fieldAddr 1) [t14]) fun g t15=>B3 g (Op.load1 [t15] H) fun g t16=>Bn g .mul t16 (.int .i64 8) fun g t17=>Bn g .geq t1 t17 fun g t18=>k g t18 t17 t16 t15 t14 t0_1 t1 H) (fun g=>k g uu uu uu uu uu uu uu H)) (fun g t18_1 t17_1 t16_1 t15_1 t14_1 t13_1 t12_1 H1=>B3 g (Op.pick [t10,(.bool true),t18_1]) fun g t19=>IF3 g t19 (fun g=>GO3 g (BLK3 0 (SEQ3 (W M c (qca 17)) Q)) .ret ((4,(.int .i64 2))::E) D H1) (fun g=>GO3 g (BLK3 0 (SEQ3 (W M c (qca 17)) Q)) .normal E D H1)))) /\
 (∀ Q E D H,W M c (qca 17) true Q E D H =
  GO3 true Q .ret ((4,(.int .i64 0))::E) D H):=by (repeat' apply And.intro)<;>(intro _ _ _ _;refine W_unf ?_;kernel_rfl)
theorem qur:(cProg Try.prog).func qa3=some qi6/\qi6.results=[.tmp 4]:=za (by kernel_rfl)
theorem qus (h:W M ⟨none,qa3⟩ (qca 0) true (FIN3 M [.tmp 4] Q) [(0,a0),(1,a1)] [] H):yw M qa3 [a0,a1] H Q:=callf (by decide) qur (ks:=qm5) (by kernel_rfl) h
def qi3:AFunc:=funcAt Try.prog qa2
def qm4:Kp:=⟨[0,1,2,6],false,[0,2,10]⟩
def qc8 (k:Nat):Kp × ACode:=(qm4,part qi3.body k)
theorem quq (M:Mac) (c:Ctx):(∀ Q E D H,W M c (qc8 0) true Q E D H =
 W M c (qc8 2) true Q ((6,.nils)::E) D H) /\
 (∀ Q E D H,W M c (qc8 2) true Q E D H =
  Lz E 0 fun g t0=>B3 g (Op.nilCheck [t0]) fun g t8=>B3 g ((Op.fieldAddr 3) [t8]) fun g t9=>Fl g 0 t9 H fun g t11=>Bn g .neq t11 (.int .i64 0) fun g t12=>JN (fun (k:Bool->AV->AV->AV->AV->AV->AV->AHeap->Prop)=>B3 g (wantV false (some t12)) fun g w=>IG3 g w (fun g=>B3 g (Op.nilCheck [t0]) fun g t15=>B3 g ((Op.fieldAddr 14) [t15]) fun g t16=>B3 g (Op.load1 [t16] H) fun g t17=>Ly g E 2 fun g t2=>C3 M g (.func vn) [t17,t2] H fun g t19 H1=>k g t19 t2 t17 t16 t15 t0 H1) (fun g=>k g uu uu uu uu uu uu H)) (fun g t19_1 t18_1 t17_1 t16_1 t15_1 t14_1 H2=>B3 g (Op.pick [t12,(.bool true),t19_1]) fun g t20=>IF3 g t20 (fun g=>GO3 g (SEQ3 (W M c (qc8 10)) Q) .ret ((6,.nils)::E) D H2) (fun g=>Gt g M c (qc8 10) Q E D H2))) /\
 (∀ Q E D H,W M c (qc8 10) true Q E D H =
  Lz E 0 fun g t0=>Ly g E 1 fun g t1=>Ly g E 2 fun g t2=>C3 M g (.func kv) [t0,t1,t2] H fun g t25 H1=>B3 g (Op.nilCheck [t0]) fun g t26=>B3 g ((Op.fieldAddr 3) [t26]) fun g t27=>B32 g ((Op.store 11) [t27,t25] H1) fun g u H2=>Ly g E 0 fun g t0_1=>B3 g (Op.nilCheck [t0_1]) fun g t29=>B3 g ((Op.fieldAddr 3) [t29]) fun g t30=>B3 g ((Op.loadN 11) [t30] H2) fun g t31=>B32 g ((Op.buildSlice xm 1 [(.int .i64 0),(.int .i64 0),(.int .i64 0),(.int .u64 0),(.int .u64 0),(.int .u64 0),(.int .u64 0),(.int .u64 0),(.int .u64 0),(.int .u64 0),(.int .u64 0)] [(0,11)]) [t31]) fun g o3 k3=>GO3 g Q .ret ((6,(k3 H2.next))::E) D (H2.alloc o3)):=by (repeat' apply And.intro)<;>(intro _ _ _ _;refine W_unf ?_;kernel_rfl)
theorem qun:(cProg Try.prog).func qa2=some qi3/\qi3.results=[.tmp 6]:=za (by kernel_rfl)
theorem qup (h:W M ⟨none,qa2⟩ (qc8 0) true (FIN3 M [.tmp 6] Q) [(0,a0),(1,a1),(2,a2)] [] H):yw M qa2 [a0,a1,a2] H Q:=callf (by decide) qun (ks:=qm4) (by kernel_rfl) h
def qhr:AFunc:=funcAt Try.prog qbx
def qks:Kp:=⟨[0,1,4,5,6],false,[0]⟩
def qkt (k:Nat):Kp × ACode:=(qks,part qhr.body k)
theorem qqz (M:Mac) (c:Ctx):(∀ Q E D H,W M c (qkt 0) true Q E D H =
 Lz E 0 fun g t0=>Nf g 2 t0 H fun g t11=>Ly g E 1 fun g t1=>C3 M g (.func qaa) [t11,t1] H fun g t13 H1=>B3 g ((Op.extract 0) [t13]) fun g t14=>B3 g ((Op.extract 1) [t13]) fun g t15=>A3 g qj [(.int .i64 0),(.int .i64 0),(.bool false),(.bool false),(.int .u64 0),(.int .u64 0),(.int .u64 0),(.int .u64 0),(.int .u64 0),(.int .u64 0),(.int .u64 0),(.int .u64 0),(.int .u64 0),(.int .u64 0),(.int .u64 0),(.int .u64 0),(.int .u64 0),(.int .u64 0),(.int .u64 0),(.int .u64 0),(.int .i64 0)] H1 fun g t5 H2=>B32 g ((Op.store 21) [t5,t14] H2) fun g u H3=>JN (fun (k:Bool->AV->AV->AV->AHeap->Prop)=>B3 g (wantV true (some t15)) fun g w=>IG3 g w (fun g=>B3 g ((Op.fieldAddr 1) [t5]) fun g t18=>B3 g (Op.load1 [t18] H3) fun g t19=>Bn g .eql t19 (.int .i64 2) fun g t20=>k g t20 t19 t18 H3) (fun g=>k g uu uu uu H3)) (fun g t20_1 t19_1 t18_1 H4=>B3 g (Op.pick [t15,t20_1,(.bool false)]) fun g t21=>GO3 g Q .ret ((4,t21)::(6,t15)::(5,t5)::(4,(.bool false))::E) D H4)):=by intro _ _ _ _;refine W_unf ?_;kernel_rfl
theorem qqx:(cProg Try.prog).func qbx=some qhr/\qhr.results=[.tmp 4]:=za (by kernel_rfl)
theorem qqy (h:W M ⟨none,qbx⟩ (qkt 0) true (FIN3 M [.tmp 4] Q) [(0,a0),(1,a1)] [] H):yw M qbx [a0,a1] H Q:=callf (by decide) qqx (ks:=qks) (by kernel_rfl) h
def qhq:AFunc:=funcAt Try.prog yq
def qkq:Kp:=⟨[0,1],false,[0]⟩
def qkr (k:Nat):Kp × ACode:=(qkq,part qhq.body k)
theorem qqw (M:Mac) (c:Ctx):(∀ Q E D H,W M c (qkr 0) true Q E D H =
 Lz E 0 fun g t0=>Nf g 2 t0 H fun g t7=>C3 M g (.func yy) [t7] H fun g t8 H1=>Ly g E 0 fun g t0_1=>Ly g E 1 fun g t1=>Ns g 15 t0_1 (.bool false) H1 fun g u H2=>Ns g 16 t0_1 t1 H2 fun g u_1 H3=>GO3 g Q .normal E D H3):=by intro _ _ _ _;refine W_unf ?_;kernel_rfl
theorem qqu:(cProg Try.prog).func yq=some qhq/\qhq.results=[]:=za (by kernel_rfl)
theorem qqv (h:W M ⟨none,yq⟩ (qkr 0) true (FIN3 M [] Q) [(0,a0),(1,a1)] [] H):yw M yq [a0,a1] H Q:=callf (by decide) qqu (ks:=qkq) (by kernel_rfl) h
def qga:AFunc:=funcAt Try.prog qaj
def qi5:Kp:=⟨[0,1,2,4,5,6,8,14],false,[0,2,12,18,28,41]⟩
def jk (k:Nat):Kp × ACode:=(qi5,part qga.body k)
theorem qoj (M:Mac) (c:Ctx):(∀ Q E D H,W M c (jk 0) true Q E D H =
 Lz E 1 fun g t1=>A3 g xm (AV.cells t1) H fun g t4 H1=>Ly g E 2 fun g t2=>A3 g qj (AV.cells t2) H1 fun g t5 H2=>W M c (jk 2) g Q ((6,(.bool false))::(5,t5)::(4,t4)::E) D H2) /\
 (∀ Q E D H,W M c (jk 2) true Q E D H =
  Lz E 4 fun g t4=>Fl g 0 t4 H fun g t8=>Cb g .eql t8 (.int .i64 11) (fun g=>Ly g E 5 fun g t5=>Fl g 1 t5 H fun g t12=>Bn g .neq t12 (.int .i64 2) fun g t13=>GO3 g (BLK3 0 (SEQ3 (W M c (jk 41)) Q)) .ret ((6,t13)::(8,t8)::E) D H) (fun g=>W M c (jk 12) g (BLK3 0 (SEQ3 (W M c (jk 41)) Q)) ((8,t8)::E) D H)) /\
 (∀ Q E D H,W M c (jk 41) true Q E D H =
  GO3 true Q .ret ((6,(.bool false))::E) D H) /\
 (∀ Q E D H,W M c (jk 12) true Q E D H =
  Lz E 8 fun g t8=>Bn g .eql t8 (.int .i64 12) fun g t15=>IF3 g t15 (fun g=>Gt g M c (jk 18) Q ((14,t15)::E) D H) (fun g=>Ly g E 8 fun g t8_1=>Bn g .eql t8_1 (.int .i64 13) fun g t16=>Gt g M c (jk 18) Q ((14,t16)::(14,t15)::E) D H)) /\
 (∀ Q E D H,W M c (jk 18) true Q E D H =
  Lz E 14 fun g t14=>IF3 g t14 (fun g=>Ly g E 5 fun g t5=>Fl g 1 t5 H fun g t18=>Bn g .neq t18 (.int .i64 1) fun g t19=>GO3 g Q .ret ((6,t19)::E) D H) (fun g=>Ly g E 8 fun g t8=>Cb g .eql t8 (.int .i64 14) (fun g=>Ly g E 0 fun g t0=>B3 g (Op.nilCheck [t0]) fun g t23=>B3 g ((Op.fieldAddr 3) [t23]) fun g t24=>B3 g ((Op.loadN 11) [t24] H) fun g t25=>Ly g E 4 fun g t4=>Fl g 2 t4 H fun g t28=>C3 M g (.func kv) [t0,(.int .i64 1),t28] H fun g t29 H1=>CK3 g ((Op.loadN 11) [t24] H1) (some t25) fun g=>B3 g ((Op.eq (.agg (.part 0 none .int (.part 1 none .int (.part 2 none .int (.part 3 (some 8) (.part 0 none .int (.part 1 none .int (.part 2 none .int (.part 3 none .int (.part 4 none .int (.part 5 none .int (.part 6 none .int (.part 7 none .int .nil)))))))) .nil))))) false) [t25,t29] H1) fun g t30=>GO3 g Q .ret ((6,t30)::E) D H1) (fun g=>W M c (jk 28) g Q E D H))) /\
 (∀ Q E D H,W M c (jk 28) true Q E D H =
  Lz E 8 fun g t8=>Cb g .eql t8 (.int .i64 15) (fun g=>Ly g E 0 fun g t0=>B3 g (Op.nilCheck [t0]) fun g t34=>B3 g ((Op.fieldAddr 3) [t34]) fun g t35=>B3 g ((Op.loadN 11) [t35] H) fun g t36=>Ly g E 4 fun g t4=>Fl g 2 t4 H fun g t39=>C3 M g (.func kv) [t0,(.int .i64 2),t39] H fun g t40 H1=>CK3 g ((Op.loadN 11) [t35] H1) (some t36) fun g=>B3 g ((Op.eq (.agg (.part 0 none .int (.part 1 none .int (.part 2 none .int (.part 3 (some 8) (.part 0 none .int (.part 1 none .int (.part 2 none .int (.part 3 none .int (.part 4 none .int (.part 5 none .int (.part 6 none .int (.part 7 none .int .nil)))))))) .nil))))) false) [t36,t40] H1) fun g t41=>GO3 g Q .ret ((6,t41)::E) D H1) (fun g=>Ly g E 8 fun g t8_1=>Cb g .eql t8_1 (.int .i64 16) (fun g=>Ly g E 0 fun g t0=>Nf g 14 t0 H fun g t47=>Ly g E 4 fun g t4=>Fl g 2 t4 H fun g t49=>C3 M g (.func vn) [t47,t49] H fun g t50 H1=>GO3 g Q .ret ((6,t50)::E) D H1) (fun g=>GO3 g Q .normal E D H))):=by (repeat' apply And.intro)<;>(intro _ _ _ _;refine W_unf ?_;kernel_rfl)
theorem qoh:(cProg Try.prog).func qaj=some qga/\qga.results=[.tmp 6]:=za (by kernel_rfl)
theorem qoi (h:W M ⟨none,qaj⟩ (jk 0) true (FIN3 M [.tmp 6] Q) [(0,a0),(1,a1),(2,a2)] [] H):yw M qaj [a0,a1,a2] H Q:=callf (by decide) qoh (ks:=qi5) (by kernel_rfl) h
def qia:AFunc:=funcAt Try.prog qch
def ql1:Kp:=⟨[0,1,2,4],false,[0]⟩
def ql2 (k:Nat):Kp × ACode:=(ql1,part qia.body k)
theorem qdi (M:Mac) (c:Ctx):(∀ Q E D H,W M c (ql2 0) true Q E D H =
 Lz E 1 fun g t1=>A3 g qj (AV.cells t1) H fun g t4 H1=>Fl g 3 t4 H1 fun g t10=>B3 g ((Op.un .not) [t10]) fun g t11=>JN (fun (k:Bool->AV->AV->AV->AHeap->Prop)=>B3 g (wantV true (some t11)) fun g w=>IG3 g w (fun g=>B3 g ((Op.fieldAddr 2) [t4]) fun g t13=>B3 g (Op.load1 [t13] H1) fun g t14=>k g t14 t14 t13 H1) (fun g=>k g uu uu uu H1)) (fun g t15_1 t14_1 t13_1 H2=>JN (fun (k:Bool->AV->AHeap->Prop)=>B3 g (wantV true (some t15_1)) fun g w=>IG3 g w (fun g=>Ly g E 2 fun g t2=>k g t2 H2) (fun g=>k g uu H2)) (fun g t16_1 H3=>JN (fun (k:Bool->AV->AV->AHeap->Prop)=>B3 g (wantV true (some t11)) fun g w=>IG3 g w (fun g=>B3 g (Op.pick [t15_1,t16_1,(.bool false)]) fun g t17=>B3 g ((Op.un .not) [t17]) fun g t18=>k g t18 t17 H3) (fun g=>k g uu uu H3)) (fun g t18_1 t17_1 H4=>B3 g (Op.pick [t11,t18_1,(.bool false)]) fun g t19=>IF3 g t19 (fun g=>GO3 g (BLK3 0 Q) .normal ((4,t4)::E) D H4) (fun g=>Fl g 0 t4 H4 fun g t22=>Cb g .eql t22 (.int .i64 0) (fun g=>Ly g E 0 fun g t0=>C3 M g (.func yq) [t0,(.int .i64 2)] H4 fun g t25 H5=>GO3 g (BLK3 0 Q) .normal ((4,t4)::E) D H5) (fun g=>Ly g E 0 fun g t0=>C3 M g (.func yq) [t0,(.int .i64 1)] H4 fun g t7 H5=>GO3 g (BLK3 0 Q) .normal ((4,t4)::E) D H5)))))):=by intro _ _ _ _;refine W_unf ?_;kernel_rfl
theorem qsd:(cProg Try.prog).func qch=some qia/\qia.results=[]:=za (by kernel_rfl)
theorem qse (h:W M ⟨none,qch⟩ (ql2 0) true (FIN3 M [] Q) [(0,a0),(1,a1),(2,a2)] [] H):yw M qch [a0,a1,a2] H Q:=callf (by decide) qsd (ks:=ql1) (by kernel_rfl) h
def qi7:AFunc:=funcAt Try.prog kv
def qm6:Kp:=⟨[0,1,2,6,11],false,[0]⟩
def qm7 (k:Nat):Kp × ACode:=(qm6,part qi7.body k)
theorem quw (M:Mac) (c:Ctx):(∀ Q E D H,W M c (qm7 0) true Q E D H =
 A3 true xm [(.int .i64 0),(.int .i64 0),(.int .i64 0),(.int .u64 0),(.int .u64 0),(.int .u64 0),(.int .u64 0),(.int .u64 0),(.int .u64 0),(.int .u64 0),(.int .u64 0)] H fun g t6 H1=>Ly g E 1 fun g t1=>Ly g E 0 fun g t0=>Nf g 0 t0 H1 fun g t11=>Ly g E 2 fun g t2=>B3 g ((Op.build [(.int .i64 0),(.int .i64 0),(.int .i64 0),(.int .u64 0),(.int .u64 0),(.int .u64 0),(.int .u64 0),(.int .u64 0),(.int .u64 0),(.int .u64 0),(.int .u64 0)] [(0,1),(1,1),(2,1)]) [t1,t11,t2]) fun g t13=>B32 g ((Op.store 11) [t6,t13] H1) fun g u H2=>GO3 g Q .ret ((11,t11)::(6,t6)::E) D H2):=by intro _ _ _ _;refine W_unf ?_;kernel_rfl
theorem quu:(cProg Try.prog).func kv=some qi7/\qi7.results=[.cellN 11 6]:=za (by kernel_rfl)
theorem quv (h:W M ⟨none,kv⟩ (qm7 0) true (FIN3 M [.cellN 11 6] Q) [(0,a0),(1,a1),(2,a2)] [] H):yw M kv [a0,a1,a2] H Q:=callf (by decide) quu (ks:=qm6) (by kernel_rfl) h
def qek:AFunc:=funcAt Try.prog yl
def qgs:Kp:=⟨[0,1,4,5,6,7],false,[0,4,12,17,23,34,35]⟩
def zb (k:Nat):Kp × ACode:=(qgs,part qek.body k)
theorem qlf (M:Mac) (c:Ctx):(∀ Q E D H,W M c (zb 0) true Q E D H =
 Lz E 0 fun g t0=>Ly g E 1 fun g t1=>C3 M g (.func yx) [t0,t1] H fun g t10 H1=>W M c (zb 4) g Q ((5,t10)::(4,.nils)::E) D H1) /\
 (∀ Q E D H,W M c (zb 4) true Q E D H =
  Lz E 5 fun g t5=>Cb g .eql t5 (.int .i64 (-1)) (fun g=>Ly g E 0 fun g t0=>GO3 g (SEQ3 (W M c (zb 12)) Q) .ret ((4,t0)::E) D H) (fun g=>Gt g M c (zb 12) Q E D H)) /\
 (∀ Q E D H,W M c (zb 12) true Q E D H =
  Lz E 5 fun g t5=>Bn g .add t5 (.int .i64 1) fun g t15=>LOOP3 (W M c (zb 17)) (BLK3 0 (SEQ3 (W M c (zb 35)) Q)) ((6,t15)::E) D H) /\
 (∀ Q E D H,W M c (zb 35) true Q E D H =
  Lz E 0 fun g t0=>Ly g E 5 fun g t5=>B3 g ((Op.sliceSl 1 [(some 0),none,none]) [t0,t5]) fun g t38=>B32 g ((Op.clearSl [(.int .i64 0)]) [t38] H) fun g u H1=>Ly g E 0 fun g t0_1=>Ly g E 5 fun g t5_1=>B3 g ((Op.sliceSl 1 [none,(some 0),none]) [t0_1,t5_1]) fun g t41=>GO3 g Q .ret ((4,t41)::E) D H1) /\
 (∀ Q E D H,W M c (zb 17) true Q E D H =
  Lz E 6 fun g t6=>Ly g E 0 fun g t0=>B3 g (Op.lenSl [t0]) fun g t18=>Cb g .lss t6 t18 (fun g=>Gt g M c (zb 23) Q E D H) (fun g=>GO3 g (SEQ3 (W M c (zb 23)) Q) (.exit 0) E D H)) /\
 (∀ Q E D H,W M c (zb 23) true Q E D H =
  Lz E 0 fun g t0=>Ly g E 6 fun g t6=>Xl g t0 t6 H fun g t25=>Ly g E 1 fun g t1=>V3 g [t1,t25] fun g f vs=>C3 M g f vs H fun g t28 H1=>B3 g ((Op.un .not) [t28]) fun g t29=>IF3 g t29 (fun g=>Ly g E 0 fun g t0_1=>Ly g E 5 fun g t5=>Xs g t0_1 t5 t25 H1 fun g u H2=>Ly g E 5 fun g t5_1=>Bn g .add t5_1 (.int .i64 1) fun g t35=>GO3 g (BLK3 1 (SEQ3 (W M c (zb 34)) Q)) .normal ((5,t35)::(7,t25)::E) D H2) (fun g=>GO3 g (BLK3 1 (SEQ3 (W M c (zb 34)) Q)) .normal ((7,t25)::E) D H1)) /\
 (∀ Q E D H,W M c (zb 34) true Q E D H =
  Lz E 6 fun g t6=>Bn g .add t6 (.int .i64 1) fun g t21=>GO3 g Q .normal ((6,t21)::E) D H):=by (repeat' apply And.intro)<;>(intro _ _ _ _;refine W_unf ?_;kernel_rfl)
theorem qlc:(cProg Try.prog).func yl=some qek/\qek.results=[.tmp 4]:=za (by kernel_rfl)
theorem qld (h:W M ⟨none,yl⟩ (zb 0) true (FIN3 M [.tmp 4] Q) [(0,a0),(1,a1)] [] H):yw M yl [a0,a1] H Q:=callf (by decide) qlc (ks:=qgs) (by kernel_rfl) h
def qgo:AFunc:=funcAt Try.prog qa1
def qjn:Kp:=⟨[0,1,3],false,[0]⟩
def qjo (k:Nat):Kp × ACode:=(qjn,part qgo.body k)
theorem qjp (M:Mac) (c:Ctx):(∀ Q E D H,W M c (qjo 0) true Q E D H =
 Lz E 0 fun g t0=>Ly g E 1 fun g t1=>Fl g 2 t1 H fun g t6=>Bn g .eql t0 t6 fun g t7=>GO3 g Q .ret ((3,t7)::(3,(.bool false))::E) D H):=by intro _ _ _ _;refine W_unf ?_;kernel_rfl
theorem qph:(cProg Try.prog).func qa1=some qgo/\qgo.results=[.tmp 3]:=za (by kernel_rfl)
theorem qpi (h:W M ⟨none,qa1⟩ (qjo 0) true (FIN3 M [.tmp 3] Q) [(0,a0),(1,a1)] [] H):yw M qa1 [a0,a1] H Q:=callf (by decide) qph (ks:=qjn) (by kernel_rfl) h
def qh8:AFunc:=funcAt Try.prog qaf
def qlz:Kp:=⟨[0,1,3,4,5,6,7,8],false,[0,4,10,12,20,28]⟩
def jo (k:Nat):Kp × ACode:=(qlz,part qh8.body k)
theorem qr9 (M:Mac) (c:Ctx):(∀ Q E D H,W M c (jo 0) true Q E D H =
 Lz E 1 fun g t1=>A3 g xm (AV.cells t1) H fun g t3 H1=>W M c (jo 4) g Q ((5,(.int .i64 1))::(4,.nils)::(3,t3)::E) D H1) /\
 (∀ Q E D H,W M c (jo 4) true Q E D H =
  Lz E 3 fun g t3=>Fl g 0 t3 H fun g t10=>Cb g .eql t10 (.int .i64 15) (fun g=>Gt g M c (jo 10) Q ((5,(.int .i64 2))::E) D H) (fun g=>Gt g M c (jo 10) Q E D H)) /\
 (∀ Q E D H,W M c (jo 10) true Q E D H =
  Lz E 0 fun g t0=>Nf g 2 t0 H fun g t16=>Ly g E 3 fun g t3=>Fl g 2 t3 H fun g t18=>Ly g E 5 fun g t5=>B3 g ((Op.fieldAddr 3) [t3]) fun g t20=>B3 g ((Op.loadN 8) [t20] H) fun g t21=>C3 M g (.func wz) [t16,t18,t5,t21] H fun g t22 H1=>B3 g ((Op.extract 0) [t22]) fun g t23=>B3 g ((Op.extract 1) [t22]) fun g t24=>B3 g ((Op.extract 2) [t22]) fun g t25=>A3 g qj [(.int .i64 0),(.int .i64 0),(.bool false),(.bool false),(.int .u64 0),(.int .u64 0),(.int .u64 0),(.int .u64 0),(.int .u64 0),(.int .u64 0),(.int .u64 0),(.int .u64 0),(.int .u64 0),(.int .u64 0),(.int .u64 0),(.int .u64 0),(.int .u64 0),(.int .u64 0),(.int .u64 0),(.int .u64 0),(.int .i64 0)] H1 fun g t6 H2=>B32 g ((Op.store 21) [t6,t23] H2) fun g u H3=>W M c (jo 12) g Q ((8,t25)::(7,t24)::(6,t6)::E) D H3) /\
 (∀ Q E D H,W M c (jo 12) true Q E D H =
  Lz E 8 fun g t8=>Cb g .eql t8 (.int .i64 22) (fun g=>Ly g E 0 fun g t0=>C3 M g (.func yq) [t0,(.int .i64 3)] H fun g t29 H1=>Ly g E 0 fun g t0_1=>Nf g 2 t0_1 H1 fun g t34=>Ly g E 3 fun g t3=>Fl g 2 t3 H1 fun g t36=>Ly g E 5 fun g t5=>B3 g ((Op.fieldAddr 3) [t3]) fun g t38=>B3 g ((Op.loadN 8) [t38] H1) fun g t39=>C3 M g (.func wz) [t34,t36,t5,t39] H1 fun g t40 H2=>B3 g ((Op.extract 0) [t40]) fun g t41=>B3 g ((Op.extract 1) [t40]) fun g t42=>B3 g ((Op.extract 2) [t40]) fun g t43=>Ly g E 6 fun g t6=>B32 g ((Op.store 21) [t6,t41] H2) fun g u H3=>Gt g M c (jo 20) Q ((7,t42)::E) D H3) (fun g=>Gt g M c (jo 20) Q E D H)) /\
 (∀ Q E D H,W M c (jo 20) true Q E D H =
  Lz E 7 fun g t7=>B3 g ((Op.un .not) [t7]) fun g t45=>IF3 g t45 (fun g=>GO3 g (SEQ3 (W M c (jo 28)) Q) .ret ((4,.nils)::E) D H) (fun g=>Gt g M c (jo 28) Q E D H)) /\
 (∀ Q E D H,W M c (jo 28) true Q E D H =
  Lz E 0 fun g t0=>Ly g E 6 fun g t6=>B3 g ((Op.loadN 21) [t6] H) fun g t47=>C3 M g (.func qbj) [t0,t47] H fun g t48 H1=>GO3 g Q .ret ((4,t48)::E) D H1):=by (repeat' apply And.intro)<;>(intro _ _ _ _;refine W_unf ?_;kernel_rfl)
theorem qr7:(cProg Try.prog).func qaf=some qh8/\qh8.results=[.tmp 4]:=za (by kernel_rfl)
theorem qr8 (h:W M ⟨none,qaf⟩ (jo 0) true (FIN3 M [.tmp 4] Q) [(0,a0),(1,a1)] [] H):yw M qaf [a0,a1] H Q:=callf (by decide) qr7 (ks:=qlz) (by kernel_rfl) h
def qh9:AFunc:=funcAt Try.prog qbj
def ql0:Kp:=⟨[0,1,3,4,5],false,[0,2,10]⟩
def qck (k:Nat):Kp × ACode:=(ql0,part qh9.body k)
theorem qsc (M:Mac) (c:Ctx):(∀ Q E D H,W M c (qck 0) true Q E D H =
 Lz E 1 fun g t1=>A3 g qj (AV.cells t1) H fun g t3 H1=>W M c (qck 2) g Q ((4,.nils)::(3,t3)::E) D H1) /\
 (∀ Q E D H,W M c (qck 2) true Q E D H =
  Lz E 3 fun g t3=>Fl g 1 t3 H fun g t7=>Cb g .neq t7 (.int .i64 2) (fun g=>GO3 g (SEQ3 (W M c (qck 10)) Q) .ret ((4,.nils)::E) D H) (fun g=>Gt g M c (qck 10) Q E D H)) /\
 (∀ Q E D H,W M c (qck 10) true Q E D H =
  Lz E 0 fun g t0=>Nf g 14 t0 H fun g t13=>Ly g E 3 fun g t3=>Fl g 0 t3 H fun g t15=>B32 g ((Op.buildSlice T_int 1 [(.int .i64 0)] [(0,1)]) [t15]) fun g o1 k1=>B32 g ((Op.append T_int 1 8) [t13,(k1 H.next)] (H.alloc o1)) fun g t17 H2=>Ns g 14 t0 t17 H2 fun g u H3=>Ly g E 0 fun g t0_1=>Ly g E 3 fun g t3_1=>Fl g 0 t3_1 H3 fun g t22=>C3 M g (.func kv) [t0_1,(.int .i64 3),t22] H3 fun g t23 H4=>A3 g xm [(.int .i64 0),(.int .i64 0),(.int .i64 0),(.int .u64 0),(.int .u64 0),(.int .u64 0),(.int .u64 0),(.int .u64 0),(.int .u64 0),(.int .u64 0),(.int .u64 0)] H4 fun g t5 H5=>B32 g ((Op.store 11) [t5,t23] H5) fun g u_1 H6=>Ly g E 3 fun g t3_2=>B3 g ((Op.fieldAddr 4) [t3_2]) fun g t24=>B3 g ((Op.loadN 8) [t24] H6) fun g t25=>B3 g ((Op.fieldAddr 3) [t5]) fun g t26=>B32 g ((Op.store 8) [t26,t25] H6) fun g u_2 H7=>B3 g ((Op.loadN 11) [t5] H7) fun g t27=>B32 g ((Op.buildSlice xm 1 [(.int .i64 0),(.int .i64 0),(.int .i64 0),(.int .u64 0),(.int .u64 0),(.int .u64 0),(.int .u64 0),(.int .u64 0),(.int .u64 0),(.int .u64 0),(.int .u64 0)] [(0,11)]) [t27]) fun g o8 k8=>GO3 g Q .ret ((4,(k8 H7.next))::(5,t5)::E) D (H7.alloc o8)):=by (repeat' apply And.intro)<;>(intro _ _ _ _;refine W_unf ?_;kernel_rfl)
theorem qsa:(cProg Try.prog).func qbj=some qh9/\qh9.results=[.tmp 4]:=za (by kernel_rfl)
theorem qsb (h:W M ⟨none,qbj⟩ (qck 0) true (FIN3 M [.tmp 4] Q) [(0,a0),(1,a1)] [] H):yw M qbj [a0,a1] H Q:=callf (by decide) qsa (ks:=ql0) (by kernel_rfl) h
def qds:AFunc:=funcAt Try.prog yr
def qf3:Kp:=⟨[0,1,2],false,[0]⟩
def qf4 (k:Nat):Kp × ACode:=(qf3,part qds.body k)
theorem qjz (M:Mac) (c:Ctx):(∀ Q E D H,W M c (qf4 0) true Q E D H =
 Lz E 0 fun g t0=>A3 g T__11 (AV.cells t0) H fun g t1 H1=>B3 g ((Op.mkFunc ja 0) [t1]) fun g t3=>GO3 g Q .ret ((2,t3)::(2,.nilf)::(1,t1)::E) D H1):=by intro _ _ _ _;refine W_unf ?_;kernel_rfl
theorem qjx:(cProg Try.prog).func yr=some qds/\qds.results=[.tmp 2]:=za (by kernel_rfl)
theorem qjy (h:W M ⟨none,yr⟩ (qf4 0) true (FIN3 M [.tmp 2] Q) [(0,a0)] [] H):yw M yr [a0] H Q:=callf (by decide) qjx (ks:=qf3) (by kernel_rfl) h
def qfb:AFunc:=funcAt Try.prog vn
def qh0:Kp:=⟨[0,1,4],false,[0]⟩
def qh1 (k:Nat):Kp × ACode:=(qh0,part qfb.body k)
theorem qnc (M:Mac) (c:Ctx):(∀ Q E D H,W M c (qh1 0) true Q E D H =
 Lz E 0 fun g t0=>Ly g E 1 fun g t1=>C3 M g (.func qa4) [t0,t1] H fun g t7 H1=>Bn g .geq t7 (.int .i64 0) fun g t8=>GO3 g Q .ret ((4,t8)::(4,(.bool false))::E) D H1):=by intro _ _ _ _;refine W_unf ?_;kernel_rfl
theorem qna:(cProg Try.prog).func vn=some qfb/\qfb.results=[.tmp 4]:=za (by kernel_rfl)
theorem qnb (h:W M ⟨none,vn⟩ (qh1 0) true (FIN3 M [.tmp 4] Q) [(0,a0),(1,a1)] [] H):yw M vn [a0,a1] H Q:=callf (by decide) qna (ks:=qh0) (by kernel_rfl) h
def qew:AFunc:=funcAt Try.prog yx
def qg5:Kp:=⟨[0,1,4,5,7,8],false,[0,2,7,13,24,25]⟩
def zw (k:Nat):Kp × ACode:=(qg5,part qew.body k)
theorem ql8 (M:Mac) (c:Ctx):(∀ Q E D H,W M c (zw 0) true Q E D H =
 W M c (zw 2) true Q ((4,(.int .i64 0))::E) D H) /\
 (∀ Q E D H,W M c (zw 2) true Q E D H =
  Lz E 0 fun g t0=>B3 g (Op.lenSl [t0]) fun g t7=>LOOP3 (W M c (zw 7)) (BLK3 0 (SEQ3 (W M c (zw 25)) Q)) ((8,(.int .i64 0))::(7,t7)::E) D H) /\
 (∀ Q E D H,W M c (zw 25) true Q E D H =
  GO3 true Q .ret ((4,(.int .i64 (-1)))::E) D H) /\
 (∀ Q E D H,W M c (zw 7) true Q E D H =
  Lz E 8 fun g t8=>Ly g E 7 fun g t7=>Cb g .lss t8 t7 (fun g=>Gt g M c (zw 13) Q E D H) (fun g=>GO3 g (SEQ3 (W M c (zw 13)) Q) (.exit 0) E D H)) /\
 (∀ Q E D H,W M c (zw 13) true Q E D H =
  Lz E 8 fun g t8=>Ly g E 1 fun g t1=>Ly g E 0 fun g t0=>Xl g t0 t8 H fun g t15=>V3 g [t1,t15] fun g f vs=>C3 M g f vs H fun g t16 H1=>IF3 g t16 (fun g=>GO3 g (BLK3 1 (SEQ3 (W M c (zw 24)) Q)) .ret ((4,t8)::(5,t8)::E) D H1) (fun g=>GO3 g (BLK3 1 (SEQ3 (W M c (zw 24)) Q)) .normal ((5,t8)::E) D H1)) /\
 (∀ Q E D H,W M c (zw 24) true Q E D H =
  Lz E 8 fun g t8=>Bn g .add t8 (.int .i64 1) fun g t18=>GO3 g Q .normal ((8,t18)::E) D H):=by (repeat' apply And.intro)<;>(intro _ _ _ _;refine W_unf ?_;kernel_rfl)
theorem ql6:(cProg Try.prog).func yx=some qew/\qew.results=[.tmp 4]:=za (by kernel_rfl)
theorem ql7 (h:W M ⟨none,yx⟩ (zw 0) true (FIN3 M [.tmp 4] Q) [(0,a0),(1,a1)] [] H):yw M yx [a0,a1] H Q:=callf (by decide) ql6 (ks:=qg5) (by kernel_rfl) h
def qda:AFunc:=funcAt Try.prog ja
def qfe:Kp:=⟨[0,1,4,5,6,7],false,[0,4,10,19]⟩
def jb (k:Nat):Kp × ACode:=(qfe,part qda.body k)
theorem qje (M:Mac) (c:Ctx):(∀ Q E D H,W M c (jb 0) true Q E D H =
 Lz E 1 fun g t1=>B3 g (Op.load1 [t1] H) fun g t5=>B3 g (Op.lenSl [t5]) fun g t6=>LOOP3 (W M c (jb 4)) (BLK3 0 Q) ((7,(.int .i64 0))::(6,t6)::(5,t5)::E) D H) /\
 (∀ Q E D H,W M c (jb 4) true Q E D H =
  Lz E 7 fun g t7=>Ly g E 6 fun g t6=>Cb g .lss t7 t6 (fun g=>Gt g M c (jb 10) Q E D H) (fun g=>GO3 g (SEQ3 (W M c (jb 10)) Q) (.exit 0) E D H)) /\
 (∀ Q E D H,W M c (jb 10) true Q E D H =
  Lz E 5 fun g t5=>Ly g E 7 fun g t7=>B3 g ((Op.indexSl 21) [t5,t7]) fun g t9=>B3 g ((Op.loadN 21) [t9] H) fun g t10=>A3 g qj [(.int .i64 0),(.int .i64 0),(.bool false),(.bool false),(.int .u64 0),(.int .u64 0),(.int .u64 0),(.int .u64 0),(.int .u64 0),(.int .u64 0),(.int .u64 0),(.int .u64 0),(.int .u64 0),(.int .u64 0),(.int .u64 0),(.int .u64 0),(.int .u64 0),(.int .u64 0),(.int .u64 0),(.int .u64 0),(.int .i64 0)] H fun g t4 H1=>B32 g ((Op.store 21) [t4,t10] H1) fun g u H2=>Ly g E 0 fun g t0=>B3 g ((Op.loadN 21) [t4] H2) fun g t12=>V3 g [t0,t12] fun g f vs=>C3 M g f vs H2 fun g t13 H3=>B3 g ((Op.un .not) [t13]) fun g t14=>IF3 g t14 (fun g=>GO3 g (BLK3 1 (SEQ3 (W M c (jb 19)) Q)) .ret ((4,t4)::E) D H3) (fun g=>GO3 g (BLK3 1 (SEQ3 (W M c (jb 19)) Q)) .normal ((4,t4)::E) D H3)) /\
 (∀ Q E D H,W M c (jb 19) true Q E D H =
  Lz E 7 fun g t7=>Bn g .add t7 (.int .i64 1) fun g t15=>GO3 g Q .normal ((7,t15)::E) D H):=by (repeat' apply And.intro)<;>(intro _ _ _ _;refine W_unf ?_;kernel_rfl)
theorem qjc:(cProg Try.prog).func ja=some qda/\qda.results=[]:=za (by kernel_rfl)
theorem qjd (h:W M ⟨none,ja⟩ (jb 0) true (FIN3 M [] Q) [(0,a0),(1,a1)] [] H):yw M ja [a0,a1] H Q:=callf (by decide) qjc (ks:=qfe) (by kernel_rfl) h
def qgt:AFunc:=funcAt Try.prog qa4
def qjt:Kp:=⟨[0,1,4,5,7,8],false,[0,2,7,13,24,25]⟩
def jr (k:Nat):Kp × ACode:=(qjt,part qgt.body k)
theorem qpq (M:Mac) (c:Ctx):(∀ Q E D H,W M c (jr 0) true Q E D H =
 W M c (jr 2) true Q ((4,(.int .i64 0))::E) D H) /\
 (∀ Q E D H,W M c (jr 2) true Q E D H =
  Lz E 0 fun g t0=>B3 g (Op.lenSl [t0]) fun g t7=>LOOP3 (W M c (jr 7)) (BLK3 0 (SEQ3 (W M c (jr 25)) Q)) ((8,(.int .i64 0))::(7,t7)::E) D H) /\
 (∀ Q E D H,W M c (jr 25) true Q E D H =
  GO3 true Q .ret ((4,(.int .i64 (-1)))::E) D H) /\
 (∀ Q E D H,W M c (jr 7) true Q E D H =
  Lz E 8 fun g t8=>Ly g E 7 fun g t7=>Cb g .lss t8 t7 (fun g=>Gt g M c (jr 13) Q E D H) (fun g=>GO3 g (SEQ3 (W M c (jr 13)) Q) (.exit 0) E D H)) /\
 (∀ Q E D H,W M c (jr 13) true Q E D H =
  Lz E 8 fun g t8=>Ly g E 1 fun g t1=>Ly g E 0 fun g t0=>Xl g t0 t8 H fun g t15=>Cb g .eql t1 t15 (fun g=>GO3 g (BLK3 1 (SEQ3 (W M c (jr 24)) Q)) .ret ((4,t8)::(5,t8)::E) D H) (fun g=>GO3 g (BLK3 1 (SEQ3 (W M c (jr 24)) Q)) .normal ((5,t8)::E) D H)) /\
 (∀ Q E D H,W M c (jr 24) true Q E D H =
  Lz E 8 fun g t8=>Bn g .add t8 (.int .i64 1) fun g t18=>GO3 g Q .normal ((8,t18)::E) D H):=by (repeat' apply And.intro)<;>(intro _ _ _ _;refine W_unf ?_;kernel_rfl)
theorem qpo:(cProg Try.prog).func qa4=some qgt/\qgt.results=[.tmp 4]:=za (by kernel_rfl)
theorem qpp (h:W M ⟨none,qa4⟩ (jr 0) true (FIN3 M [.tmp 4] Q) [(0,a0),(1,a1)] [] H):yw M qa4 [a0,a1] H Q:=callf (by decide) qpo (ks:=qjt) (by kernel_rfl) h
end
end Go.Am
namespace Go.Am
abbrev qbu:Nat:=3
abbrev qee:Nat:=14
abbrev qe3:Nat:=13
abbrev qhb:Nat:=40
noncomputable section
open Go.Proofs Go.Proofs.Ytiibohocdbaekaa
variable {M:Mac} [MK M] {H:AHeap} {Q:AEnd->AHeap->Prop} {a0 a1:AV}
def qhk:AFunc:=funcAt Try.prog qbu
def qkj:Kp:=⟨[0,1,2,4,5,6,7,8,9,10,11,12,13,14,15,16],false,[0,4,6,14,19,25,31,35,37,45,50,56,65,66,70,76,82,88,97,98,99,100]⟩
def qo (k:Nat):Kp × ACode:=(qkj,part qhk.body k)
theorem qqg (M:Mac) (c:Ctx):(∀ Q E D H,W M c (qo 0) true Q E D H =
 Lz E 0 fun g t0=>A3 g qf7 (AV.cells t0) H fun g t2 H1=>C3 M g (.func qoq) [] H1 fun g t17 H2=>W M c (qo 4) g Q ((5,t17)::(4,(.bool false))::(2,t2)::E) D H2) /\
 (∀ Q E D H,W M c (qo 4) true Q E D H =
  Lz E 2 fun g t2=>B3 g ((Op.loadN 4) [t2] H) fun g t19=>C3 M g (.func qg9) [(.int .i64 0),t19] H fun g t20 H1=>B3 g ((Op.extract 0) [t20]) fun g t21=>B3 g ((Op.extract 1) [t20]) fun g t22=>W M c (qo 6) g Q ((7,t22)::(6,t21)::E) D H1) /\
 (∀ Q E D H,W M c (qo 6) true Q E D H =
  Lz E 7 fun g t7=>Bn g .neq t7 (.int .i64 0) fun g t24=>JN (fun (k:Bool->AV->AV->AV->AHeap->Prop)=>B3 g (wantV false (some t24)) fun g w=>IG3 g w (fun g=>Ly g E 1 fun g t1=>B3 g (Op.lenSl [t1]) fun g t27=>Bn g .gtr t27 (.int .i64 400) fun g t28=>k g t28 t27 t1 H) (fun g=>k g uu uu uu H)) (fun g t28_1 t27_1 t26_1 H1=>B3 g (Op.pick [t24,(.bool true),t28_1]) fun g t29=>JN (fun (k:Bool->AV->AV->AHeap->Prop)=>B3 g (wantV false (some t29)) fun g w=>IG3 g w (fun g=>Ly g E 5 fun g t5=>B3 g ((Op.un .not) [t5]) fun g t32=>k g t32 t5 H1) (fun g=>k g uu uu H1)) (fun g t32_1 t31_1 H2=>B3 g (Op.pick [t29,(.bool true),t32_1]) fun g t33=>IF3 g t33 (fun g=>Ly g E 5 fun g t5_1=>GO3 g (SEQ3 (W M c (qo 14)) Q) .ret ((4,t5_1)::E) D H2) (fun g=>Gt g M c (qo 14) Q E D H2)))) /\
 (∀ Q E D H,W M c (qo 14) true Q E D H =
  LOOP3 (W M c (qo 19)) (BLK3 0 (SEQ3 (W M c (qo 100)) Q)) ((8,(.int .i64 0))::E) D H) /\
 (∀ Q E D H,W M c (qo 100) true Q E D H =
  Lz E 5 fun g t5=>GO3 g Q .ret ((4,t5)::E) D H) /\
 (∀ Q E D H,W M c (qo 19) true Q E D H =
  Lz E 8 fun g t8=>Ly g E 1 fun g t1=>B3 g (Op.lenSl [t1]) fun g t37=>Cb g .lss t8 t37 (fun g=>Gt g M c (qo 25) Q E D H) (fun g=>GO3 g (SEQ3 (W M c (qo 25)) Q) (.exit 0) E D H)) /\
 (∀ Q E D H,W M c (qo 25) true Q E D H =
  Lz E 6 fun g t6=>C3 M g (.func qab) [t6] H fun g t42 H1=>Ly g E 6 fun g t6_1=>C3 M g (.func qbh) [t6_1] H1 fun g t44 H2=>W M c (qo 31) g (BLK3 1 (SEQ3 (W M c (qo 99)) Q)) ((10,t44)::(9,t42)::E) D H2) /\
 (∀ Q E D H,W M c (qo 99) true Q E D H =
  Lz E 8 fun g t8=>Bn g .add t8 (.int .i64 1) fun g t40=>GO3 g Q .normal ((8,t40)::E) D H) /\
 (∀ Q E D H,W M c (qo 31) true Q E D H =
  Lz E 6 fun g t6=>Ly g E 1 fun g t1=>Ly g E 8 fun g t8=>B3 g ((Op.indexSl 15) [t1,t8]) fun g t48=>B3 g ((Op.loadN 15) [t48] H) fun g t49=>C3 M g (.func qe3) [t6,t49] H fun g t50 H1=>Ly g E 6 fun g t6_1=>C3 M g (.func qab) [t6_1] H1 fun g t52 H2=>W M c (qo 35) g Q ((12,t52)::(11,t50)::E) D H2) /\
 (∀ Q E D H,W M c (qo 35) true Q E D H =
  Lz E 12 fun g t12=>C3 M g (.func qee) [t12] H fun g t54 H1=>W M c (qo 37) g Q ((13,t54)::E) D H1) /\
 (∀ Q E D H,W M c (qo 37) true Q E D H =
  Lz E 6 fun g t6=>C3 M g (.func qbh) [t6] H fun g t56 H1=>B3 g ((Op.un .not) [t56]) fun g t57=>JN (fun (k:Bool->AV->AV->AHeap->Prop)=>B3 g (wantV true (some t57)) fun g w=>IG3 g w (fun g=>Ly g E 13 fun g t13=>B3 g ((Op.un .not) [t13]) fun g t60=>k g t60 t13 H1) (fun g=>k g uu uu H1)) (fun g t60_1 t59_1 H2=>B3 g (Op.pick [t57,t60_1,(.bool false)]) fun g t61=>IF3 g t61 (fun g=>GO3 g (SEQ3 (W M c (qo 45)) Q) .ret ((4,(.bool false))::E) D H2) (fun g=>Gt g M c (qo 45) Q E D H2))) /\
 (∀ Q E D H,W M c (qo 45) true Q E D H =
  LOOP3 (W M c (qo 50)) (BLK3 2 (SEQ3 (W M c (qo 66)) Q)) ((14,(.int .i64 0))::E) D H) /\
 (∀ Q E D H,W M c (qo 66) true Q E D H =
  LOOP3 (W M c (qo 70)) (BLK3 4 Q) ((15,(.int .i64 0))::E) D H) /\
 (∀ Q E D H,W M c (qo 50) true Q E D H =
  Lz E 14 fun g t14=>Ly g E 12 fun g t12=>B3 g (Op.lenSl [t12]) fun g t64=>Cb g .lss t14 t64 (fun g=>Gt g M c (qo 56) Q E D H) (fun g=>GO3 g (SEQ3 (W M c (qo 56)) Q) (.exit 2) E D H)) /\
 (∀ Q E D H,W M c (qo 70) true Q E D H =
  Lz E 15 fun g t15=>Ly g E 11 fun g t11=>B3 g (Op.lenSl [t11]) fun g t83=>Cb g .lss t15 t83 (fun g=>Gt g M c (qo 76) Q E D H) (fun g=>GO3 g (SEQ3 (W M c (qo 76)) Q) (.exit 4) E D H)) /\
 (∀ Q E D H,W M c (qo 56) true Q E D H =
  Lz E 12 fun g t12=>Ly g E 14 fun g t14=>B3 g ((Op.indexSl 21) [t12,t14]) fun g t70=>Fl g 3 t70 H fun g t72=>JN (fun (k:Bool->AV->AV->AV->AV->AV->AV->AHeap->Prop)=>B3 g (wantV true (some t72)) fun g w=>IG3 g w (fun g=>B3 g ((Op.indexSl 21) [t12,t14]) fun g t76=>B3 g ((Op.fieldAddr 1) [t76]) fun g t77=>B3 g (Op.load1 [t77] H) fun g t78=>Bn g .neq t78 (.int .i64 2) fun g t79=>k g t79 t78 t77 t76 t14 t12 H) (fun g=>k g uu uu uu uu uu uu H)) (fun g t79_1 t78_1 t77_1 t76_1 t75_1 t74_1 H1=>B3 g (Op.pick [t72,t79_1,(.bool false)]) fun g t80=>IF3 g t80 (fun g=>GO3 g (BLK3 3 (SEQ3 (W M c (qo 65)) Q)) .ret ((4,(.bool false))::E) D H1) (fun g=>GO3 g (BLK3 3 (SEQ3 (W M c (qo 65)) Q)) .normal E D H1))) /\
 (∀ Q E D H,W M c (qo 76) true Q E D H =
  LOOP3 (W M c (qo 82)) (BLK3 6 (BLK3 5 (SEQ3 (W M c (qo 98)) Q))) ((16,(.int .i64 0))::E) D H) /\
 (∀ Q E D H,W M c (qo 65) true Q E D H =
  Lz E 14 fun g t14=>Bn g .add t14 (.int .i64 1) fun g t67=>GO3 g Q .normal ((14,t67)::E) D H) /\
 (∀ Q E D H,W M c (qo 98) true Q E D H =
  Lz E 15 fun g t15=>Bn g .add t15 (.int .i64 1) fun g t86=>GO3 g Q .normal ((15,t86)::E) D H) /\
 (∀ Q E D H,W M c (qo 82) true Q E D H =
  Lz E 16 fun g t16=>Ly g E 9 fun g t9=>B3 g (Op.lenSl [t9]) fun g t89=>Bn g .lss t16 t89 fun g t90=>JN (fun (k:Bool->AV->AHeap->Prop)=>B3 g (wantV true (some t90)) fun g w=>IG3 g w (fun g=>Ly g E 10 fun g t10=>k g t10 H) (fun g=>k g uu H)) (fun g t92_1 H1=>B3 g (Op.pick [t90,t92_1,(.bool false)]) fun g t93=>IF3 g t93 (fun g=>Gt g M c (qo 88) Q E D H1) (fun g=>GO3 g (SEQ3 (W M c (qo 88)) Q) (.exit 6) E D H1))) /\
 (∀ Q E D H,W M c (qo 88) true Q E D H =
  Lz E 9 fun g t9=>Ly g E 16 fun g t16=>B3 g ((Op.indexSl 21) [t9,t16]) fun g t98=>Fl g 0 t98 H fun g t100=>Ly g E 11 fun g t11=>Ly g E 15 fun g t15=>B3 g ((Op.indexSl 11) [t11,t15]) fun g t103=>Fl g 2 t103 H fun g t105=>Bn g .eql t100 t105 fun g t106=>JN (fun (k:Bool->AV->AV->AV->AV->AV->AHeap->Prop)=>B3 g (wantV true (some t106)) fun g w=>IG3 g w (fun g=>B3 g ((Op.indexSl 21) [t9,t16]) fun g t110=>B3 g ((Op.fieldAddr 3) [t110]) fun g t111=>B3 g (Op.load1 [t111] H) fun g t112=>k g t112 t111 t110 t16 t9 H) (fun g=>k g uu uu uu uu uu H)) (fun g t112_1 t111_1 t110_1 t109_1 t108_1 H1=>B3 g (Op.pick [t106,t112_1,(.bool false)]) fun g t113=>JN (fun (k:Bool->AV->AV->AV->AV->AV->AV->AV->AHeap->Prop)=>B3 g (wantV true (some t113)) fun g w=>IG3 g w (fun g=>B3 g ((Op.indexSl 11) [t11,t15]) fun g t117=>B3 g ((Op.fieldAddr 0) [t117]) fun g t118=>B3 g (Op.load1 [t118] H1) fun g t119=>Bn g .eql t119 (.int .i64 3) fun g t120=>k g t120 t120 t119 t118 t117 t15 t11 H1) (fun g=>k g uu uu uu uu uu uu uu H1)) (fun g t121_1 t120_1 t119_1 t118_1 t117_1 t116_1 t115_1 H2=>JN (fun (k:Bool->AV->AV->AV->AV->AV->AV->AHeap->Prop)=>B3 g (wantV false (some t121_1)) fun g w=>IG3 g w (fun g=>B3 g ((Op.indexSl 11) [t11,t15]) fun g t124=>B3 g ((Op.fieldAddr 0) [t124]) fun g t125=>B3 g (Op.load1 [t125] H2) fun g t126=>Bn g .eql t126 (.int .i64 5) fun g t127=>k g t127 t126 t125 t124 t15 t11 H2) (fun g=>k g uu uu uu uu uu uu H2)) (fun g t127_1 t126_1 t125_1 t124_1 t123_1 t122_1 H3=>JN (fun (k:Bool->AV->AHeap->Prop)=>B3 g (wantV true (some t113)) fun g w=>IG3 g w (fun g=>B3 g (Op.pick [t121_1,(.bool true),t127_1]) fun g t128=>k g t128 H3) (fun g=>k g uu H3)) (fun g t128_1 H4=>B3 g (Op.pick [t113,t128_1,(.bool false)]) fun g t129=>JN (fun (k:Bool->AV->AV->AV->AV->AV->AV->AV->AV->AV->AV->AV->AV->AHeap->Prop)=>B3 g (wantV true (some t129)) fun g w=>IG3 g w (fun g=>B3 g ((Op.indexSl 11) [t11,t15]) fun g t133=>B3 g ((Op.fieldAddr 3) [t133]) fun g t134=>B3 g ((Op.loadN 8) [t134] H4) fun g t135=>B3 g ((Op.indexSl 21) [t9,t16]) fun g t138=>B3 g ((Op.fieldAddr 12) [t138]) fun g t139=>B3 g ((Op.loadN 8) [t139] H4) fun g t140=>B3 g ((Op.eq (.agg (.part 0 none .int (.part 1 none .int (.part 2 none .int (.part 3 none .int (.part 4 none .int (.part 5 none .int (.part 6 none .int (.part 7 none .int .nil))))))))) true) [t135,t140] H4) fun g t141=>k g t141 t141 t140 t139 t138 t16 t9 t135 t134 t133 t15 t11 H4) (fun g=>k g uu uu uu uu uu uu uu uu uu uu uu uu H4)) (fun g t142_1 t141_1 t140_1 t139_1 t138_1 t137_1 t136_1 t135_1 t134_1 t133_1 t132_1 t131_1 H5=>JN (fun (k:Bool->AV->AV->AHeap->Prop)=>B3 g (wantV false (some t142_1)) fun g w=>IG3 g w (fun g=>Ly g E 6 fun g t6=>C3 M g (.func qbh) [t6] H5 fun g t144 H6=>k g t144 t6 H6) (fun g=>k g uu uu H5)) (fun g t144_1 t143_1 H7=>JN (fun (k:Bool->AV->AHeap->Prop)=>B3 g (wantV true (some t129)) fun g w=>IG3 g w (fun g=>B3 g (Op.pick [t142_1,(.bool true),t144_1]) fun g t145=>k g t145 H7) (fun g=>k g uu H7)) (fun g t145_1 H8=>B3 g (Op.pick [t129,t145_1,(.bool false)]) fun g t146=>IF3 g t146 (fun g=>GO3 g (BLK3 7 (SEQ3 (W M c (qo 97)) Q)) .ret ((4,(.bool false))::E) D H8) (fun g=>GO3 g (BLK3 7 (SEQ3 (W M c (qo 97)) Q)) .normal E D H8))))))))) /\
 (∀ Q E D H,W M c (qo 97) true Q E D H =
  Lz E 16 fun g t16=>Bn g .add t16 (.int .i64 1) fun g t95=>GO3 g Q .normal ((16,t95)::E) D H):=by (repeat' apply And.intro)<;>(intro _ _ _ _;refine W_unf ?_;kernel_rfl)
theorem qqe:(cProg Try.prog).func qbu=some qhk/\qhk.results=[.tmp 4]:=za (by kernel_rfl)
theorem qqf (h:W M ⟨none,qbu⟩ (qo 0) true (FIN3 M [.tmp 4] Q) [(0,a0),(1,a1)] [] H):yw M qbu [a0,a1] H Q:=callf (by decide) qqe (ks:=qkj) (by kernel_rfl) h
def qmy:AFunc:=funcAt Try.prog qe3
def qrf:Kp:=⟨[0,1,3,4,5,7],false,[0,4,16,24,32,41]⟩
def wn (k:Nat):Kp × ACode:=(qrf,part qmy.body k)
theorem qzl (M:Mac) (c:Ctx):(∀ Q E D H,W M c (wn 0) true Q E D H =
 Lz E 1 fun g t1=>A3 g qhb (AV.cells t1) H fun g t3 H1=>W M c (wn 4) g Q ((5,.nils)::(4,.nils)::(3,t3)::E) D H1) /\
 (∀ Q E D H,W M c (wn 4) true Q E D H =
  Lz E 3 fun g t3=>Fl g 0 t3 H fun g t7=>Cb g .eql t7 (.int .i64 0) (fun g=>Ly g E 0 fun g t0=>Ly g E 3 fun g t3_1=>Fl g 1 t3_1 H fun g t13=>C3 M g (.func qbi) [t0,t13] H fun g t14 H1=>B3 g ((Op.extract 0) [t14]) fun g t15=>B3 g ((Op.extract 1) [t14]) fun g t16=>B3 g ((Op.extract 2) [t14]) fun g t17=>B3 g ((Op.extract 3) [t14]) fun g t18=>GO3 g (BLK3 0 (SEQ3 (W M c (wn 41)) Q)) .normal ((5,t17)::(7,t7)::E) D H1) (fun g=>Cb g .eql t7 (.int .i64 1) (fun g=>Ly g E 0 fun g t0=>Ly g E 3 fun g t3_1=>Fl g 1 t3_1 H fun g t24=>Fl g 2 t3_1 H fun g t26=>C3 M g (.func qar) [t0,t24,t26] H fun g t27 H1=>B3 g ((Op.extract 0) [t27]) fun g t28=>B3 g ((Op.extract 1) [t27]) fun g t29=>B3 g ((Op.extract 2) [t27]) fun g t30=>GO3 g (BLK3 0 (SEQ3 (W M c (wn 41)) Q)) .normal ((5,t29)::(7,t7)::E) D H1) (fun g=>W M c (wn 16) g (BLK3 0 (SEQ3 (W M c (wn 41)) Q)) ((7,t7)::E) D H))) /\
 (∀ Q E D H,W M c (wn 41) true Q E D H =
  Lz E 5 fun g t5=>GO3 g Q .ret ((4,t5)::E) D H) /\
 (∀ Q E D H,W M c (wn 16) true Q E D H =
  Lz E 7 fun g t7=>Cb g .eql t7 (.int .i64 2) (fun g=>Ly g E 0 fun g t0=>Ly g E 3 fun g t3=>Fl g 1 t3 H fun g t36=>Fl g 3 t3 H fun g t38=>Fl g 2 t3 H fun g t40=>C3 M g (.func qc0) [t0,t36,t38,t40] H fun g t41 H1=>B3 g ((Op.extract 0) [t41]) fun g t42=>B3 g ((Op.extract 1) [t41]) fun g t43=>B3 g ((Op.extract 2) [t41]) fun g t44=>B3 g ((Op.extract 3) [t41]) fun g t45=>GO3 g Q .normal ((5,t44)::E) D H1) (fun g=>Ly g E 7 fun g t7_1=>Cb g .eql t7_1 (.int .i64 3) (fun g=>Ly g E 0 fun g t0=>C3 M g (.func qbw) [t0] H fun g t49 H1=>GO3 g Q .normal E D H1) (fun g=>W M c (wn 24) g Q E D H))) /\
 (∀ Q E D H,W M c (wn 24) true Q E D H =
  Lz E 7 fun g t7=>Cb g .eql t7 (.int .i64 4) (fun g=>Ly g E 0 fun g t0=>C3 M g (.func qa0) [t0] H fun g t53 H1=>GO3 g Q .normal E D H1) (fun g=>Ly g E 7 fun g t7_1=>Cb g .eql t7_1 (.int .i64 5) (fun g=>Ly g E 0 fun g t0=>Ly g E 3 fun g t3=>Fl g 1 t3 H fun g t58=>C3 M g (.func qbv) [t0,t58] H fun g t59 H1=>GO3 g Q .normal E D H1) (fun g=>W M c (wn 32) g Q E D H))) /\
 (∀ Q E D H,W M c (wn 32) true Q E D H =
  Lz E 7 fun g t7=>Cb g .eql t7 (.int .i64 6) (fun g=>Ly g E 0 fun g t0=>Ly g E 3 fun g t3=>B3 g ((Op.fieldAddr 4) [t3]) fun g t64=>B3 g ((Op.loadN 11) [t64] H) fun g t65=>C3 M g (.func km) [t0,t65] H fun g t66 H1=>B3 g ((Op.extract 0) [t66]) fun g t67=>B3 g ((Op.extract 1) [t66]) fun g t68=>GO3 g Q .normal ((5,t67)::E) D H1) (fun g=>Ly g E 7 fun g t7_1=>Cb g .eql t7_1 (.int .i64 7) (fun g=>Ly g E 0 fun g t0=>Ly g E 3 fun g t3=>Fl g 1 t3 H fun g t74=>C3 M g (.func qbg) [t0,t74] H fun g t75 H1=>B3 g ((Op.extract 0) [t75]) fun g t76=>B3 g ((Op.extract 1) [t75]) fun g t77=>GO3 g Q .normal ((5,t76)::E) D H1) (fun g=>GO3 g Q .normal E D H))):=by (repeat' apply And.intro)<;>(intro _ _ _ _;refine W_unf ?_;kernel_rfl)
theorem qzj:(cProg Try.prog).func qe3=some qmy/\qmy.results=[.tmp 4]:=za (by kernel_rfl)
theorem qzk (h:W M ⟨none,qe3⟩ (wn 0) true (FIN3 M [.tmp 4] Q) [(0,a0),(1,a1)] [] H):yw M qe3 [a0,a1] H Q:=callf (by decide) qzj (ks:=qrf) (by kernel_rfl) h
def qk4:AFunc:=funcAt Try.prog qee
def qpa:Kp:=⟨[0,2,3],false,[0,2,7,13,22,23]⟩
def y8 (k:Nat):Kp × ACode:=(qpa,part qk4.body k)
theorem qxo (M:Mac) (c:Ctx):(∀ Q E D H,W M c (y8 0) true Q E D H =
 W M c (y8 2) true Q ((2,(.bool false))::E) D H) /\
 (∀ Q E D H,W M c (y8 2) true Q E D H =
  LOOP3 (W M c (y8 7)) (BLK3 0 (SEQ3 (W M c (y8 23)) Q)) ((3,(.int .i64 0))::E) D H) /\
 (∀ Q E D H,W M c (y8 23) true Q E D H =
  GO3 true Q .ret ((2,(.bool true))::E) D H) /\
 (∀ Q E D H,W M c (y8 7) true Q E D H =
  Lz E 3 fun g t3=>Ly g E 0 fun g t0=>B3 g (Op.lenSl [t0]) fun g t6=>Cb g .lss t3 t6 (fun g=>Gt g M c (y8 13) Q E D H) (fun g=>GO3 g (SEQ3 (W M c (y8 13)) Q) (.exit 0) E D H)) /\
 (∀ Q E D H,W M c (y8 13) true Q E D H =
  Lz E 0 fun g t0=>Ly g E 3 fun g t3=>B3 g ((Op.indexSl 21) [t0,t3]) fun g t12=>Fl g 2 t12 H fun g t14=>JN (fun (k:Bool->AV->AV->AV->AV->AV->AHeap->Prop)=>B3 g (wantV false (some t14)) fun g w=>IG3 g w (fun g=>B3 g ((Op.indexSl 21) [t0,t3]) fun g t18=>B3 g ((Op.fieldAddr 3) [t18]) fun g t19=>B3 g (Op.load1 [t19] H) fun g t20=>k g t20 t19 t18 t3 t0 H) (fun g=>k g uu uu uu uu uu H)) (fun g t20_1 t19_1 t18_1 t17_1 t16_1 H1=>B3 g (Op.pick [t14,(.bool true),t20_1]) fun g t21=>IF3 g t21 (fun g=>GO3 g (BLK3 1 (SEQ3 (W M c (y8 22)) Q)) .ret ((2,(.bool false))::E) D H1) (fun g=>GO3 g (BLK3 1 (SEQ3 (W M c (y8 22)) Q)) .normal E D H1))) /\
 (∀ Q E D H,W M c (y8 22) true Q E D H =
  Lz E 3 fun g t3=>Bn g .add t3 (.int .i64 1) fun g t9=>GO3 g Q .normal ((3,t9)::E) D H):=by (repeat' apply And.intro)<;>(intro _ _ _ _;refine W_unf ?_;kernel_rfl)
theorem qxm:(cProg Try.prog).func qee=some qk4/\qk4.results=[.tmp 2]:=za (by kernel_rfl)
theorem qxn (h:W M ⟨none,qee⟩ (y8 0) true (FIN3 M [.tmp 2] Q) [(0,a0)] [] H):yw M qee [a0] H Q:=callf (by decide) qxm (ks:=qpa) (by kernel_rfl) h
end
end Go.Am
