/- CodeQ: CodeSF CodeL1 CodeND CodeNM CodeNK. -/
import Derived.Test.YtiibohocdbaekaaAmQB4
import Derived.Test.YtiibohocdbaekaaAmQB1
import Derived.KernelRfl
import Derived.Test.YtiibohocdbaekaaRows
set_option linter.unusedVariables false
set_option maxRecDepth 100000
namespace Go.Am
abbrev qow:Nat:=9
abbrev qca:Nat:=120
abbrev qp0:Nat:=134
abbrev qcy:Nat:=135
abbrev yc:Nat:=106
abbrev ze:Nat:=128
abbrev zu:Nat:=129
abbrev jh:Nat:=127
abbrev zy:Nat:=126
abbrev vg:Nat:=139
abbrev kc:Nat:=140
abbrev wl:Nat:=137
abbrev zx:Nat:=141
abbrev zi:Nat:=131
abbrev xk:Nat:=133
abbrev xq:Nat:=132
abbrev xz:Nat:=119
abbrev z6:Nat:=130
abbrev zq:Nat:=136
abbrev qac:Nat:=138
abbrev T_int:Nat:=3
abbrev yd:Nat:=214
def qpz:List UInt8:=[0,1,2,2,3,3,3,3,4,4,4,4,4,4,4,4,5,5,5,5,5,5,5,5,5,5,5,5,5,5,5,5,6,6,6,6,6,6,6,6,6,6,6,6,6,6,6,6,6,6,6,6,6,6,6,6,6,6,6,6,6,6,6,6,7,7,7,7,7,7,7,7,7,7,7,7,7,7,7,7,7,7,7,7,7,7,7,7,7,7,7,7,7,7,7,7,7,7,7,7,7,7,7,7,7,7,7,7,7,7,7,7,7,7,7,7,7,7,7,7,7,7,7,7,7,7,7,7,8,8,8,8,8,8,8,8,8,8,8,8,8,8,8,8,8,8,8,8,8,8,8,8,8,8,8,8,8,8,8,8,8,8,8,8,8,8,8,8,8,8,8,8,8,8,8,8,8,8,8,8,8,8,8,8,8,8,8,8,8,8,8,8,8,8,8,8,8,8,8,8,8,8,8,8,8,8,8,8,8,8,8,8,8,8,8,8,8,8,8,8,8,8,8,8,8,8,8,8,8,8,8,8,8,8,8,8,8,8,8,8,8,8,8,8,8,8,8,8,8,8,8,8,8,8,8,8]
noncomputable section
open Go.Proofs Go.Proofs.Ytiibohocdbaekaa
class MK (M:Mac):Prop where
 ok:∀ n,memN n [9,20]=false->M.func n=(cProg Try.prog).func n
theorem MK.at {M:Mac} [h:MK M] {n:Nat} {F:AFunc} (hn:memN n [9,20]=false) (hF:(cProg Try.prog).func n=some F):M.func n=some F:=(h.ok n hn).trans hF
theorem callf {M:Mac} [h:MK M] {n:Nat} {F:AFunc} (hn:memN n [9,20]=false) {rs:List ARes} (hF:(cProg Try.prog).func n=some F/\F.results=rs) {ks:Kp} {vs:List AV} (hk:keepB 0 vs.length ks.keep=true) {H:AHeap} {Q:AEnd->AHeap->Prop} (hw:W M ⟨none,n⟩ (ks,part F.body 0) true (FIN3 M rs Q) (envA 0 vs) [] H):yz M n vs H Q:=calle (MK.at hn hF.1) hk (hF.2 ▸ hw)
variable {M:Mac} [MK M] {H:AHeap} {Q:AEnd->AHeap->Prop} {a0 a1 a2 a3 a4 a5:AV}
def qde:AFunc:=funcAt Try.prog yc
def qfg:Kp:=⟨[0,1,4],false,[0]⟩
def qfh (k:Nat):Kp × ACode:=(qfg,part qde.body k)
theorem qjh (M:Mac) (c:Ctx):(∀ Q E D H,W M c (qfh 0) true Q E D H =
 Lz E 0 fun g t0=>B3 g (Op.lenSl [t0]) fun g t6=>Ly g E 0 fun g t0_1=>B3 g ((Op.wrap .u64) [t6]) fun g t10=>C3 M g (.func qca) [t10] H fun g t11 H1=>Ly g E 1 fun g t1=>C3 M g (.func xz) [t0_1,(.int .i64 0),t6,t11,t1] H1 fun g t13 H2=>GO3 g Q .normal ((4,t6)::E) D H2):=by intro _ _ _ _;refine W_unf ?_;kernel_rfl
theorem qjf:(cProg Try.prog).func yc=some qde/\qde.results=[]:=zg (by kernel_rfl)
theorem qjg (h:W M ⟨none,yc⟩ (qfh 0) true (FIN3 M [] Q) [(0,a0),(1,a1)] [] H):yz M yc [a0,a1] H Q:=callf (by decide) qjf (ks:=qfg) (by kernel_rfl) h
def qbk:AFunc:=funcAt Try.prog xz
def qdr:Kp:=⟨[0,1,2,3,4,10,11,12,13,14,15,16,17,18,19,20],false,[0,6,9,17,25,33,35,45,55,65,69,73]⟩
def qg (k:Nat):Kp × ACode:=(qdr,part qbk.body k)
theorem vf (M:Mac) (c:Ctx):(∀ Q E D H,W M c (qg 0) true Q E D H =
 LOOP3 (W M c (qg 6)) (BLK3 0 Q) ((11,(.bool true))::(10,(.bool true))::E) D H) /\
 (∀ Q E D H,W M c (qg 6) true Q E D H =
  Lz E 2 fun g t2=>Ly g E 1 fun g t1=>Bn g .sub t2 t1 fun g t23=>W M c (qg 9) g (BLK3 1 Q) ((12,t23)::E) D H) /\
 (∀ Q E D H,W M c (qg 9) true Q E D H =
  Lz E 12 fun g t12=>Cb g .leq t12 (.int .i64 12) (fun g=>Ly g E 0 fun g t0=>Ly g E 1 fun g t1=>Ly g E 2 fun g t2=>Ly g E 4 fun g t4=>C3 M g (.func zy) [t0,t1,t2,t4] H fun g t30 H1=>GO3 g (SEQ3 (W M c (qg 17)) Q) .ret E D H1) (fun g=>Gt g M c (qg 17) Q E D H)) /\
 (∀ Q E D H,W M c (qg 17) true Q E D H =
  Lz E 3 fun g t3=>Cb g .eql t3 (.int .i64 0) (fun g=>Ly g E 0 fun g t0=>Ly g E 1 fun g t1=>Ly g E 2 fun g t2=>Ly g E 4 fun g t4=>C3 M g (.func jh) [t0,t1,t2,t4] H fun g t37 H1=>GO3 g (SEQ3 (W M c (qg 25)) Q) .ret E D H1) (fun g=>Gt g M c (qg 25) Q E D H)) /\
 (∀ Q E D H,W M c (qg 25) true Q E D H =
  Lz E 10 fun g t10=>B3 g ((Op.un .not) [t10]) fun g t39=>IF3 g t39 (fun g=>Ly g E 0 fun g t0=>Ly g E 1 fun g t1=>Ly g E 2 fun g t2=>Ly g E 4 fun g t4=>C3 M g (.func ze) [t0,t1,t2,t4] H fun g t44 H1=>Ly g E 3 fun g t3=>Bn g .sub t3 (.int .i64 1) fun g t46=>Gt g M c (qg 33) Q ((3,t46)::E) D H1) (fun g=>Gt g M c (qg 33) Q E D H)) /\
 (∀ Q E D H,W M c (qg 33) true Q E D H =
  Lz E 0 fun g t0=>Ly g E 1 fun g t1=>Ly g E 2 fun g t2=>Ly g E 4 fun g t4=>C3 M g (.func zu) [t0,t1,t2,t4] H fun g t52 H1=>B3 g ((Op.extract 0) [t52]) fun g t53=>B3 g ((Op.extract 1) [t52]) fun g t54=>W M c (qg 35) g Q ((14,t54)::(13,t53)::E) D H1) /\
 (∀ Q E D H,W M c (qg 35) true Q E D H =
  Lz E 14 fun g t14=>Cb g .eql t14 (.int .i64 2) (fun g=>Ly g E 0 fun g t0=>Ly g E 1 fun g t1=>Ly g E 2 fun g t2=>Ly g E 4 fun g t4=>C3 M g (.func z6) [t0,t1,t2,t4] H fun g t61 H1=>Ly g E 2 fun g t2_1=>Bn g .sub t2_1 (.int .i64 1) fun g t63=>Ly g E 13 fun g t13=>Ly g E 1 fun g t1_1=>Bn g .sub t13 t1_1 fun g t66=>Bn g .sub t63 t66 fun g t67=>Gt g M c (qg 45) Q ((14,(.int .i64 1))::(13,t67)::E) D H1) (fun g=>Gt g M c (qg 45) Q E D H)) /\
 (∀ Q E D H,W M c (qg 45) true Q E D H =
  Lz E 10 fun g t10=>JN (fun (k:Bool->AV->AHeap->Prop)=>B3 g (wantV true (some t10)) fun g w=>IG3 g w (fun g=>Ly g E 11 fun g t11=>k g t11 H) (fun g=>k g uu H)) (fun g t70_1 H1=>B3 g (Op.pick [t10,t70_1,(.bool false)]) fun g t71=>JN (fun (k:Bool->AV->AV->AHeap->Prop)=>B3 g (wantV true (some t71)) fun g w=>IG3 g w (fun g=>Ly g E 14 fun g t14=>Bn g .eql t14 (.int .i64 1) fun g t74=>k g t74 t14 H1) (fun g=>k g uu uu H1)) (fun g t74_1 t73_1 H2=>B3 g (Op.pick [t71,t74_1,(.bool false)]) fun g t75=>IF3 g t75 (fun g=>Ly g E 0 fun g t0=>Ly g E 1 fun g t1=>Ly g E 2 fun g t2=>Ly g E 4 fun g t4=>C3 M g (.func zi) [t0,t1,t2,t4] H2 fun g t80 H3=>IF3 g t80 (fun g=>GO3 g (SEQ3 (W M c (qg 55)) Q) .ret E D H3) (fun g=>Gt g M c (qg 55) Q E D H3)) (fun g=>Gt g M c (qg 55) Q E D H2)))) /\
 (∀ Q E D H,W M c (qg 55) true Q E D H =
  Lz E 1 fun g t1=>Bn g .gtr t1 (.int .i64 0) fun g t82=>JN (fun (k:Bool->AV->AV->AV->AV->AV->AV->AV->AV->AV->AV->AV->AV->AV->AHeap->Prop)=>B3 g (wantV true (some t82)) fun g w=>IG3 g w (fun g=>Ly g E 4 fun g t4=>Ly g E 0 fun g t0=>Bn g .sub t1 (.int .i64 1) fun g t87=>B3 g ((Op.indexSl 21) [t0,t87]) fun g t88=>B3 g ((Op.loadN 21) [t88] H) fun g t89=>Ly g E 13 fun g t13=>B3 g ((Op.indexSl 21) [t0,t13]) fun g t92=>B3 g ((Op.loadN 21) [t92] H) fun g t93=>V3 g [t4,t89,t93] fun g f vs=>C3 M g f vs H fun g t94 H1=>Bn g .lss t94 (.int .i64 0) fun g t95=>B3 g ((Op.un .not) [t95]) fun g t96=>k g t96 t95 t94 t93 t92 t13 t0 t89 t88 t87 t1 t0 t4 H1) (fun g=>k g uu uu uu uu uu uu uu uu uu uu uu uu uu H)) (fun g t96_1 t95_1 t94_1 t93_1 t92_1 t91_1 t90_1 t89_1 t88_1 t87_1 t86_1 t85_1 t84_1 H2=>B3 g (Op.pick [t82,t96_1,(.bool false)]) fun g t97=>IF3 g t97 (fun g=>Ly g E 0 fun g t0_1=>Ly g E 1 fun g t1_1=>Ly g E 2 fun g t2=>Ly g E 13 fun g t13_1=>Ly g E 4 fun g t4_1=>C3 M g (.func xq) [t0_1,t1_1,t2,t13_1,t4_1] H2 fun g t103 H3=>GO3 g (SEQ3 (W M c (qg 65)) Q) (.exit 1) ((1,t103)::(15,t103)::E) D H3) (fun g=>Gt g M c (qg 65) Q E D H2))) /\
 (∀ Q E D H,W M c (qg 65) true Q E D H =
  Lz E 0 fun g t0=>Ly g E 1 fun g t1=>Ly g E 2 fun g t2=>Ly g E 13 fun g t13=>Ly g E 4 fun g t4=>C3 M g (.func xk) [t0,t1,t2,t13,t4] H fun g t111 H1=>B3 g ((Op.extract 0) [t111]) fun g t112=>B3 g ((Op.extract 1) [t111]) fun g t113=>W M c (qg 69) g Q ((11,t113)::(17,t113)::(16,t112)::E) D H1) /\
 (∀ Q E D H,W M c (qg 69) true Q E D H =
  Lz E 16 fun g t16=>Ly g E 1 fun g t1=>Bn g .sub t16 t1 fun g t117=>Ly g E 2 fun g t2=>Bn g .sub t2 t16 fun g t120=>Ly g E 12 fun g t12=>Bn g .quo t12 (.int .i64 8) fun g t122=>W M c (qg 73) g Q ((20,t122)::(19,t120)::(18,t117)::E) D H) /\
 (∀ Q E D H,W M c (qg 73) true Q E D H =
  Lz E 18 fun g t18=>Ly g E 19 fun g t19=>Cb g .lss t18 t19 (fun g=>Ly g E 18 fun g t18_1=>Ly g E 20 fun g t20=>Bn g .geq t18_1 t20 fun g t128=>Ly g E 0 fun g t0=>Ly g E 1 fun g t1=>Ly g E 16 fun g t16=>Ly g E 3 fun g t3=>Ly g E 4 fun g t4=>C3 M g (.func xz) [t0,t1,t16,t3,t4] H fun g t134 H1=>Ly g E 16 fun g t16_1=>Bn g .add t16_1 (.int .i64 1) fun g t136=>GO3 g Q .normal ((1,t136)::(10,t128)::E) D H1) (fun g=>Ly g E 19 fun g t19_1=>Ly g E 20 fun g t20=>Bn g .geq t19_1 t20 fun g t139=>Ly g E 0 fun g t0=>Ly g E 16 fun g t16=>Bn g .add t16 (.int .i64 1) fun g t142=>Ly g E 2 fun g t2=>Ly g E 3 fun g t3=>Ly g E 4 fun g t4=>C3 M g (.func xz) [t0,t142,t2,t3,t4] H fun g t146 H1=>Ly g E 16 fun g t16_1=>GO3 g Q .normal ((2,t16_1)::(10,t139)::E) D H1)):=by (repeat' apply And.intro)<;>(intro _ _ _ _;refine W_unf ?_;kernel_rfl)
theorem qg0:(cProg Try.prog).func xz=some qbk/\qbk.results=[]:=zg (by kernel_rfl)
theorem qg1 (h:W M ⟨none,xz⟩ (qg 0) true (FIN3 M [] Q) [(0,a0),(1,a1),(2,a2),(3,a3),(4,a4)] [] H):yz M xz [a0,a1,a2,a3,a4] H Q:=callf (by decide) qg0 (ks:=qdr) (by kernel_rfl) h
def qi7:AFunc:=funcAt Try.prog qca
def qm9:Kp:=⟨[0,2],false,[0,8]⟩
def qfc (k:Nat):Kp × ACode:=(qm9,part qi7.body k)
theorem quh (M:Mac) (c:Ctx):(∀ Q E D H,W M c (qfc 0) true Q E D H =
 IF3 true (.bool false) (fun g=>Ly g E 0 fun g t0=>B3 g ((Op.wrap .u32) [t0]) fun g t4=>C3 M g (.func qp0) [t4] H fun g t5 H1=>GO3 g (SEQ3 (W M c (qfc 8)) Q) .ret ((2,t5)::(2,(.int .i64 0))::E) D H1) (fun g=>Gt g M c (qfc 8) Q ((2,(.int .i64 0))::E) D H)) /\
 (∀ Q E D H,W M c (qfc 8) true Q E D H =
  Lz E 0 fun g t0=>C3 M g (.func qcy) [t0] H fun g t7 H1=>GO3 g Q .ret ((2,t7)::E) D H1):=by (repeat' apply And.intro)<;>(intro _ _ _ _;refine W_unf ?_;kernel_rfl)
theorem quf:(cProg Try.prog).func qca=some qi7/\qi7.results=[.tmp 2]:=zg (by kernel_rfl)
theorem qug (h:W M ⟨none,qca⟩ (qfc 0) true (FIN3 M [.tmp 2] Q) [(0,a0)] [] H):yz M qca [a0] H Q:=callf (by decide) quf (ks:=qm9) (by kernel_rfl) h
def vw:AFunc:=funcAt Try.prog zy
def qcd:Kp:=⟨[0,1,2,3,8,9],false,[0,4,10,16,22,25,26]⟩
def qy (k:Nat):Kp × ACode:=(qcd,part vw.body k)
theorem qfo (M:Mac) (c:Ctx):(∀ Q E D H,W M c (qy 0) true Q E D H =
 Lz E 1 fun g t1=>Bn g .add t1 (.int .i64 1) fun g t11=>LOOP3 (W M c (qy 4)) (BLK3 0 Q) ((8,t11)::E) D H) /\
 (∀ Q E D H,W M c (qy 4) true Q E D H =
  Lz E 8 fun g t8=>Ly g E 2 fun g t2=>Cb g .lss t8 t2 (fun g=>Gt g M c (qy 10) Q E D H) (fun g=>GO3 g (SEQ3 (W M c (qy 10)) Q) (.exit 0) E D H)) /\
 (∀ Q E D H,W M c (qy 10) true Q E D H =
  Lz E 8 fun g t8=>LOOP3 (W M c (qy 16)) (BLK3 2 (BLK3 1 (SEQ3 (W M c (qy 26)) Q))) ((9,t8)::E) D H) /\
 (∀ Q E D H,W M c (qy 26) true Q E D H =
  Lz E 8 fun g t8=>Bn g .add t8 (.int .i64 1) fun g t16=>GO3 g Q .normal ((8,t16)::E) D H) /\
 (∀ Q E D H,W M c (qy 16) true Q E D H =
  Lz E 9 fun g t9=>Ly g E 1 fun g t1=>Bn g .gtr t9 t1 fun g t20=>JN (fun (k:Bool->AV->AV->AV->AV->AV->AV->AV->AV->AV->AV->AV->AV->AHeap->Prop)=>B3 g (wantV true (some t20)) fun g w=>IG3 g w (fun g=>Ly g E 3 fun g t3=>Ly g E 0 fun g t0=>B3 g ((Op.indexSl 21) [t0,t9]) fun g t25=>B3 g ((Op.loadN 21) [t25] H) fun g t26=>Bn g .sub t9 (.int .i64 1) fun g t29=>B3 g ((Op.indexSl 21) [t0,t29]) fun g t30=>B3 g ((Op.loadN 21) [t30] H) fun g t31=>V3 g [t3,t26,t31] fun g f vs=>C3 M g f vs H fun g t32 H1=>Bn g .lss t32 (.int .i64 0) fun g t33=>k g t33 t32 t31 t30 t29 t9 t0 t26 t25 t9 t0 t3 H1) (fun g=>k g uu uu uu uu uu uu uu uu uu uu uu uu H)) (fun g t33_1 t32_1 t31_1 t30_1 t29_1 t28_1 t27_1 t26_1 t25_1 t24_1 t23_1 t22_1 H2=>B3 g (Op.pick [t20,t33_1,(.bool false)]) fun g t34=>IF3 g t34 (fun g=>Gt g M c (qy 22) Q E D H2) (fun g=>GO3 g (SEQ3 (W M c (qy 22)) Q) (.exit 2) E D H2))) /\
 (∀ Q E D H,W M c (qy 22) true Q E D H =
  Lz E 0 fun g t0=>Ly g E 9 fun g t9=>Bn g .sub t9 (.int .i64 1) fun g t41=>Bn g .sub t9 (.int .i64 1) fun g t44=>B3 g ((Op.indexSl 21) [t0,t44]) fun g t45=>B3 g ((Op.loadN 21) [t45] H) fun g t46=>B3 g ((Op.indexSl 21) [t0,t9]) fun g t49=>B3 g ((Op.loadN 21) [t49] H) fun g t50=>B3 g ((Op.indexSl 21) [t0,t9]) fun g t51=>B32 g ((Op.store 21) [t51,t46] H) fun g u H1=>B3 g ((Op.indexSl 21) [t0,t41]) fun g t52=>B32 g ((Op.store 21) [t52,t50] H1) fun g u_1 H2=>GO3 g (BLK3 3 (SEQ3 (W M c (qy 25)) Q)) .normal E D H2) /\
 (∀ Q E D H,W M c (qy 25) true Q E D H =
  Lz E 9 fun g t9=>Bn g .sub t9 (.int .i64 1) fun g t36=>GO3 g Q .normal ((9,t36)::E) D H):=by (repeat' apply And.intro)<;>(intro _ _ _ _;refine W_unf ?_;kernel_rfl)
theorem qfm:(cProg Try.prog).func zy=some vw/\vw.results=[]:=zg (by kernel_rfl)
theorem qfn (h:W M ⟨none,zy⟩ (qy 0) true (FIN3 M [] Q) [(0,a0),(1,a1),(2,a2),(3,a3)] [] H):yz M zy [a0,a1,a2,a3] H Q:=callf (by decide) qfm (ks:=qcd) (by kernel_rfl) h
def qa3:AFunc:=funcAt Try.prog jh
def qdj:Kp:=⟨[0,1,2,3,8,9,10,11,12],false,[0,4,6,11,17,20,21,25,31,36]⟩
def qq (k:Nat):Kp × ACode:=(qdj,part qa3.body k)
theorem qgj (M:Mac) (c:Ctx):(∀ Q E D H,W M c (qq 0) true Q E D H =
 Lz E 1 fun g t1=>W M c (qq 4) g Q ((9,(.int .i64 0))::(8,t1)::E) D H) /\
 (∀ Q E D H,W M c (qq 4) true Q E D H =
  Lz E 2 fun g t2=>Ly g E 1 fun g t1=>Bn g .sub t2 t1 fun g t16=>W M c (qq 6) g Q ((10,t16)::E) D H) /\
 (∀ Q E D H,W M c (qq 6) true Q E D H =
  Lz E 10 fun g t10=>Bn g .sub t10 (.int .i64 1) fun g t18=>Bn g .quo t18 (.int .i64 2) fun g t19=>LOOP3 (W M c (qq 11)) (BLK3 0 (SEQ3 (W M c (qq 21)) Q)) ((11,t19)::E) D H) /\
 (∀ Q E D H,W M c (qq 21) true Q E D H =
  Lz E 10 fun g t10=>Bn g .sub t10 (.int .i64 1) fun g t31=>LOOP3 (W M c (qq 25)) (BLK3 2 Q) ((12,t31)::E) D H) /\
 (∀ Q E D H,W M c (qq 11) true Q E D H =
  Lz E 11 fun g t11=>Cb g .geq t11 (.int .i64 0) (fun g=>Gt g M c (qq 17) Q E D H) (fun g=>GO3 g (SEQ3 (W M c (qq 17)) Q) (.exit 0) E D H)) /\
 (∀ Q E D H,W M c (qq 25) true Q E D H =
  Lz E 12 fun g t12=>Cb g .geq t12 (.int .i64 0) (fun g=>Gt g M c (qq 31) Q E D H) (fun g=>GO3 g (SEQ3 (W M c (qq 31)) Q) (.exit 2) E D H)) /\
 (∀ Q E D H,W M c (qq 17) true Q E D H =
  Lz E 0 fun g t0=>Ly g E 11 fun g t11=>Ly g E 10 fun g t10=>Ly g E 8 fun g t8=>Ly g E 3 fun g t3=>C3 M g (.func zq) [t0,t11,t10,t8,t3] H fun g t29 H1=>GO3 g (BLK3 1 (SEQ3 (W M c (qq 20)) Q)) .normal E D H1) /\
 (∀ Q E D H,W M c (qq 31) true Q E D H =
  Lz E 0 fun g t0=>Ly g E 8 fun g t8=>Ly g E 12 fun g t12=>Bn g .add t8 t12 fun g t41=>Bn g .add t8 t12 fun g t45=>B3 g ((Op.indexSl 21) [t0,t45]) fun g t46=>B3 g ((Op.loadN 21) [t46] H) fun g t47=>B3 g ((Op.indexSl 21) [t0,t8]) fun g t50=>B3 g ((Op.loadN 21) [t50] H) fun g t51=>B3 g ((Op.indexSl 21) [t0,t8]) fun g t52=>B32 g ((Op.store 21) [t52,t47] H) fun g u H1=>B3 g ((Op.indexSl 21) [t0,t41]) fun g t53=>B32 g ((Op.store 21) [t53,t51] H1) fun g u_1 H2=>Ly g E 0 fun g t0_1=>Ly g E 9 fun g t9=>Ly g E 12 fun g t12_1=>Ly g E 8 fun g t8_1=>Ly g E 3 fun g t3=>C3 M g (.func zq) [t0_1,t9,t12_1,t8_1,t3] H2 fun g t59 H3=>GO3 g (BLK3 3 (SEQ3 (W M c (qq 36)) Q)) .normal E D H3) /\
 (∀ Q E D H,W M c (qq 20) true Q E D H =
  Lz E 11 fun g t11=>Bn g .sub t11 (.int .i64 1) fun g t23=>GO3 g Q .normal ((11,t23)::E) D H) /\
 (∀ Q E D H,W M c (qq 36) true Q E D H =
  Lz E 12 fun g t12=>Bn g .sub t12 (.int .i64 1) fun g t35=>GO3 g Q .normal ((12,t35)::E) D H):=by (repeat' apply And.intro)<;>(intro _ _ _ _;refine W_unf ?_;kernel_rfl)
theorem qgh:(cProg Try.prog).func jh=some qa3/\qa3.results=[]:=zg (by kernel_rfl)
theorem qgi (h:W M ⟨none,jh⟩ (qq 0) true (FIN3 M [] Q) [(0,a0),(1,a1),(2,a2),(3,a3)] [] H):yz M jh [a0,a1,a2,a3] H Q:=callf (by decide) qgh (ks:=qdj) (by kernel_rfl) h
def vv:AFunc:=funcAt Try.prog ze
def qcc:Kp:=⟨[0,1,2,3,8,9,10,11,12],false,[0,5,9,13,19,23,29,30]⟩
def qp (k:Nat):Kp × ACode:=(qcc,part vv.body k)
theorem qfl (M:Mac) (c:Ctx):(∀ Q E D H,W M c (qp 0) true Q E D H =
 Lz E 2 fun g t2=>Ly g E 1 fun g t1=>Bn g .sub t2 t1 fun g t15=>Cb g .geq t15 (.int .i64 8) (fun g=>W M c (qp 5) g Q ((8,t15)::E) D H) (fun g=>GO3 g Q .normal ((8,t15)::E) D H)) /\
 (∀ Q E D H,W M c (qp 5) true Q E D H =
  Lz E 8 fun g t8=>B3 g ((Op.wrap .u64) [t8]) fun g t19=>A3 g yd [(.int .u64 0)] H fun g t9 H1=>B32 g ((Op.store 1) [t9,t19] H1) fun g u H2=>Ly g E 8 fun g t8_1=>C3 M g (.func wl) [t8_1] H2 fun g t21 H3=>W M c (qp 9) g Q ((10,t21)::(9,t9)::E) D H3) /\
 (∀ Q E D H,W M c (qp 9) true Q E D H =
  Lz E 1 fun g t1=>Ly g E 8 fun g t8=>Bn g .quo t8 (.int .i64 4) fun g t24=>Bn g .mul t24 (.int .i64 2) fun g t25=>Bn g .add t1 t25 fun g t26=>Bn g .sub t26 (.int .i64 1) fun g t27=>LOOP3 (W M c (qp 13)) (BLK3 0 Q) ((11,t27)::E) D H) /\
 (∀ Q E D H,W M c (qp 13) true Q E D H =
  Lz E 11 fun g t11=>Ly g E 1 fun g t1=>Ly g E 8 fun g t8=>Bn g .quo t8 (.int .i64 4) fun g t31=>Bn g .mul t31 (.int .i64 2) fun g t32=>Bn g .add t1 t32 fun g t33=>Bn g .add t33 (.int .i64 1) fun g t34=>Cb g .leq t11 t34 (fun g=>Gt g M c (qp 19) Q E D H) (fun g=>GO3 g (SEQ3 (W M c (qp 19)) Q) (.exit 0) E D H)) /\
 (∀ Q E D H,W M c (qp 19) true Q E D H =
  Lz E 9 fun g t9=>C3 M g (.func qac) [t9] H fun g t38 H1=>Ly g E 10 fun g t10=>Bn g .sub t10 (.int .u64 1) fun g t40=>Bn g .and t38 t40 fun g t41=>B3 g ((Op.wrap .i64) [t41]) fun g t42=>W M c (qp 23) g (BLK3 1 (SEQ3 (W M c (qp 30)) Q)) ((12,t42)::E) D H1) /\
 (∀ Q E D H,W M c (qp 30) true Q E D H =
  Lz E 11 fun g t11=>Bn g .add t11 (.int .i64 1) fun g t37=>GO3 g Q .normal ((11,t37)::E) D H) /\
 (∀ Q E D H,W M c (qp 23) true Q E D H =
  Lz E 12 fun g t12=>Ly g E 8 fun g t8=>Cb g .geq t12 t8 (fun g=>Ly g E 12 fun g t12_1=>Ly g E 8 fun g t8_1=>Bn g .sub t12_1 t8_1 fun g t48=>Gt g M c (qp 29) Q ((12,t48)::E) D H) (fun g=>Gt g M c (qp 29) Q E D H)) /\
 (∀ Q E D H,W M c (qp 29) true Q E D H =
  Lz E 0 fun g t0=>Ly g E 11 fun g t11=>Ly g E 1 fun g t1=>Ly g E 12 fun g t12=>Bn g .add t1 t12 fun g t54=>Bn g .add t1 t12 fun g t58=>B3 g ((Op.indexSl 21) [t0,t58]) fun g t59=>B3 g ((Op.loadN 21) [t59] H) fun g t60=>B3 g ((Op.indexSl 21) [t0,t11]) fun g t63=>B3 g ((Op.loadN 21) [t63] H) fun g t64=>B3 g ((Op.indexSl 21) [t0,t11]) fun g t65=>B32 g ((Op.store 21) [t65,t60] H) fun g u H1=>B3 g ((Op.indexSl 21) [t0,t54]) fun g t66=>B32 g ((Op.store 21) [t66,t64] H1) fun g u_1 H2=>GO3 g Q .normal E D H2):=by (repeat' apply And.intro)<;>(intro _ _ _ _;refine W_unf ?_;kernel_rfl)
theorem qfj:(cProg Try.prog).func ze=some vv/\vv.results=[]:=zg (by kernel_rfl)
theorem qfk (h:W M ⟨none,ze⟩ (qp 0) true (FIN3 M [] Q) [(0,a0),(1,a1),(2,a2),(3,a3)] [] H):yz M ze [a0,a1,a2,a3] H Q:=callf (by decide) qfj (ks:=qcc) (by kernel_rfl) h
def wy:AFunc:=funcAt Try.prog zu
def qcr:Kp:=⟨[0,1,2,3,8,9,10,11,12,13,14,55],false,[0,4,8,12,16,26,28]⟩
def qx (k:Nat):Kp × ACode:=(qcr,part wy.body k)
theorem qf2 (M:Mac) (c:Ctx):(∀ Q E D H,W M c (qx 0) true Q E D H =
 Lz E 2 fun g t2=>Ly g E 1 fun g t1=>Bn g .sub t2 t1 fun g t17=>W M c (qx 4) g Q ((10,t17)::(9,(.int .i64 0))::(8,(.int .i64 0))::E) D H) /\
 (∀ Q E D H,W M c (qx 4) true Q E D H =
  A3 true T_int [(.int .i64 0)] H fun g t11 H1=>Ly g E 1 fun g t1=>Ly g E 10 fun g t10=>Bn g .quo t10 (.int .i64 4) fun g t20=>Bn g .mul t20 (.int .i64 1) fun g t21=>Bn g .add t1 t21 fun g t22=>W M c (qx 8) g Q ((12,t22)::(11,t11)::E) D H1) /\
 (∀ Q E D H,W M c (qx 8) true Q E D H =
  Lz E 1 fun g t1=>Ly g E 10 fun g t10=>Bn g .quo t10 (.int .i64 4) fun g t25=>Bn g .mul t25 (.int .i64 2) fun g t26=>Bn g .add t1 t26 fun g t27=>Ly g E 1 fun g t1_1=>Ly g E 10 fun g t10_1=>Bn g .quo t10_1 (.int .i64 4) fun g t30=>Bn g .mul t30 (.int .i64 3) fun g t31=>Bn g .add t1_1 t31 fun g t32=>W M c (qx 12) g Q ((14,t32)::(13,t27)::E) D H) /\
 (∀ Q E D H,W M c (qx 12) true Q E D H =
  Lz E 10 fun g t10=>Cb g .geq t10 (.int .i64 8) (fun g=>W M c (qx 16) g (SEQ3 (W M c (qx 28)) Q) E D H) (fun g=>Gt g M c (qx 28) Q E D H)) /\
 (∀ Q E D H,W M c (qx 28) true Q E D H =
  Lz E 11 fun g t11=>B3 g (Op.load1 [t11] H) fun g t55=>Cb g .eql t55 (.int .i64 0) (fun g=>Ly g E 13 fun g t13=>GO3 g (BLK3 0 Q) .ret ((9,(.int .i64 1))::(8,t13)::(55,t55)::E) D H) (fun g=>Cb g .eql t55 (.int .i64 12) (fun g=>Ly g E 13 fun g t13=>GO3 g (BLK3 0 Q) .ret ((9,(.int .i64 2))::(8,t13)::(55,t55)::E) D H) (fun g=>Ly g E 13 fun g t13=>GO3 g (BLK3 0 Q) .ret ((9,(.int .i64 0))::(8,t13)::(55,t55)::E) D H))) /\
 (∀ Q E D H,W M c (qx 16) true Q E D H =
  Lz E 10 fun g t10=>Cb g .geq t10 (.int .i64 50) (fun g=>Ly g E 0 fun g t0=>Ly g E 12 fun g t12=>Ly g E 3 fun g t3=>Ly g E 11 fun g t11=>C3 M g (.func vg) [t0,t12,t11,t3] H fun g t40 H1=>Ly g E 0 fun g t0_1=>Ly g E 13 fun g t13=>Ly g E 3 fun g t3_1=>Ly g E 11 fun g t11_1=>C3 M g (.func vg) [t0_1,t13,t11_1,t3_1] H1 fun g t44 H2=>Ly g E 0 fun g t0_2=>Ly g E 14 fun g t14=>Ly g E 3 fun g t3_2=>Ly g E 11 fun g t11_2=>C3 M g (.func vg) [t0_2,t14,t11_2,t3_2] H2 fun g t48 H3=>Gt g M c (qx 26) Q ((14,t48)::(13,t44)::(12,t40)::E) D H3) (fun g=>Gt g M c (qx 26) Q E D H)) /\
 (∀ Q E D H,W M c (qx 26) true Q E D H =
  Lz E 0 fun g t0=>Ly g E 12 fun g t12=>Ly g E 13 fun g t13=>Ly g E 14 fun g t14=>Ly g E 3 fun g t3=>Ly g E 11 fun g t11=>C3 M g (.func kc) [t0,t12,t13,t14,t11,t3] H fun g t54 H1=>GO3 g Q .normal ((13,t54)::E) D H1):=by (repeat' apply And.intro)<;>(intro _ _ _ _;refine W_unf ?_;kernel_rfl)
theorem qf0:(cProg Try.prog).func zu=some wy/\wy.results=[.tmp 8,.tmp 9]:=zg (by kernel_rfl)
theorem qf1 (h:W M ⟨none,zu⟩ (qx 0) true (FIN3 M [.tmp 8,.tmp 9] Q) [(0,a0),(1,a1),(2,a2),(3,a3)] [] H):yz M zu [a0,a1,a2,a3] H Q:=callf (by decide) qf0 (ks:=qcr) (by kernel_rfl) h
def wq:AFunc:=funcAt Try.prog z6
def qch:Kp:=⟨[0,1,2,3,8,9],false,[0,6,12]⟩
def z7 (k:Nat):Kp × ACode:=(qch,part wq.body k)
theorem qfz (M:Mac) (c:Ctx):(∀ Q E D H,W M c (z7 0) true Q E D H =
 Lz E 1 fun g t1=>Ly g E 2 fun g t2=>Bn g .sub t2 (.int .i64 1) fun g t12=>LOOP3 (W M c (z7 6)) (BLK3 0 Q) ((9,t12)::(8,t1)::E) D H) /\
 (∀ Q E D H,W M c (z7 6) true Q E D H =
  Lz E 8 fun g t8=>Ly g E 9 fun g t9=>Cb g .lss t8 t9 (fun g=>Gt g M c (z7 12) Q E D H) (fun g=>GO3 g (SEQ3 (W M c (z7 12)) Q) (.exit 0) E D H)) /\
 (∀ Q E D H,W M c (z7 12) true Q E D H =
  Lz E 0 fun g t0=>Ly g E 8 fun g t8=>Ly g E 9 fun g t9=>B3 g ((Op.indexSl 21) [t0,t9]) fun g t22=>B3 g ((Op.loadN 21) [t22] H) fun g t23=>B3 g ((Op.indexSl 21) [t0,t8]) fun g t26=>B3 g ((Op.loadN 21) [t26] H) fun g t27=>B3 g ((Op.indexSl 21) [t0,t8]) fun g t28=>B32 g ((Op.store 21) [t28,t23] H) fun g u H1=>B3 g ((Op.indexSl 21) [t0,t9]) fun g t29=>B32 g ((Op.store 21) [t29,t27] H1) fun g u_1 H2=>Ly g E 8 fun g t8_1=>Bn g .add t8_1 (.int .i64 1) fun g t31=>Ly g E 9 fun g t9_1=>Bn g .sub t9_1 (.int .i64 1) fun g t33=>GO3 g (BLK3 1 Q) .normal ((9,t33)::(8,t31)::E) D H2):=by (repeat' apply And.intro)<;>(intro _ _ _ _;refine W_unf ?_;kernel_rfl)
theorem qfx:(cProg Try.prog).func z6=some wq/\wq.results=[]:=zg (by kernel_rfl)
theorem qfy (h:W M ⟨none,z6⟩ (z7 0) true (FIN3 M [] Q) [(0,a0),(1,a1),(2,a2),(3,a3)] [] H):yz M z6 [a0,a1,a2,a3] H Q:=callf (by decide) qfx (ks:=qch) (by kernel_rfl) h
def ky:AFunc:=funcAt Try.prog zi
def qap:Kp:=⟨[0,1,2,3,8,9,10,11,12],false,[0,4,9,15,20,26,28,36,44,46,54,60,68,69,71,78,84,92,93,95,96]⟩
def qc (k:Nat):Kp × ACode:=(qap,part ky.body k)
theorem qd3 (M:Mac) (c:Ctx):(∀ Q E D H,W M c (qc 0) true Q E D H =
 Lz E 1 fun g t1=>Bn g .add t1 (.int .i64 1) fun g t14=>W M c (qc 4) g Q ((9,t14)::(8,(.bool false))::E) D H) /\
 (∀ Q E D H,W M c (qc 4) true Q E D H =
  LOOP3 (W M c (qc 9)) (BLK3 0 (SEQ3 (W M c (qc 96)) Q)) ((10,(.int .i64 0))::E) D H) /\
 (∀ Q E D H,W M c (qc 96) true Q E D H =
  GO3 true Q .ret ((8,(.bool false))::E) D H) /\
 (∀ Q E D H,W M c (qc 9) true Q E D H =
  Lz E 10 fun g t10=>Cb g .lss t10 (.int .i64 5) (fun g=>Gt g M c (qc 15) Q E D H) (fun g=>GO3 g (SEQ3 (W M c (qc 15)) Q) (.exit 0) E D H)) /\
 (∀ Q E D H,W M c (qc 15) true Q E D H =
  LOOP3 (W M c (qc 20)) (BLK3 2 (SEQ3 (W M c (qc 28)) (BLK3 1 (SEQ3 (W M c (qc 95)) Q)))) E D H) /\
 (∀ Q E D H,W M c (qc 95) true Q E D H =
  Lz E 10 fun g t10=>Bn g .add t10 (.int .i64 1) fun g t18=>GO3 g Q .normal ((10,t18)::E) D H) /\
 (∀ Q E D H,W M c (qc 28) true Q E D H =
  Lz E 9 fun g t9=>Ly g E 2 fun g t2=>Cb g .eql t9 t2 (fun g=>GO3 g (SEQ3 (W M c (qc 36)) Q) .ret ((8,(.bool true))::E) D H) (fun g=>Gt g M c (qc 36) Q E D H)) /\
 (∀ Q E D H,W M c (qc 20) true Q E D H =
  Lz E 9 fun g t9=>Ly g E 2 fun g t2=>Bn g .lss t9 t2 fun g t21=>JN (fun (k:Bool->AV->AV->AV->AV->AV->AV->AV->AV->AV->AV->AV->AV->AV->AHeap->Prop)=>B3 g (wantV true (some t21)) fun g w=>IG3 g w (fun g=>Ly g E 3 fun g t3=>Ly g E 0 fun g t0=>B3 g ((Op.indexSl 21) [t0,t9]) fun g t26=>B3 g ((Op.loadN 21) [t26] H) fun g t27=>Bn g .sub t9 (.int .i64 1) fun g t30=>B3 g ((Op.indexSl 21) [t0,t30]) fun g t31=>B3 g ((Op.loadN 21) [t31] H) fun g t32=>V3 g [t3,t27,t32] fun g f vs=>C3 M g f vs H fun g t33 H1=>Bn g .lss t33 (.int .i64 0) fun g t34=>B3 g ((Op.un .not) [t34]) fun g t35=>k g t35 t34 t33 t32 t31 t30 t9 t0 t27 t26 t9 t0 t3 H1) (fun g=>k g uu uu uu uu uu uu uu uu uu uu uu uu uu H)) (fun g t35_1 t34_1 t33_1 t32_1 t31_1 t30_1 t29_1 t28_1 t27_1 t26_1 t25_1 t24_1 t23_1 H2=>B3 g (Op.pick [t21,t35_1,(.bool false)]) fun g t36=>IF3 g t36 (fun g=>Gt g M c (qc 26) Q E D H2) (fun g=>GO3 g (SEQ3 (W M c (qc 26)) Q) (.exit 2) E D H2))) /\
 (∀ Q E D H,W M c (qc 36) true Q E D H =
  Lz E 2 fun g t2=>Ly g E 1 fun g t1=>Bn g .sub t2 t1 fun g t44=>Cb g .lss t44 (.int .i64 50) (fun g=>GO3 g (SEQ3 (W M c (qc 44)) Q) .ret ((8,(.bool false))::E) D H) (fun g=>Gt g M c (qc 44) Q E D H)) /\
 (∀ Q E D H,W M c (qc 26) true Q E D H =
  Lz E 9 fun g t9=>Bn g .add t9 (.int .i64 1) fun g t38=>GO3 g (BLK3 3 Q) .normal ((9,t38)::E) D H) /\
 (∀ Q E D H,W M c (qc 44) true Q E D H =
  Lz E 0 fun g t0=>Ly g E 9 fun g t9=>Bn g .sub t9 (.int .i64 1) fun g t50=>Bn g .sub t9 (.int .i64 1) fun g t53=>B3 g ((Op.indexSl 21) [t0,t53]) fun g t54=>B3 g ((Op.loadN 21) [t54] H) fun g t55=>B3 g ((Op.indexSl 21) [t0,t9]) fun g t58=>B3 g ((Op.loadN 21) [t58] H) fun g t59=>B3 g ((Op.indexSl 21) [t0,t9]) fun g t60=>B32 g ((Op.store 21) [t60,t55] H) fun g u H1=>B3 g ((Op.indexSl 21) [t0,t50]) fun g t61=>B32 g ((Op.store 21) [t61,t59] H1) fun g u_1 H2=>W M c (qc 46) g Q E D H2) /\
 (∀ Q E D H,W M c (qc 46) true Q E D H =
  Lz E 9 fun g t9=>Ly g E 1 fun g t1=>Bn g .sub t9 t1 fun g t64=>Cb g .geq t64 (.int .i64 2) (fun g=>Ly g E 9 fun g t9_1=>Bn g .sub t9_1 (.int .i64 1) fun g t67=>LOOP3 (W M c (qc 54)) (BLK3 4 (SEQ3 (W M c (qc 71)) Q)) ((11,t67)::E) D H) (fun g=>Gt g M c (qc 71) Q E D H)) /\
 (∀ Q E D H,W M c (qc 71) true Q E D H =
  Lz E 2 fun g t2=>Ly g E 9 fun g t9=>Bn g .sub t2 t9 fun g t103=>Cb g .geq t103 (.int .i64 2) (fun g=>Ly g E 9 fun g t9_1=>Bn g .add t9_1 (.int .i64 1) fun g t106=>LOOP3 (W M c (qc 78)) (BLK3 6 Q) ((12,t106)::E) D H) (fun g=>GO3 g Q .normal E D H)) /\
 (∀ Q E D H,W M c (qc 54) true Q E D H =
  Lz E 11 fun g t11=>Cb g .geq t11 (.int .i64 1) (fun g=>Gt g M c (qc 60) Q E D H) (fun g=>GO3 g (SEQ3 (W M c (qc 60)) Q) (.exit 4) E D H)) /\
 (∀ Q E D H,W M c (qc 78) true Q E D H =
  Lz E 12 fun g t12=>Ly g E 2 fun g t2=>Cb g .lss t12 t2 (fun g=>Gt g M c (qc 84) Q E D H) (fun g=>GO3 g (SEQ3 (W M c (qc 84)) Q) (.exit 6) E D H)) /\
 (∀ Q E D H,W M c (qc 60) true Q E D H =
  Lz E 3 fun g t3=>Ly g E 0 fun g t0=>Ly g E 11 fun g t11=>B3 g ((Op.indexSl 21) [t0,t11]) fun g t75=>B3 g ((Op.loadN 21) [t75] H) fun g t76=>Bn g .sub t11 (.int .i64 1) fun g t79=>B3 g ((Op.indexSl 21) [t0,t79]) fun g t80=>B3 g ((Op.loadN 21) [t80] H) fun g t81=>V3 g [t3,t76,t81] fun g f vs=>C3 M g f vs H fun g t82 H1=>Bn g .lss t82 (.int .i64 0) fun g t83=>B3 g ((Op.un .not) [t83]) fun g t84=>IF3 g t84 (fun g=>GO3 g (SEQ3 (W M c (qc 68)) (BLK3 5 (SEQ3 (W M c (qc 69)) Q))) (.exit 4) E D H1) (fun g=>Gt g M c (qc 68) (BLK3 5 (SEQ3 (W M c (qc 69)) Q)) E D H1)) /\
 (∀ Q E D H,W M c (qc 84) true Q E D H =
  Lz E 3 fun g t3=>Ly g E 0 fun g t0=>Ly g E 12 fun g t12=>B3 g ((Op.indexSl 21) [t0,t12]) fun g t115=>B3 g ((Op.loadN 21) [t115] H) fun g t116=>Bn g .sub t12 (.int .i64 1) fun g t119=>B3 g ((Op.indexSl 21) [t0,t119]) fun g t120=>B3 g ((Op.loadN 21) [t120] H) fun g t121=>V3 g [t3,t116,t121] fun g f vs=>C3 M g f vs H fun g t122 H1=>Bn g .lss t122 (.int .i64 0) fun g t123=>B3 g ((Op.un .not) [t123]) fun g t124=>IF3 g t124 (fun g=>GO3 g (SEQ3 (W M c (qc 92)) (BLK3 7 (SEQ3 (W M c (qc 93)) Q))) (.exit 6) E D H1) (fun g=>Gt g M c (qc 92) (BLK3 7 (SEQ3 (W M c (qc 93)) Q)) E D H1)) /\
 (∀ Q E D H,W M c (qc 69) true Q E D H =
  Lz E 11 fun g t11=>Bn g .sub t11 (.int .i64 1) fun g t71=>GO3 g Q .normal ((11,t71)::E) D H) /\
 (∀ Q E D H,W M c (qc 68) true Q E D H =
  Lz E 0 fun g t0=>Ly g E 11 fun g t11=>Bn g .sub t11 (.int .i64 1) fun g t89=>Bn g .sub t11 (.int .i64 1) fun g t92=>B3 g ((Op.indexSl 21) [t0,t92]) fun g t93=>B3 g ((Op.loadN 21) [t93] H) fun g t94=>B3 g ((Op.indexSl 21) [t0,t11]) fun g t97=>B3 g ((Op.loadN 21) [t97] H) fun g t98=>B3 g ((Op.indexSl 21) [t0,t11]) fun g t99=>B32 g ((Op.store 21) [t99,t94] H) fun g u H1=>B3 g ((Op.indexSl 21) [t0,t89]) fun g t100=>B32 g ((Op.store 21) [t100,t98] H1) fun g u_1 H2=>GO3 g Q .normal E D H2) /\
 (∀ Q E D H,W M c (qc 93) true Q E D H =
  Lz E 12 fun g t12=>Bn g .add t12 (.int .i64 1) fun g t111=>GO3 g Q .normal ((12,t111)::E) D H) /\
 (∀ Q E D H,W M c (qc 92) true Q E D H =
  Lz E 0 fun g t0=>Ly g E 12 fun g t12=>Bn g .sub t12 (.int .i64 1) fun g t129=>Bn g .sub t12 (.int .i64 1) fun g t132=>B3 g ((Op.indexSl 21) [t0,t132]) fun g t133=>B3 g ((Op.loadN 21) [t133] H) fun g t134=>B3 g ((Op.indexSl 21) [t0,t12]) fun g t137=>B3 g ((Op.loadN 21) [t137] H) fun g t138=>B3 g ((Op.indexSl 21) [t0,t12]) fun g t139=>B32 g ((Op.store 21) [t139,t134] H) fun g u H1=>B3 g ((Op.indexSl 21) [t0,t129]) fun g t140=>B32 g ((Op.store 21) [t140,t138] H1) fun g u_1 H2=>GO3 g Q .normal E D H2):=by (repeat' apply And.intro)<;>(intro _ _ _ _;refine W_unf ?_;kernel_rfl)
theorem qd1:(cProg Try.prog).func zi=some ky/\ky.results=[.tmp 8]:=zg (by kernel_rfl)
theorem qd2 (h:W M ⟨none,zi⟩ (qc 0) true (FIN3 M [.tmp 8] Q) [(0,a0),(1,a1),(2,a2),(3,a3)] [] H):yz M zi [a0,a1,a2,a3] H Q:=callf (by decide) qd1 (ks:=qap) (by kernel_rfl) h
def vh:AFunc:=funcAt Try.prog xq
def qb4:Kp:=⟨[0,1,2,3,4,10,11,12],false,[0,4,6,9,13,19,21,24,30,32,38,43]⟩
def qh (k:Nat):Kp × ACode:=(qb4,part vh.body k)
theorem vk (M:Mac) (c:Ctx):(∀ Q E D H,W M c (qh 0) true Q E D H =
 Lz E 0 fun g t0=>Ly g E 1 fun g t1=>Ly g E 3 fun g t3=>B3 g ((Op.indexSl 21) [t0,t3]) fun g t19=>B3 g ((Op.loadN 21) [t19] H) fun g t20=>B3 g ((Op.indexSl 21) [t0,t1]) fun g t23=>B3 g ((Op.loadN 21) [t23] H) fun g t24=>B3 g ((Op.indexSl 21) [t0,t1]) fun g t25=>B32 g ((Op.store 21) [t25,t20] H) fun g u H1=>B3 g ((Op.indexSl 21) [t0,t3]) fun g t26=>B32 g ((Op.store 21) [t26,t24] H1) fun g u_1 H2=>W M c (qh 4) g Q ((10,(.int .i64 0))::E) D H2) /\
 (∀ Q E D H,W M c (qh 4) true Q E D H =
  Lz E 1 fun g t1=>Bn g .add t1 (.int .i64 1) fun g t28=>Ly g E 2 fun g t2=>Bn g .sub t2 (.int .i64 1) fun g t30=>W M c (qh 6) g Q ((12,t30)::(11,t28)::E) D H) /\
 (∀ Q E D H,W M c (qh 6) true Q E D H =
  LOOP3 (W M c (qh 9)) (BLK3 0 (SEQ3 (W M c (qh 43)) Q)) E D H) /\
 (∀ Q E D H,W M c (qh 43) true Q E D H =
  Lz E 11 fun g t11=>GO3 g Q .ret ((10,t11)::E) D H) /\
 (∀ Q E D H,W M c (qh 9) true Q E D H =
  LOOP3 (W M c (qh 13)) (BLK3 2 (SEQ3 (W M c (qh 21)) (BLK3 1 Q))) E D H) /\
 (∀ Q E D H,W M c (qh 21) true Q E D H =
  LOOP3 (W M c (qh 24)) (BLK3 4 (SEQ3 (W M c (qh 32)) Q)) E D H) /\
 (∀ Q E D H,W M c (qh 13) true Q E D H =
  Lz E 11 fun g t11=>Ly g E 12 fun g t12=>Bn g .leq t11 t12 fun g t33=>JN (fun (k:Bool->AV->AV->AV->AV->AV->AV->AV->AV->AV->AV->AV->AV->AHeap->Prop)=>B3 g (wantV true (some t33)) fun g w=>IG3 g w (fun g=>Ly g E 4 fun g t4=>Ly g E 0 fun g t0=>Ly g E 1 fun g t1=>B3 g ((Op.indexSl 21) [t0,t1]) fun g t38=>B3 g ((Op.loadN 21) [t38] H) fun g t39=>B3 g ((Op.indexSl 21) [t0,t11]) fun g t42=>B3 g ((Op.loadN 21) [t42] H) fun g t43=>V3 g [t4,t39,t43] fun g f vs=>C3 M g f vs H fun g t44 H1=>Bn g .lss t44 (.int .i64 0) fun g t45=>B3 g ((Op.un .not) [t45]) fun g t46=>k g t46 t45 t44 t43 t42 t11 t0 t39 t38 t1 t0 t4 H1) (fun g=>k g uu uu uu uu uu uu uu uu uu uu uu uu H)) (fun g t46_1 t45_1 t44_1 t43_1 t42_1 t41_1 t40_1 t39_1 t38_1 t37_1 t36_1 t35_1 H2=>B3 g (Op.pick [t33,t46_1,(.bool false)]) fun g t47=>IF3 g t47 (fun g=>Gt g M c (qh 19) Q E D H2) (fun g=>GO3 g (SEQ3 (W M c (qh 19)) Q) (.exit 2) E D H2))) /\
 (∀ Q E D H,W M c (qh 32) true Q E D H =
  Lz E 11 fun g t11=>Ly g E 12 fun g t12=>Cb g .gtr t11 t12 (fun g=>GO3 g (SEQ3 (W M c (qh 38)) Q) (.exit 0) E D H) (fun g=>Gt g M c (qh 38) Q E D H)) /\
 (∀ Q E D H,W M c (qh 24) true Q E D H =
  Lz E 11 fun g t11=>Ly g E 12 fun g t12=>Bn g .leq t11 t12 fun g t52=>JN (fun (k:Bool->AV->AV->AV->AV->AV->AV->AV->AV->AV->AV->AV->AHeap->Prop)=>B3 g (wantV true (some t52)) fun g w=>IG3 g w (fun g=>Ly g E 4 fun g t4=>Ly g E 0 fun g t0=>Ly g E 1 fun g t1=>B3 g ((Op.indexSl 21) [t0,t1]) fun g t57=>B3 g ((Op.loadN 21) [t57] H) fun g t58=>B3 g ((Op.indexSl 21) [t0,t12]) fun g t61=>B3 g ((Op.loadN 21) [t61] H) fun g t62=>V3 g [t4,t58,t62] fun g f vs=>C3 M g f vs H fun g t63 H1=>Bn g .lss t63 (.int .i64 0) fun g t64=>k g t64 t63 t62 t61 t12 t0 t58 t57 t1 t0 t4 H1) (fun g=>k g uu uu uu uu uu uu uu uu uu uu uu H)) (fun g t64_1 t63_1 t62_1 t61_1 t60_1 t59_1 t58_1 t57_1 t56_1 t55_1 t54_1 H2=>B3 g (Op.pick [t52,t64_1,(.bool false)]) fun g t65=>IF3 g t65 (fun g=>Gt g M c (qh 30) Q E D H2) (fun g=>GO3 g (SEQ3 (W M c (qh 30)) Q) (.exit 4) E D H2))) /\
 (∀ Q E D H,W M c (qh 19) true Q E D H =
  Lz E 11 fun g t11=>Bn g .add t11 (.int .i64 1) fun g t49=>GO3 g (BLK3 3 Q) .normal ((11,t49)::E) D H) /\
 (∀ Q E D H,W M c (qh 38) true Q E D H =
  Lz E 0 fun g t0=>Ly g E 11 fun g t11=>Ly g E 12 fun g t12=>B3 g ((Op.indexSl 21) [t0,t12]) fun g t77=>B3 g ((Op.loadN 21) [t77] H) fun g t78=>B3 g ((Op.indexSl 21) [t0,t11]) fun g t81=>B3 g ((Op.loadN 21) [t81] H) fun g t82=>B3 g ((Op.indexSl 21) [t0,t11]) fun g t83=>B32 g ((Op.store 21) [t83,t78] H) fun g u H1=>B3 g ((Op.indexSl 21) [t0,t12]) fun g t84=>B32 g ((Op.store 21) [t84,t82] H1) fun g u_1 H2=>Ly g E 11 fun g t11_1=>Bn g .add t11_1 (.int .i64 1) fun g t86=>Ly g E 12 fun g t12_1=>Bn g .sub t12_1 (.int .i64 1) fun g t88=>GO3 g Q .normal ((12,t88)::(11,t86)::E) D H2) /\
 (∀ Q E D H,W M c (qh 30) true Q E D H =
  Lz E 12 fun g t12=>Bn g .sub t12 (.int .i64 1) fun g t67=>GO3 g (BLK3 5 Q) .normal ((12,t67)::E) D H):=by (repeat' apply And.intro)<;>(intro _ _ _ _;refine W_unf ?_;kernel_rfl)
theorem qe5:(cProg Try.prog).func xq=some vh/\vh.results=[.tmp 10]:=zg (by kernel_rfl)
theorem qe6 (h:W M ⟨none,xq⟩ (qh 0) true (FIN3 M [.tmp 10] Q) [(0,a0),(1,a1),(2,a2),(3,a3),(4,a4)] [] H):yz M xq [a0,a1,a2,a3,a4] H Q:=callf (by decide) qe5 (ks:=qb4) (by kernel_rfl) h
def qav:AFunc:=funcAt Try.prog xk
def qdg:Kp:=⟨[0,1,2,3,4,10,11,12,13],false,[0,4,6,9,15,17,20,26,28,38,42,44,47,51,57,59,62,68,70,76,81]⟩
def qd (k:Nat):Kp × ACode:=(qdg,part qav.body k)
theorem kh (M:Mac) (c:Ctx):(∀ Q E D H,W M c (qd 0) true Q E D H =
 Lz E 0 fun g t0=>Ly g E 1 fun g t1=>Ly g E 3 fun g t3=>B3 g ((Op.indexSl 21) [t0,t3]) fun g t20=>B3 g ((Op.loadN 21) [t20] H) fun g t21=>B3 g ((Op.indexSl 21) [t0,t1]) fun g t24=>B3 g ((Op.loadN 21) [t24] H) fun g t25=>B3 g ((Op.indexSl 21) [t0,t1]) fun g t26=>B32 g ((Op.store 21) [t26,t21] H) fun g u H1=>B3 g ((Op.indexSl 21) [t0,t3]) fun g t27=>B32 g ((Op.store 21) [t27,t25] H1) fun g u_1 H2=>W M c (qd 4) g Q ((11,(.bool false))::(10,(.int .i64 0))::E) D H2) /\
 (∀ Q E D H,W M c (qd 4) true Q E D H =
  Lz E 1 fun g t1=>Bn g .add t1 (.int .i64 1) fun g t29=>Ly g E 2 fun g t2=>Bn g .sub t2 (.int .i64 1) fun g t31=>W M c (qd 6) g Q ((13,t31)::(12,t29)::E) D H) /\
 (∀ Q E D H,W M c (qd 6) true Q E D H =
  LOOP3 (W M c (qd 9)) (BLK3 0 (SEQ3 (W M c (qd 17)) Q)) E D H) /\
 (∀ Q E D H,W M c (qd 17) true Q E D H =
  LOOP3 (W M c (qd 20)) (BLK3 2 (SEQ3 (W M c (qd 28)) Q)) E D H) /\
 (∀ Q E D H,W M c (qd 9) true Q E D H =
  Lz E 12 fun g t12=>Ly g E 13 fun g t13=>Bn g .leq t12 t13 fun g t34=>JN (fun (k:Bool->AV->AV->AV->AV->AV->AV->AV->AV->AV->AV->AV->AHeap->Prop)=>B3 g (wantV true (some t34)) fun g w=>IG3 g w (fun g=>Ly g E 4 fun g t4=>Ly g E 0 fun g t0=>B3 g ((Op.indexSl 21) [t0,t12]) fun g t39=>B3 g ((Op.loadN 21) [t39] H) fun g t40=>Ly g E 1 fun g t1=>B3 g ((Op.indexSl 21) [t0,t1]) fun g t43=>B3 g ((Op.loadN 21) [t43] H) fun g t44=>V3 g [t4,t40,t44] fun g f vs=>C3 M g f vs H fun g t45 H1=>Bn g .lss t45 (.int .i64 0) fun g t46=>k g t46 t45 t44 t43 t1 t0 t40 t39 t12 t0 t4 H1) (fun g=>k g uu uu uu uu uu uu uu uu uu uu uu H)) (fun g t46_1 t45_1 t44_1 t43_1 t42_1 t41_1 t40_1 t39_1 t38_1 t37_1 t36_1 H2=>B3 g (Op.pick [t34,t46_1,(.bool false)]) fun g t47=>IF3 g t47 (fun g=>Gt g M c (qd 15) Q E D H2) (fun g=>GO3 g (SEQ3 (W M c (qd 15)) Q) (.exit 0) E D H2))) /\
 (∀ Q E D H,W M c (qd 28) true Q E D H =
  Lz E 12 fun g t12=>Ly g E 13 fun g t13=>Cb g .gtr t12 t13 (fun g=>Ly g E 0 fun g t0=>Ly g E 13 fun g t13_1=>Ly g E 1 fun g t1=>B3 g ((Op.indexSl 21) [t0,t1]) fun g t78=>B3 g ((Op.loadN 21) [t78] H) fun g t79=>B3 g ((Op.indexSl 21) [t0,t13_1]) fun g t82=>B3 g ((Op.loadN 21) [t82] H) fun g t83=>B3 g ((Op.indexSl 21) [t0,t13_1]) fun g t84=>B32 g ((Op.store 21) [t84,t79] H) fun g u H1=>B3 g ((Op.indexSl 21) [t0,t1]) fun g t85=>B32 g ((Op.store 21) [t85,t83] H1) fun g u_1 H2=>Ly g E 13 fun g t13_2=>GO3 g (SEQ3 (W M c (qd 38)) Q) .ret ((11,(.bool true))::(10,t13_2)::E) D H2) (fun g=>Gt g M c (qd 38) Q E D H)) /\
 (∀ Q E D H,W M c (qd 20) true Q E D H =
  Lz E 12 fun g t12=>Ly g E 13 fun g t13=>Bn g .leq t12 t13 fun g t52=>JN (fun (k:Bool->AV->AV->AV->AV->AV->AV->AV->AV->AV->AV->AV->AV->AHeap->Prop)=>B3 g (wantV true (some t52)) fun g w=>IG3 g w (fun g=>Ly g E 4 fun g t4=>Ly g E 0 fun g t0=>B3 g ((Op.indexSl 21) [t0,t13]) fun g t57=>B3 g ((Op.loadN 21) [t57] H) fun g t58=>Ly g E 1 fun g t1=>B3 g ((Op.indexSl 21) [t0,t1]) fun g t61=>B3 g ((Op.loadN 21) [t61] H) fun g t62=>V3 g [t4,t58,t62] fun g f vs=>C3 M g f vs H fun g t63 H1=>Bn g .lss t63 (.int .i64 0) fun g t64=>B3 g ((Op.un .not) [t64]) fun g t65=>k g t65 t64 t63 t62 t61 t1 t0 t58 t57 t13 t0 t4 H1) (fun g=>k g uu uu uu uu uu uu uu uu uu uu uu uu H)) (fun g t65_1 t64_1 t63_1 t62_1 t61_1 t60_1 t59_1 t58_1 t57_1 t56_1 t55_1 t54_1 H2=>B3 g (Op.pick [t52,t65_1,(.bool false)]) fun g t66=>IF3 g t66 (fun g=>Gt g M c (qd 26) Q E D H2) (fun g=>GO3 g (SEQ3 (W M c (qd 26)) Q) (.exit 2) E D H2))) /\
 (∀ Q E D H,W M c (qd 15) true Q E D H =
  Lz E 12 fun g t12=>Bn g .add t12 (.int .i64 1) fun g t49=>GO3 g (BLK3 1 Q) .normal ((12,t49)::E) D H) /\
 (∀ Q E D H,W M c (qd 38) true Q E D H =
  Lz E 0 fun g t0=>Ly g E 12 fun g t12=>Ly g E 13 fun g t13=>B3 g ((Op.indexSl 21) [t0,t13]) fun g t93=>B3 g ((Op.loadN 21) [t93] H) fun g t94=>B3 g ((Op.indexSl 21) [t0,t12]) fun g t97=>B3 g ((Op.loadN 21) [t97] H) fun g t98=>B3 g ((Op.indexSl 21) [t0,t12]) fun g t99=>B32 g ((Op.store 21) [t99,t94] H) fun g u H1=>B3 g ((Op.indexSl 21) [t0,t13]) fun g t100=>B32 g ((Op.store 21) [t100,t98] H1) fun g u_1 H2=>Ly g E 12 fun g t12_1=>Bn g .add t12_1 (.int .i64 1) fun g t102=>W M c (qd 42) g Q ((12,t102)::E) D H2) /\
 (∀ Q E D H,W M c (qd 26) true Q E D H =
  Lz E 13 fun g t13=>Bn g .sub t13 (.int .i64 1) fun g t68=>GO3 g (BLK3 3 Q) .normal ((13,t68)::E) D H) /\
 (∀ Q E D H,W M c (qd 42) true Q E D H =
  Lz E 13 fun g t13=>Bn g .sub t13 (.int .i64 1) fun g t104=>W M c (qd 44) g Q ((13,t104)::E) D H) /\
 (∀ Q E D H,W M c (qd 44) true Q E D H =
  LOOP3 (W M c (qd 47)) (BLK3 4 (SEQ3 (W M c (qd 81)) Q)) E D H) /\
 (∀ Q E D H,W M c (qd 81) true Q E D H =
  Lz E 0 fun g t0=>Ly g E 13 fun g t13=>Ly g E 1 fun g t1=>B3 g ((Op.indexSl 21) [t0,t1]) fun g t169=>B3 g ((Op.loadN 21) [t169] H) fun g t170=>B3 g ((Op.indexSl 21) [t0,t13]) fun g t173=>B3 g ((Op.loadN 21) [t173] H) fun g t174=>B3 g ((Op.indexSl 21) [t0,t13]) fun g t175=>B32 g ((Op.store 21) [t175,t170] H) fun g u H1=>B3 g ((Op.indexSl 21) [t0,t1]) fun g t176=>B32 g ((Op.store 21) [t176,t174] H1) fun g u_1 H2=>Ly g E 13 fun g t13_1=>GO3 g Q .ret ((11,(.bool false))::(10,t13_1)::E) D H2) /\
 (∀ Q E D H,W M c (qd 47) true Q E D H =
  LOOP3 (W M c (qd 51)) (BLK3 6 (SEQ3 (W M c (qd 59)) (BLK3 5 Q))) E D H) /\
 (∀ Q E D H,W M c (qd 59) true Q E D H =
  LOOP3 (W M c (qd 62)) (BLK3 8 (SEQ3 (W M c (qd 70)) Q)) E D H) /\
 (∀ Q E D H,W M c (qd 51) true Q E D H =
  Lz E 12 fun g t12=>Ly g E 13 fun g t13=>Bn g .leq t12 t13 fun g t107=>JN (fun (k:Bool->AV->AV->AV->AV->AV->AV->AV->AV->AV->AV->AV->AHeap->Prop)=>B3 g (wantV true (some t107)) fun g w=>IG3 g w (fun g=>Ly g E 4 fun g t4=>Ly g E 0 fun g t0=>B3 g ((Op.indexSl 21) [t0,t12]) fun g t112=>B3 g ((Op.loadN 21) [t112] H) fun g t113=>Ly g E 1 fun g t1=>B3 g ((Op.indexSl 21) [t0,t1]) fun g t116=>B3 g ((Op.loadN 21) [t116] H) fun g t117=>V3 g [t4,t113,t117] fun g f vs=>C3 M g f vs H fun g t118 H1=>Bn g .lss t118 (.int .i64 0) fun g t119=>k g t119 t118 t117 t116 t1 t0 t113 t112 t12 t0 t4 H1) (fun g=>k g uu uu uu uu uu uu uu uu uu uu uu H)) (fun g t119_1 t118_1 t117_1 t116_1 t115_1 t114_1 t113_1 t112_1 t111_1 t110_1 t109_1 H2=>B3 g (Op.pick [t107,t119_1,(.bool false)]) fun g t120=>IF3 g t120 (fun g=>Gt g M c (qd 57) Q E D H2) (fun g=>GO3 g (SEQ3 (W M c (qd 57)) Q) (.exit 6) E D H2))) /\
 (∀ Q E D H,W M c (qd 70) true Q E D H =
  Lz E 12 fun g t12=>Ly g E 13 fun g t13=>Cb g .gtr t12 t13 (fun g=>GO3 g (SEQ3 (W M c (qd 76)) Q) (.exit 4) E D H) (fun g=>Gt g M c (qd 76) Q E D H)) /\
 (∀ Q E D H,W M c (qd 62) true Q E D H =
  Lz E 12 fun g t12=>Ly g E 13 fun g t13=>Bn g .leq t12 t13 fun g t125=>JN (fun (k:Bool->AV->AV->AV->AV->AV->AV->AV->AV->AV->AV->AV->AV->AHeap->Prop)=>B3 g (wantV true (some t125)) fun g w=>IG3 g w (fun g=>Ly g E 4 fun g t4=>Ly g E 0 fun g t0=>B3 g ((Op.indexSl 21) [t0,t13]) fun g t130=>B3 g ((Op.loadN 21) [t130] H) fun g t131=>Ly g E 1 fun g t1=>B3 g ((Op.indexSl 21) [t0,t1]) fun g t134=>B3 g ((Op.loadN 21) [t134] H) fun g t135=>V3 g [t4,t131,t135] fun g f vs=>C3 M g f vs H fun g t136 H1=>Bn g .lss t136 (.int .i64 0) fun g t137=>B3 g ((Op.un .not) [t137]) fun g t138=>k g t138 t137 t136 t135 t134 t1 t0 t131 t130 t13 t0 t4 H1) (fun g=>k g uu uu uu uu uu uu uu uu uu uu uu uu H)) (fun g t138_1 t137_1 t136_1 t135_1 t134_1 t133_1 t132_1 t131_1 t130_1 t129_1 t128_1 t127_1 H2=>B3 g (Op.pick [t125,t138_1,(.bool false)]) fun g t139=>IF3 g t139 (fun g=>Gt g M c (qd 68) Q E D H2) (fun g=>GO3 g (SEQ3 (W M c (qd 68)) Q) (.exit 8) E D H2))) /\
 (∀ Q E D H,W M c (qd 57) true Q E D H =
  Lz E 12 fun g t12=>Bn g .add t12 (.int .i64 1) fun g t122=>GO3 g (BLK3 7 Q) .normal ((12,t122)::E) D H) /\
 (∀ Q E D H,W M c (qd 76) true Q E D H =
  Lz E 0 fun g t0=>Ly g E 12 fun g t12=>Ly g E 13 fun g t13=>B3 g ((Op.indexSl 21) [t0,t13]) fun g t151=>B3 g ((Op.loadN 21) [t151] H) fun g t152=>B3 g ((Op.indexSl 21) [t0,t12]) fun g t155=>B3 g ((Op.loadN 21) [t155] H) fun g t156=>B3 g ((Op.indexSl 21) [t0,t12]) fun g t157=>B32 g ((Op.store 21) [t157,t152] H) fun g u H1=>B3 g ((Op.indexSl 21) [t0,t13]) fun g t158=>B32 g ((Op.store 21) [t158,t156] H1) fun g u_1 H2=>Ly g E 12 fun g t12_1=>Bn g .add t12_1 (.int .i64 1) fun g t160=>Ly g E 13 fun g t13_1=>Bn g .sub t13_1 (.int .i64 1) fun g t162=>GO3 g Q .normal ((13,t162)::(12,t160)::E) D H2) /\
 (∀ Q E D H,W M c (qd 68) true Q E D H =
  Lz E 13 fun g t13=>Bn g .sub t13 (.int .i64 1) fun g t141=>GO3 g (BLK3 9 Q) .normal ((13,t141)::E) D H):=by (repeat' apply And.intro)<;>(intro _ _ _ _;refine W_unf ?_;kernel_rfl)
theorem qge:(cProg Try.prog).func xk=some qav/\qav.results=[.tmp 10,.tmp 11]:=zg (by kernel_rfl)
theorem qgf (h:W M ⟨none,xk⟩ (qd 0) true (FIN3 M [.tmp 10,.tmp 11] Q) [(0,a0),(1,a1),(2,a2),(3,a3),(4,a4)] [] H):yz M xk [a0,a1,a2,a3,a4] H Q:=callf (by decide) qge (ks:=qdg) (by kernel_rfl) h
def qhp:AFunc:=funcAt Try.prog qcy
def qks:Kp:=⟨[0,2],false,[0,2,10,18,26]⟩
def kg (k:Nat):Kp × ACode:=(qks,part qhp.body k)
theorem qqh (M:Mac) (c:Ctx):(∀ Q E D H,W M c (kg 0) true Q E D H =
 W M c (kg 2) true Q ((2,(.int .i64 0))::E) D H) /\
 (∀ Q E D H,W M c (kg 2) true Q E D H =
  Lz E 0 fun g t0=>Cb g .geq t0 (.int .u64 4294967296) (fun g=>Ly g E 0 fun g t0_1=>Bn g .shr t0_1 (.int .u64 32) fun g t6=>Gt g M c (kg 10) Q ((2,(.int .i64 32))::(0,t6)::E) D H) (fun g=>Gt g M c (kg 10) Q E D H)) /\
 (∀ Q E D H,W M c (kg 10) true Q E D H =
  Lz E 0 fun g t0=>Cb g .geq t0 (.int .u64 65536) (fun g=>Ly g E 0 fun g t0_1=>Bn g .shr t0_1 (.int .u64 16) fun g t10=>Ly g E 2 fun g t2=>Bn g .add t2 (.int .i64 16) fun g t12=>Gt g M c (kg 18) Q ((2,t12)::(0,t10)::E) D H) (fun g=>Gt g M c (kg 18) Q E D H)) /\
 (∀ Q E D H,W M c (kg 18) true Q E D H =
  Lz E 0 fun g t0=>Cb g .geq t0 (.int .u64 256) (fun g=>Ly g E 0 fun g t0_1=>Bn g .shr t0_1 (.int .u64 8) fun g t16=>Ly g E 2 fun g t2=>Bn g .add t2 (.int .i64 8) fun g t18=>Gt g M c (kg 26) Q ((2,t18)::(0,t16)::E) D H) (fun g=>Gt g M c (kg 26) Q E D H)) /\
 (∀ Q E D H,W M c (kg 26) true Q E D H =
  Lz E 2 fun g t2=>Ly g E 0 fun g t0=>B3 g ((Op.wrap .u8) [t0]) fun g t21=>B3 g (Op.indexStr [(.str qpz),t21]) fun g t22=>B3 g ((Op.wrap .i64) [t22]) fun g t23=>Bn g .add t2 t23 fun g t24=>GO3 g Q .ret ((2,t24)::E) D H):=by (repeat' apply And.intro)<;>(intro _ _ _ _;refine W_unf ?_;kernel_rfl)
theorem qqf:(cProg Try.prog).func qcy=some qhp/\qhp.results=[.tmp 2]:=zg (by kernel_rfl)
theorem qqg (h:W M ⟨none,qcy⟩ (kg 0) true (FIN3 M [.tmp 2] Q) [(0,a0)] [] H):yz M qcy [a0] H Q:=callf (by decide) qqf (ks:=qks) (by kernel_rfl) h
def qa4:AFunc:=funcAt Try.prog zq
def qdk:Kp:=⟨[0,1,2,3,4,10,11],false,[0,4,7,13,19,25]⟩
def xi (k:Nat):Kp × ACode:=(qdk,part qa4.body k)
theorem qgm (M:Mac) (c:Ctx):(∀ Q E D H,W M c (xi 0) true Q E D H =
 Lz E 1 fun g t1=>LOOP3 (W M c (xi 4)) (BLK3 0 Q) ((10,t1)::E) D H) /\
 (∀ Q E D H,W M c (xi 4) true Q E D H =
  Lz E 10 fun g t10=>Bn g .mul (.int .i64 2) t10 fun g t14=>Bn g .add t14 (.int .i64 1) fun g t15=>W M c (xi 7) g (BLK3 1 Q) ((11,t15)::E) D H) /\
 (∀ Q E D H,W M c (xi 7) true Q E D H =
  Lz E 11 fun g t11=>Ly g E 2 fun g t2=>Cb g .geq t11 t2 (fun g=>GO3 g (SEQ3 (W M c (xi 13)) Q) (.exit 0) E D H) (fun g=>Gt g M c (xi 13) Q E D H)) /\
 (∀ Q E D H,W M c (xi 13) true Q E D H =
  Lz E 11 fun g t11=>Bn g .add t11 (.int .i64 1) fun g t20=>Ly g E 2 fun g t2=>Bn g .lss t20 t2 fun g t22=>JN (fun (k:Bool->AV->AV->AV->AV->AV->AV->AV->AV->AV->AV->AV->AV->AV->AV->AV->AV->AHeap->Prop)=>B3 g (wantV true (some t22)) fun g w=>IG3 g w (fun g=>Ly g E 4 fun g t4=>Ly g E 0 fun g t0=>Ly g E 3 fun g t3=>Bn g .add t3 t11 fun g t28=>B3 g ((Op.indexSl 21) [t0,t28]) fun g t29=>B3 g ((Op.loadN 21) [t29] H) fun g t30=>Bn g .add t3 t11 fun g t34=>Bn g .add t34 (.int .i64 1) fun g t35=>B3 g ((Op.indexSl 21) [t0,t35]) fun g t36=>B3 g ((Op.loadN 21) [t36] H) fun g t37=>V3 g [t4,t30,t37] fun g f vs=>C3 M g f vs H fun g t38 H1=>Bn g .lss t38 (.int .i64 0) fun g t39=>k g t39 t38 t37 t36 t35 t34 t11 t3 t0 t30 t29 t28 t11 t3 t0 t4 H1) (fun g=>k g uu uu uu uu uu uu uu uu uu uu uu uu uu uu uu uu H)) (fun g t39_1 t38_1 t37_1 t36_1 t35_1 t34_1 t33_1 t32_1 t31_1 t30_1 t29_1 t28_1 t27_1 t26_1 t25_1 t24_1 H2=>B3 g (Op.pick [t22,t39_1,(.bool false)]) fun g t40=>IF3 g t40 (fun g=>Ly g E 11 fun g t11_1=>Bn g .add t11_1 (.int .i64 1) fun g t42=>Gt g M c (xi 19) Q ((11,t42)::E) D H2) (fun g=>Gt g M c (xi 19) Q E D H2))) /\
 (∀ Q E D H,W M c (xi 19) true Q E D H =
  Lz E 4 fun g t4=>Ly g E 0 fun g t0=>Ly g E 3 fun g t3=>Ly g E 10 fun g t10=>Bn g .add t3 t10 fun g t47=>B3 g ((Op.indexSl 21) [t0,t47]) fun g t48=>B3 g ((Op.loadN 21) [t48] H) fun g t49=>Ly g E 11 fun g t11=>Bn g .add t3 t11 fun g t53=>B3 g ((Op.indexSl 21) [t0,t53]) fun g t54=>B3 g ((Op.loadN 21) [t54] H) fun g t55=>V3 g [t4,t49,t55] fun g f vs=>C3 M g f vs H fun g t56 H1=>Bn g .lss t56 (.int .i64 0) fun g t57=>B3 g ((Op.un .not) [t57]) fun g t58=>IF3 g t58 (fun g=>GO3 g (SEQ3 (W M c (xi 25)) Q) .ret E D H1) (fun g=>Gt g M c (xi 25) Q E D H1)) /\
 (∀ Q E D H,W M c (xi 25) true Q E D H =
  Lz E 0 fun g t0=>Ly g E 3 fun g t3=>Ly g E 10 fun g t10=>Bn g .add t3 t10 fun g t62=>Ly g E 11 fun g t11=>Bn g .add t3 t11 fun g t66=>Bn g .add t3 t11 fun g t70=>B3 g ((Op.indexSl 21) [t0,t70]) fun g t71=>B3 g ((Op.loadN 21) [t71] H) fun g t72=>Bn g .add t3 t10 fun g t76=>B3 g ((Op.indexSl 21) [t0,t76]) fun g t77=>B3 g ((Op.loadN 21) [t77] H) fun g t78=>B3 g ((Op.indexSl 21) [t0,t62]) fun g t79=>B32 g ((Op.store 21) [t79,t72] H) fun g u H1=>B3 g ((Op.indexSl 21) [t0,t66]) fun g t80=>B32 g ((Op.store 21) [t80,t78] H1) fun g u_1 H2=>Ly g E 11 fun g t11_1=>GO3 g Q .normal ((10,t11_1)::E) D H2):=by (repeat' apply And.intro)<;>(intro _ _ _ _;refine W_unf ?_;kernel_rfl)
theorem qgk:(cProg Try.prog).func zq=some qa4/\qa4.results=[]:=zg (by kernel_rfl)
theorem qgl (h:W M ⟨none,zq⟩ (xi 0) true (FIN3 M [] Q) [(0,a0),(1,a1),(2,a2),(3,a3),(4,a4)] [] H):yz M zq [a0,a1,a2,a3,a4] H Q:=callf (by decide) qgk (ks:=qdk) (by kernel_rfl) h
def qen:AFunc:=funcAt Try.prog wl
def qgy:Kp:=⟨[0,2],false,[0]⟩
def qgz (k:Nat):Kp × ACode:=(qgy,part qen.body k)
theorem qlp (M:Mac) (c:Ctx):(∀ Q E D H,W M c (qgz 0) true Q E D H =
 Lz E 0 fun g t0=>B3 g ((Op.wrap .u64) [t0]) fun g t4=>C3 M g (.func qca) [t4] H fun g t5 H1=>Bn g .shl (.int .u64 1) t5 fun g t6=>GO3 g Q .ret ((2,t6)::(2,(.int .u64 0))::E) D H1):=by intro _ _ _ _;refine W_unf ?_;kernel_rfl
theorem qln:(cProg Try.prog).func wl=some qen/\qen.results=[.tmp 2]:=zg (by kernel_rfl)
theorem qlo (h:W M ⟨none,wl⟩ (qgz 0) true (FIN3 M [.tmp 2] Q) [(0,a0)] [] H):yz M wl [a0] H Q:=callf (by decide) qln (ks:=qgy) (by kernel_rfl) h
def qe1:AFunc:=funcAt Try.prog qac
def qha:Kp:=⟨[0,2],false,[0]⟩
def qhb (k:Nat):Kp × ACode:=(qha,part qe1.body k)
theorem qmi (M:Mac) (c:Ctx):(∀ Q E D H,W M c (qhb 0) true Q E D H =
 Lz E 0 fun g t0=>B3 g (Op.nilCheck [t0]) fun g t4=>B3 g (Op.load1 [t4] H) fun g t5=>B3 g (Op.nilCheck [t0]) fun g t7=>B3 g (Op.load1 [t7] H) fun g t8=>Bn g .shl t8 (.int .u64 13) fun g t9=>Bn g .xor t5 t9 fun g t10=>B3 g (Op.nilCheck [t0]) fun g t11=>B32 g ((Op.store 1) [t11,t10] H) fun g u H1=>Ly g E 0 fun g t0_1=>B3 g (Op.nilCheck [t0_1]) fun g t13=>B3 g (Op.load1 [t13] H1) fun g t14=>B3 g (Op.nilCheck [t0_1]) fun g t16=>B3 g (Op.load1 [t16] H1) fun g t17=>Bn g .shr t17 (.int .u64 7) fun g t18=>Bn g .xor t14 t18 fun g t19=>B3 g (Op.nilCheck [t0_1]) fun g t20=>B32 g ((Op.store 1) [t20,t19] H1) fun g u_1 H2=>Ly g E 0 fun g t0_2=>B3 g (Op.nilCheck [t0_2]) fun g t22=>B3 g (Op.load1 [t22] H2) fun g t23=>B3 g (Op.nilCheck [t0_2]) fun g t25=>B3 g (Op.load1 [t25] H2) fun g t26=>Bn g .shl t26 (.int .u64 17) fun g t27=>Bn g .xor t23 t27 fun g t28=>B3 g (Op.nilCheck [t0_2]) fun g t29=>B32 g ((Op.store 1) [t29,t28] H2) fun g u_2 H3=>Ly g E 0 fun g t0_3=>B3 g (Op.nilCheck [t0_3]) fun g t31=>B3 g (Op.load1 [t31] H3) fun g t32=>GO3 g Q .ret ((2,t32)::(2,(.int .u64 0))::E) D H3):=by intro _ _ _ _;refine W_unf ?_;kernel_rfl
theorem qmg:(cProg Try.prog).func qac=some qe1/\qe1.results=[.tmp 2]:=zg (by kernel_rfl)
theorem qmh (h:W M ⟨none,qac⟩ (qhb 0) true (FIN3 M [.tmp 2] Q) [(0,a0)] [] H):yz M qac [a0] H Q:=callf (by decide) qmg (ks:=qha) (by kernel_rfl) h
def qbs:AFunc:=funcAt Try.prog kc
def qdy:Kp:=⟨[0,1,2,3,4,5,12],false,[0]⟩
def qdz (k:Nat):Kp × ACode:=(qdy,part qbs.body k)
theorem qg4 (M:Mac) (c:Ctx):(∀ Q E D H,W M c (qdz 0) true Q E D H =
 Lz E 0 fun g t0=>Ly g E 1 fun g t1=>Ly g E 2 fun g t2=>Ly g E 4 fun g t4=>Ly g E 5 fun g t5=>C3 M g (.func zx) [t0,t1,t2,t4,t5] H fun g t19 H1=>B3 g ((Op.extract 0) [t19]) fun g t20=>B3 g ((Op.extract 1) [t19]) fun g t21=>Ly g E 0 fun g t0_1=>Ly g E 3 fun g t3=>Ly g E 4 fun g t4_1=>Ly g E 5 fun g t5_1=>C3 M g (.func zx) [t0_1,t21,t3,t4_1,t5_1] H1 fun g t28 H2=>B3 g ((Op.extract 0) [t28]) fun g t29=>B3 g ((Op.extract 1) [t28]) fun g t30=>Ly g E 0 fun g t0_2=>Ly g E 4 fun g t4_2=>Ly g E 5 fun g t5_2=>C3 M g (.func zx) [t0_2,t20,t29,t4_2,t5_2] H2 fun g t37 H3=>B3 g ((Op.extract 0) [t37]) fun g t38=>B3 g ((Op.extract 1) [t37]) fun g t39=>GO3 g Q .ret ((12,t39)::(2,t39)::(1,t38)::(3,t30)::(2,t29)::(2,t21)::(1,t20)::(12,(.int .i64 0))::E) D H3):=by intro _ _ _ _;refine W_unf ?_;kernel_rfl
theorem qg2:(cProg Try.prog).func kc=some qbs/\qbs.results=[.tmp 12]:=zg (by kernel_rfl)
theorem qg3 (h:W M ⟨none,kc⟩ (qdz 0) true (FIN3 M [.tmp 12] Q) [(0,a0),(1,a1),(2,a2),(3,a3),(4,a4),(5,a5)] [] H):yz M kc [a0,a1,a2,a3,a4,a5] H Q:=callf (by decide) qg2 (ks:=qdy) (by kernel_rfl) h
def qbt:AFunc:=funcAt Try.prog zx
def qd0:Kp:=⟨[0,1,2,3,4,10,11],false,[0,2,12]⟩
def jq (k:Nat):Kp × ACode:=(qd0,part qbt.body k)
theorem qg7 (M:Mac) (c:Ctx):(∀ Q E D H,W M c (jq 0) true Q E D H =
 W M c (jq 2) true Q ((11,(.int .i64 0))::(10,(.int .i64 0))::E) D H) /\
 (∀ Q E D H,W M c (jq 2) true Q E D H =
  Lz E 4 fun g t4=>Ly g E 0 fun g t0=>Ly g E 2 fun g t2=>B3 g ((Op.indexSl 21) [t0,t2]) fun g t15=>B3 g ((Op.loadN 21) [t15] H) fun g t16=>Ly g E 1 fun g t1=>B3 g ((Op.indexSl 21) [t0,t1]) fun g t19=>B3 g ((Op.loadN 21) [t19] H) fun g t20=>V3 g [t4,t16,t20] fun g f vs=>C3 M g f vs H fun g t21 H1=>Cb g .lss t21 (.int .i64 0) (fun g=>Ly g E 3 fun g t3=>B3 g (Op.nilCheck [t3]) fun g t24=>B3 g (Op.load1 [t24] H1) fun g t25=>Bn g .add t25 (.int .i64 1) fun g t26=>B3 g (Op.nilCheck [t3]) fun g t27=>B32 g ((Op.store 1) [t27,t26] H1) fun g u H2=>Ly g E 2 fun g t2_1=>Ly g E 1 fun g t1_1=>GO3 g (SEQ3 (W M c (jq 12)) Q) .ret ((11,t1_1)::(10,t2_1)::E) D H2) (fun g=>Gt g M c (jq 12) Q E D H1)) /\
 (∀ Q E D H,W M c (jq 12) true Q E D H =
  Lz E 1 fun g t1=>Ly g E 2 fun g t2=>GO3 g Q .ret ((11,t2)::(10,t1)::E) D H):=by (repeat' apply And.intro)<;>(intro _ _ _ _;refine W_unf ?_;kernel_rfl)
theorem qg5:(cProg Try.prog).func zx=some qbt/\qbt.results=[.tmp 10,.tmp 11]:=zg (by kernel_rfl)
theorem qg6 (h:W M ⟨none,zx⟩ (jq 0) true (FIN3 M [.tmp 10,.tmp 11] Q) [(0,a0),(1,a1),(2,a2),(3,a3),(4,a4)] [] H):yz M zx [a0,a1,a2,a3,a4] H Q:=callf (by decide) qg5 (ks:=qd0) (by kernel_rfl) h
end
end Go.Am
namespace Go.Am
abbrev qbw:Nat:=108
abbrev qc4:Nat:=121
abbrev qb5:Nat:=82
abbrev qcj:Nat:=107
abbrev yq:Nat:=38
abbrev qbx:Nat:=75
abbrev y8:Nat:=89
abbrev qa7:Nat:=73
abbrev qah:Nat:=104
abbrev qai:Nat:=44
abbrev qb7:Nat:=42
abbrev qa8:Nat:=78
abbrev qcu:Nat:=43
abbrev qb8:Nat:=45
abbrev qa9:Nat:=88
abbrev qb9:Nat:=84
abbrev yb:Nat:=109
abbrev wg:Nat:=86
abbrev qba:Nat:=118
abbrev qds:Nat:=111
abbrev yo:Nat:=122
abbrev qcv:Nat:=87
abbrev qk2:Nat:=34
abbrev T__11:Nat:=30
abbrev qk:Nat:=43
abbrev qad:Nat:=36
abbrev qkc:Nat:=146
abbrev jk:Nat:=153
abbrev yi:Nat:=94
noncomputable section
open Go.Proofs Go.Proofs.Ytiibohocdbaekaa
variable {M:Mac} [MK M] {H:AHeap} {Q:AEnd->AHeap->Prop} {a0 a1 a2 a3:AV}
def qxs:AFunc:=funcAt Try.prog qk2
def q2q:Kp:=⟨[0,1,4,5],false,[0,2,10]⟩
def qlb (k:Nat):Kp × ACode:=(q2q,part qxs.body k)
theorem l1_New_w (M:Mac) (c:Ctx):(∀ Q E D H,W M c (qlb 0) true Q E D H =
 W M c (qlb 2) true Q ((5,(.int .i64 0))::(4,.nilp)::E) D H) /\
 (∀ Q E D H,W M c (qlb 2) true Q E D H =
  Lz E 0 fun g t0=>Bn g .lss t0 (.int .i64 1) fun g t7=>JN (fun (k:Bool->AV->AV->AHeap->Prop)=>B3 g (wantV false (some t7)) fun g w=>IG3 g w (fun g=>Bn g .gtr t0 (.int .i64 8) fun g t10=>k g t10 t0 H) (fun g=>k g uu uu H)) (fun g t10_1 t9_1 H1=>B3 g (Op.pick [t7,(.bool true),t10_1]) fun g t11=>JN (fun (k:Bool->AV->AV->AHeap->Prop)=>B3 g (wantV false (some t11)) fun g w=>IG3 g w (fun g=>Ly g E 1 fun g t1=>Bn g .lss t1 (.int .i64 1) fun g t14=>k g t14 t1 H1) (fun g=>k g uu uu H1)) (fun g t14_1 t13_1 H2=>B3 g (Op.pick [t11,(.bool true),t14_1]) fun g t15=>JN (fun (k:Bool->AV->AV->AHeap->Prop)=>B3 g (wantV false (some t15)) fun g w=>IG3 g w (fun g=>Ly g E 1 fun g t1_1=>Bn g .gtr t1_1 (.int .i64 4) fun g t18=>k g t18 t1_1 H2) (fun g=>k g uu uu H2)) (fun g t18_1 t17_1 H3=>B3 g (Op.pick [t15,(.bool true),t18_1]) fun g t19=>IF3 g t19 (fun g=>GO3 g (SEQ3 (W M c (qlb 10)) Q) .ret ((5,(.int .i64 2))::(4,.nilp)::E) D H3) (fun g=>Gt g M c (qlb 10) Q E D H3))))) /\
 (∀ Q E D H,W M c (qlb 10) true Q E D H =
  Lz E 0 fun g t0=>Ly g E 1 fun g t1=>Bn g .mul t0 t1 fun g t24=>B32 g ((Op.mkSlice qk 160 [(.int .i64 0),(.int .i64 0),(.bool false),(.bool false),(.int .u64 0),(.int .u64 0),(.int .u64 0),(.int .u64 0),(.int .u64 0),(.int .u64 0),(.int .u64 0),(.int .u64 0),(.int .u64 0),(.int .u64 0),(.int .u64 0),(.int .u64 0),(.int .u64 0),(.int .u64 0),(.int .u64 0),(.int .u64 0),(.int .i64 0)]) [t24,t24]) fun g o1 k1=>B3 g ((Op.build [(.int .i64 0),(.int .i64 0),.nils,(.int .i64 0)] [(0,1),(1,1),(2,1)]) [t0,t1,(k1 H.next)]) fun g t26=>A3 g qkc (AV.cells t26) (H.alloc o1) fun g t27 H2=>GO3 g Q .ret ((5,(.int .i64 0))::(4,t27)::E) D H2):=by (repeat' apply And.intro)<;>(intro _ _ _ _;refine W_unf ?_;kernel_rfl)
theorem l1_New_f:(cProg Try.prog).func qk2=some qxs/\qxs.results=[.tmp 4,.tmp 5]:=zg (by kernel_rfl)
theorem l1_New_s (h:W M ⟨none,qk2⟩ (qlb 0) true (FIN3 M [.tmp 4,.tmp 5] Q) [(0,a0),(1,a1)] [] H):yz M qk2 [a0,a1] H Q:=callf (by decide) l1_New_f (ks:=q2q) (by kernel_rfl) h
def qdu:AFunc:=funcAt Try.prog qb5
def qdv:Kp:=⟨[0,2,3,4,6,7],false,[0,4,9]⟩
def qex (k:Nat):Kp × ACode:=(qdv,part qdu.body k)
def qc6:ALoop:=loopAt qdu 0
def qmv (k:Nat):Kp × ACode:=(⟨qdv.keep,qdv.pan,[0]⟩,part qc6.assign k)
def qmw (k:Nat):Kp × ACode:=(⟨qdv.keep,qdv.pan,[0]⟩,part qc6.body k)
theorem qlv:nth qdu.loops 0=some qc6/\qc6.params=[7]:=⟨by kernel_rfl,by kernel_rfl⟩
theorem qn4 (M:Mac) (c:Ctx):(∀ Q E D H,W M c (qex 0) true Q E D H =
 A3 true T__11 [.nils] H fun g t3 H1=>W M c (qex 4) g Q ((3,t3)::(2,.nils)::E) D H1) /\
 (∀ Q E D H,W M c (qmv 0) true Q E D H =
  Lz E 7 fun g t7=>GO3 g Q .normal ((4,t7)::E) D H) /\
 (∀ Q E D H,W M c (qmw 0) true Q E D H =
  Lz E 3 fun g t3=>B3 g (Op.load1 [t3] H) fun g t8=>Ly g E 4 fun g t4=>B3 g (Op.nilCheck [t4]) fun g t10=>B3 g ((Op.loadN 21) [t10] H) fun g t11=>B32 g ((Op.buildSlice qk 1 [(.int .i64 0),(.int .i64 0),(.bool false),(.bool false),(.int .u64 0),(.int .u64 0),(.int .u64 0),(.int .u64 0),(.int .u64 0),(.int .u64 0),(.int .u64 0),(.int .u64 0),(.int .u64 0),(.int .u64 0),(.int .u64 0),(.int .u64 0),(.int .u64 0),(.int .u64 0),(.int .u64 0),(.int .u64 0),(.int .i64 0)] [(0,21)]) [t11]) fun g o1 k1=>B32 g ((Op.append qk 21 160) [t8,(k1 H.next)] (H.alloc o1)) fun g t13 H2=>B32 g ((Op.store 1) [t3,t13] H2) fun g u H3=>GO3 g (BLK3 1 Q) .normal E D H3) /\
 (∀ Q E D H,W M c (qex 4) true Q E D H =
  Lz E 0 fun g t0=>C3 M g (.func qb9) [t0] H fun g t6 H1=>RNG3 M qdv.keep c 0 ((6,t6)::E) D H1 (BLK3 0 (SEQ3 (W M c (qex 9)) Q)) t6) /\
 (∀ Q E D H,W M c (qex 9) true Q E D H =
  Lz E 3 fun g t3=>B3 g (Op.load1 [t3] H) fun g t14=>C3 M g (.func yc) [t14,(.fn (.func qcj) [] [])] H fun g t15 H1=>Ly g E 3 fun g t3_1=>B3 g (Op.load1 [t3_1] H1) fun g t16=>GO3 g Q .ret ((2,t16)::E) D H1):=by (repeat' apply And.intro)<;>(intro _ _ _ _;refine W_unf ?_;kernel_rfl)
theorem qn3:(cProg Try.prog).func qb5=some qdu/\qdu.results=[.tmp 2]:=zg (by kernel_rfl)
theorem qtq:M.func qb5=some qdu:=MK.at (by decide) qn3.1
theorem qvr (h:W M ⟨none,qb5⟩ (qex 0) true (FIN3 M [.tmp 2] Q) [(0,a0)] [] H):yz M qb5 [a0] H Q:=callf (by decide) qn3 (ks:=qdv) (by kernel_rfl) h
def qb1:AFunc:=funcAt Try.prog yq
def qb2:Kp:=⟨[0,2,3,7,8],false,[0,2,10,15]⟩
def wn (k:Nat):Kp × ACode:=(qb2,part qb1.body k)
def qbg:ALoop:=loopAt qb1 0
def qjp (k:Nat):Kp × ACode:=(⟨qb2.keep,qb2.pan,[0]⟩,part qbg.assign k)
def qjq (k:Nat):Kp × ACode:=(⟨qb2.keep,qb2.pan,[0]⟩,part qbg.body k)
theorem qiy:nth qb1.loops 0=some qbg/\qbg.params=[8]:=⟨by kernel_rfl,by kernel_rfl⟩
theorem qkn (M:Mac) (c:Ctx):(∀ Q E D H,W M c (wn 0) true Q E D H =
 W M c (wn 2) true Q ((2,(.int .i64 0))::E) D H) /\
 (∀ Q E D H,W M c (qjp 0) true Q E D H =
  Lz E 8 fun g t8=>GO3 g Q .normal ((3,t8)::E) D H) /\
 (∀ Q E D H,W M c (qjq 0) true Q E D H =
  Lz E 3 fun g t3=>B3 g ((Op.build [(.int .u64 0),(.int .u64 0),(.int .u64 0),(.int .u64 0),(.int .u64 0),(.int .u64 0),(.int .u64 0),(.int .u64 0)] []) []) fun g t12=>Ns g 2 t3 (.bool false) H fun g u H1=>Ns g 3 t3 (.bool false) H1 fun g u_1 H2=>B3 g (Op.nilCheck [t3]) fun g t17=>B3 g ((Op.fieldAddr 12) [t17]) fun g t18=>B32 g ((Op.store 8) [t18,t12] H2) fun g u_2 H3=>GO3 g (BLK3 1 Q) .normal E D H3) /\
 (∀ Q E D H,W M c (wn 2) true Q E D H =
  Lz E 0 fun g t0=>B3 g ((Op.eq .ptr false) [t0,.nilp] H) fun g t5=>IF3 g t5 (fun g=>GO3 g (SEQ3 (W M c (wn 10)) Q) .ret ((2,(.int .i64 1))::E) D H) (fun g=>Gt g M c (wn 10) Q E D H)) /\
 (∀ Q E D H,W M c (wn 10) true Q E D H =
  Lz E 0 fun g t0=>C3 M g (.func qb9) [t0] H fun g t7 H1=>RNG3 M qb2.keep c 0 ((7,t7)::E) D H1 (BLK3 0 (SEQ3 (W M c (wn 15)) Q)) t7) /\
 (∀ Q E D H,W M c (wn 15) true Q E D H =
  GO3 true Q .ret ((2,(.int .i64 0))::E) D H):=by (repeat' apply And.intro)<;>(intro _ _ _ _;refine W_unf ?_;kernel_rfl)
theorem qkm:(cProg Try.prog).func yq=some qb1/\qb1.results=[.tmp 2]:=zg (by kernel_rfl)
theorem qo7:M.func yq=some qb1:=MK.at (by decide) qkm.1
theorem qp8 (h:W M ⟨none,yq⟩ (wn 0) true (FIN3 M [.tmp 2] Q) [(0,a0)] [] H):yz M yq [a0] H Q:=callf (by decide) qkm (ks:=qb2) (by kernel_rfl) h
def qbh:AFunc:=funcAt Try.prog y8
def qbi:Kp:=⟨[0,2,3,7,8],false,[0,2,10,15]⟩
def ve (k:Nat):Kp × ACode:=(qbi,part qbh.body k)
def qas:ALoop:=loopAt qbh 0
def qiz (k:Nat):Kp × ACode:=(⟨qbi.keep,qbi.pan,[0]⟩,part qas.assign k)
def qi0 (k:Nat):Kp × ACode:=(⟨qbi.keep,qbi.pan,[0]⟩,part qas.body k)
theorem qig:nth qbh.loops 0=some qas/\qas.params=[8]:=⟨by kernel_rfl,by kernel_rfl⟩
theorem qjs (M:Mac) (c:Ctx):(∀ Q E D H,W M c (ve 0) true Q E D H =
 W M c (ve 2) true Q ((2,(.int .i64 0))::E) D H) /\
 (∀ Q E D H,W M c (qiz 0) true Q E D H =
  Lz E 8 fun g t8=>GO3 g Q .normal ((3,t8)::E) D H) /\
 (∀ Q E D H,W M c (qi0 0) true Q E D H =
  Lz E 3 fun g t3=>Nf g 3 t3 H fun g t12=>IF3 g t12 (fun g=>Ly g E 3 fun g t3_1=>B3 g (Op.nilCheck [t3_1]) fun g t15=>B3 g ((Op.fieldAddr 12) [t15]) fun g t16=>B3 g ((Op.loadN 8) [t16] H) fun g t17=>B3 g (Op.nilCheck [t3_1]) fun g t18=>B3 g ((Op.fieldAddr 4) [t18]) fun g t19=>B32 g ((Op.store 8) [t19,t17] H) fun g u H1=>GO3 g (BLK3 1 Q) .normal E D H1) (fun g=>GO3 g (BLK3 1 Q) .normal E D H)) /\
 (∀ Q E D H,W M c (ve 2) true Q E D H =
  Lz E 0 fun g t0=>B3 g ((Op.eq .ptr false) [t0,.nilp] H) fun g t5=>IF3 g t5 (fun g=>GO3 g (SEQ3 (W M c (ve 10)) Q) .ret ((2,(.int .i64 1))::E) D H) (fun g=>Gt g M c (ve 10) Q E D H)) /\
 (∀ Q E D H,W M c (ve 10) true Q E D H =
  Lz E 0 fun g t0=>C3 M g (.func qb9) [t0] H fun g t7 H1=>RNG3 M qbi.keep c 0 ((7,t7)::E) D H1 (BLK3 0 (SEQ3 (W M c (ve 15)) Q)) t7) /\
 (∀ Q E D H,W M c (ve 15) true Q E D H =
  Lz E 0 fun g t0=>C3 M g (.func yq) [t0] H fun g t21 H1=>GO3 g Q .ret ((2,t21)::E) D H1):=by (repeat' apply And.intro)<;>(intro _ _ _ _;refine W_unf ?_;kernel_rfl)
theorem qjr:(cProg Try.prog).func y8=some qbh/\qbh.results=[.tmp 2]:=zg (by kernel_rfl)
theorem qoj:M.func y8=some qbh:=MK.at (by decide) qjr.1
theorem qo8 (h:W M ⟨none,y8⟩ (ve 0) true (FIN3 M [.tmp 2] Q) [(0,a0)] [] H):yz M y8 [a0] H Q:=callf (by decide) qjr (ks:=qbi) (by kernel_rfl) h
def qi4:AFunc:=funcAt Try.prog qb7
def qm0:Kp:=⟨[0,1,2,6,7,8,9,10],false,[0,2,8,14,18,20,26]⟩
def j0 (k:Nat):Kp × ACode:=(qm0,part qi4.body k)
theorem qt2 (M:Mac) (c:Ctx):(∀ Q E D H,W M c (j0 0) true Q E D H =
 W M c (j0 2) true Q ((6,(.int .i64 0))::E) D H) /\
 (∀ Q E D H,W M c (j0 2) true Q E D H =
  Lz E 2 fun g t2=>B3 g ((Op.un .not) [t2]) fun g t12=>IF3 g t12 (fun g=>Ly g E 0 fun g t0=>Ly g E 1 fun g t1=>C3 M g (.func wg) [t0,t1,(.int .i64 0)] H fun g t16 H1=>B3 g ((Op.extract 0) [t16]) fun g t17=>B3 g ((Op.extract 1) [t16]) fun g t18=>W M c (j0 8) g (SEQ3 (W M c (j0 18)) Q) ((8,t18)::(7,t17)::E) D H1) (fun g=>Gt g M c (j0 18) Q E D H)) /\
 (∀ Q E D H,W M c (j0 18) true Q E D H =
  Lz E 0 fun g t0=>Ly g E 1 fun g t1=>C3 M g (.func wg) [t0,t1,(.int .i64 2)] H fun g t28 H1=>B3 g ((Op.extract 0) [t28]) fun g t29=>B3 g ((Op.extract 1) [t28]) fun g t30=>W M c (j0 20) g Q ((10,t30)::(9,t29)::E) D H1) /\
 (∀ Q E D H,W M c (j0 8) true Q E D H =
  Lz E 8 fun g t8=>Cb g .eql t8 (.int .i64 0) (fun g=>Ly g E 7 fun g t7=>Ns g 2 t7 (.bool true) H fun g u H1=>Gt g M c (j0 14) Q E D H1) (fun g=>Gt g M c (j0 14) Q E D H)) /\
 (∀ Q E D H,W M c (j0 20) true Q E D H =
  Lz E 10 fun g t10=>Bn g .eql t10 (.int .i64 0) fun g t32=>JN (fun (k:Bool->AV->AV->AV->AV->AV->AHeap->Prop)=>B3 g (wantV true (some t32)) fun g w=>IG3 g w (fun g=>Ly g E 9 fun g t9=>B3 g (Op.nilCheck [t9]) fun g t35=>B3 g ((Op.fieldAddr 3) [t35]) fun g t36=>B3 g (Op.load1 [t36] H) fun g t37=>B3 g ((Op.un .not) [t37]) fun g t38=>k g t38 t37 t36 t35 t9 H) (fun g=>k g uu uu uu uu uu H)) (fun g t38_1 t37_1 t36_1 t35_1 t34_1 H1=>B3 g (Op.pick [t32,t38_1,(.bool false)]) fun g t39=>IF3 g t39 (fun g=>Ly g E 9 fun g t9_1=>B3 g (Op.nilCheck [t9_1]) fun g t43=>B3 g ((Op.fieldAddr 4) [t43]) fun g t44=>B3 g ((Op.loadN 8) [t44] H1) fun g t45=>Ns g 3 t9_1 (.bool true) H1 fun g u H2=>B3 g (Op.nilCheck [t9_1]) fun g t48=>B3 g ((Op.fieldAddr 12) [t48]) fun g t49=>B32 g ((Op.store 8) [t49,t45] H2) fun g u_1 H3=>Gt g M c (j0 26) Q E D H3) (fun g=>Gt g M c (j0 26) Q E D H1))) /\
 (∀ Q E D H,W M c (j0 14) true Q E D H =
  Lz E 8 fun g t8=>GO3 g Q .ret ((6,t8)::E) D H) /\
 (∀ Q E D H,W M c (j0 26) true Q E D H =
  Lz E 10 fun g t10=>GO3 g Q .ret ((6,t10)::E) D H):=by (repeat' apply And.intro)<;>(intro _ _ _ _;refine W_unf ?_;kernel_rfl)
theorem qt0:(cProg Try.prog).func qb7=some qi4/\qi4.results=[.tmp 6]:=zg (by kernel_rfl)
theorem qt1 (h:W M ⟨none,qb7⟩ (j0 0) true (FIN3 M [.tmp 6] Q) [(0,a0),(1,a1),(2,a2)] [] H):yz M qb7 [a0,a1,a2] H Q:=callf (by decide) qt0 (ks:=qm0) (by kernel_rfl) h
def qj3:AFunc:=funcAt Try.prog qcu
def qn5:Kp:=⟨[0,1,2,6,7,8],false,[0,2,10,12,20]⟩
def vy (k:Nat):Kp × ACode:=(qn5,part qj3.body k)
theorem qvu (M:Mac) (c:Ctx):(∀ Q E D H,W M c (vy 0) true Q E D H =
 W M c (vy 2) true Q ((6,(.int .i64 0))::E) D H) /\
 (∀ Q E D H,W M c (vy 2) true Q E D H =
  Lz E 0 fun g t0=>B3 g ((Op.eq .ptr true) [t0,.nilp] H) fun g t10=>JN (fun (k:Bool->AV->AV->AHeap->Prop)=>B3 g (wantV true (some t10)) fun g w=>IG3 g w (fun g=>Ly g E 1 fun g t1=>Bn g .lss t1 (.int .i64 0) fun g t13=>k g t13 t1 H) (fun g=>k g uu uu H)) (fun g t13_1 t12_1 H1=>B3 g (Op.pick [t10,t13_1,(.bool false)]) fun g t14=>IF3 g t14 (fun g=>GO3 g (SEQ3 (W M c (vy 10)) Q) .ret ((6,(.int .i64 2))::E) D H1) (fun g=>Gt g M c (vy 10) Q E D H1))) /\
 (∀ Q E D H,W M c (vy 10) true Q E D H =
  Lz E 0 fun g t0=>Ly g E 1 fun g t1=>Bn g .quo t1 (.int .i64 8) fun g t18=>C3 M g (.func wg) [t0,t18,(.int .i64 2)] H fun g t19 H1=>B3 g ((Op.extract 0) [t19]) fun g t20=>B3 g ((Op.extract 1) [t19]) fun g t21=>W M c (vy 12) g Q ((8,t21)::(7,t20)::E) D H1) /\
 (∀ Q E D H,W M c (vy 12) true Q E D H =
  Lz E 8 fun g t8=>Cb g .neq t8 (.int .i64 0) (fun g=>Ly g E 8 fun g t8_1=>GO3 g (SEQ3 (W M c (vy 20)) Q) .ret ((6,t8_1)::E) D H) (fun g=>Gt g M c (vy 20) Q E D H)) /\
 (∀ Q E D H,W M c (vy 20) true Q E D H =
  Lz E 0 fun g t0=>Ly g E 7 fun g t7=>C3 M g (.func qcv) [t0,t7] H fun g t27 H1=>Ly g E 7 fun g t7_1=>Ly g E 1 fun g t1=>Bn g .rem t1 (.int .i64 8) fun g t30=>Ly g E 2 fun g t2=>B3 g (Op.nilCheck [t7_1]) fun g t32=>B3 g ((Op.fieldAddr 4) [t32]) fun g t33=>B3 g ((Op.indexArr 8 1) [t33,t30]) fun g t34=>B32 g ((Op.store 1) [t34,t2] H1) fun g u H2=>GO3 g Q .ret ((6,(.int .i64 0))::E) D H2):=by (repeat' apply And.intro)<;>(intro _ _ _ _;refine W_unf ?_;kernel_rfl)
theorem qvs:(cProg Try.prog).func qcu=some qj3/\qj3.results=[.tmp 6]:=zg (by kernel_rfl)
theorem qvt (h:W M ⟨none,qcu⟩ (vy 0) true (FIN3 M [.tmp 6] Q) [(0,a0),(1,a1),(2,a2)] [] H):yz M qcu [a0,a1,a2] H Q:=callf (by decide) qvs (ks:=qn5) (by kernel_rfl) h
def qi3:AFunc:=funcAt Try.prog qai
def qmz:Kp:=⟨[0,1,4,5,6,21],false,[0,4,12]⟩
def qc8 (k:Nat):Kp × ACode:=(qmz,part qi3.body k)
theorem qtz (M:Mac) (c:Ctx):(∀ Q E D H,W M c (qc8 0) true Q E D H =
 A3 true qk [(.int .i64 0),(.int .i64 0),(.bool false),(.bool false),(.int .u64 0),(.int .u64 0),(.int .u64 0),(.int .u64 0),(.int .u64 0),(.int .u64 0),(.int .u64 0),(.int .u64 0),(.int .u64 0),(.int .u64 0),(.int .u64 0),(.int .u64 0),(.int .u64 0),(.int .u64 0),(.int .u64 0),(.int .u64 0),(.int .i64 0)] H fun g t4 H1=>Ly g E 0 fun g t0=>Ly g E 1 fun g t1=>C3 M g (.func qa9) [t0,t1] H1 fun g t9 H2=>W M c (qc8 4) g Q ((6,t9)::(5,(.bool false))::(4,t4)::E) D H2) /\
 (∀ Q E D H,W M c (qc8 4) true Q E D H =
  Lz E 6 fun g t6=>B3 g ((Op.eq .ptr false) [t6,.nilp] H) fun g t11=>IF3 g t11 (fun g=>B3 g ((Op.build [(.int .i64 0),(.int .i64 0),(.bool false),(.bool false),(.int .u64 0),(.int .u64 0),(.int .u64 0),(.int .u64 0),(.int .u64 0),(.int .u64 0),(.int .u64 0),(.int .u64 0),(.int .u64 0),(.int .u64 0),(.int .u64 0),(.int .u64 0),(.int .u64 0),(.int .u64 0),(.int .u64 0),(.int .u64 0),(.int .i64 0)] []) []) fun g t12=>Ly g E 4 fun g t4=>B32 g ((Op.store 21) [t4,t12] H) fun g u H1=>GO3 g (SEQ3 (W M c (qc8 12)) Q) .ret ((5,(.bool false))::E) D H1) (fun g=>Gt g M c (qc8 12) Q E D H)) /\
 (∀ Q E D H,W M c (qc8 12) true Q E D H =
  Lz E 6 fun g t6=>B3 g (Op.nilCheck [t6]) fun g t14=>B3 g ((Op.loadN 21) [t14] H) fun g t15=>Ly g E 4 fun g t4=>B32 g ((Op.store 21) [t4,t15] H) fun g u H1=>GO3 g Q .ret ((5,(.bool true))::E) D H1):=by (repeat' apply And.intro)<;>(intro _ _ _ _;refine W_unf ?_;kernel_rfl)
theorem qtx:(cProg Try.prog).func qai=some qi3/\qi3.results=[.cellN 21 4,.tmp 5]:=zg (by kernel_rfl)
theorem qty (h:W M ⟨none,qai⟩ (qc8 0) true (FIN3 M [.cellN 21 4,.tmp 5] Q) [(0,a0),(1,a1)] [] H):yz M qai [a0,a1] H Q:=callf (by decide) qtx (ks:=qmz) (by kernel_rfl) h
def qi5:AFunc:=funcAt Try.prog qb8
def qm1:Kp:=⟨[0,1,4,5,6,7],false,[0,2,10,12,20]⟩
def yp (k:Nat):Kp × ACode:=(qm1,part qi5.body k)
theorem qt5 (M:Mac) (c:Ctx):(∀ Q E D H,W M c (yp 0) true Q E D H =
 W M c (yp 2) true Q ((5,(.int .i64 0))::(4,(.int .u64 0))::E) D H) /\
 (∀ Q E D H,W M c (yp 2) true Q E D H =
  Lz E 0 fun g t0=>B3 g ((Op.eq .ptr true) [t0,.nilp] H) fun g t9=>JN (fun (k:Bool->AV->AV->AHeap->Prop)=>B3 g (wantV true (some t9)) fun g w=>IG3 g w (fun g=>Ly g E 1 fun g t1=>Bn g .lss t1 (.int .i64 0) fun g t12=>k g t12 t1 H) (fun g=>k g uu uu H)) (fun g t12_1 t11_1 H1=>B3 g (Op.pick [t9,t12_1,(.bool false)]) fun g t13=>IF3 g t13 (fun g=>GO3 g (SEQ3 (W M c (yp 10)) Q) .ret ((5,(.int .i64 2))::(4,(.int .u64 0))::E) D H1) (fun g=>Gt g M c (yp 10) Q E D H1))) /\
 (∀ Q E D H,W M c (yp 10) true Q E D H =
  Lz E 0 fun g t0=>Ly g E 1 fun g t1=>Bn g .quo t1 (.int .i64 8) fun g t17=>C3 M g (.func wg) [t0,t17,(.int .i64 0)] H fun g t18 H1=>B3 g ((Op.extract 0) [t18]) fun g t19=>B3 g ((Op.extract 1) [t18]) fun g t20=>W M c (yp 12) g Q ((7,t20)::(6,t19)::E) D H1) /\
 (∀ Q E D H,W M c (yp 12) true Q E D H =
  Lz E 7 fun g t7=>Cb g .neq t7 (.int .i64 0) (fun g=>Ly g E 7 fun g t7_1=>GO3 g (SEQ3 (W M c (yp 20)) Q) .ret ((5,t7_1)::(4,(.int .u64 0))::E) D H) (fun g=>Gt g M c (yp 20) Q E D H)) /\
 (∀ Q E D H,W M c (yp 20) true Q E D H =
  Lz E 0 fun g t0=>Ly g E 6 fun g t6=>C3 M g (.func qcv) [t0,t6] H fun g t26 H1=>Ly g E 6 fun g t6_1=>Ly g E 1 fun g t1=>Bn g .rem t1 (.int .i64 8) fun g t29=>B3 g (Op.nilCheck [t6_1]) fun g t30=>B3 g ((Op.fieldAddr 4) [t30]) fun g t31=>B3 g ((Op.indexArr 8 1) [t31,t29]) fun g t32=>B3 g (Op.load1 [t32] H1) fun g t33=>GO3 g Q .ret ((5,(.int .i64 0))::(4,t33)::E) D H1):=by (repeat' apply And.intro)<;>(intro _ _ _ _;refine W_unf ?_;kernel_rfl)
theorem qt3:(cProg Try.prog).func qb8=some qi5/\qi5.results=[.tmp 4,.tmp 5]:=zg (by kernel_rfl)
theorem qt4 (h:W M ⟨none,qb8⟩ (yp 0) true (FIN3 M [.tmp 4,.tmp 5] Q) [(0,a0),(1,a1)] [] H):yz M qb8 [a0,a1] H Q:=callf (by decide) qt3 (ks:=qm1) (by kernel_rfl) h
def qi1:AFunc:=funcAt Try.prog qa7
def qmx:Kp:=⟨[0,1,4,5,6,7,8,21],false,[0,4,12]⟩
def qc7 (k:Nat):Kp × ACode:=(qmx,part qi1.body k)
theorem qtt (M:Mac) (c:Ctx):(∀ Q E D H,W M c (qc7 0) true Q E D H =
 A3 true qk [(.int .i64 0),(.int .i64 0),(.bool false),(.bool false),(.int .u64 0),(.int .u64 0),(.int .u64 0),(.int .u64 0),(.int .u64 0),(.int .u64 0),(.int .u64 0),(.int .u64 0),(.int .u64 0),(.int .u64 0),(.int .u64 0),(.int .u64 0),(.int .u64 0),(.int .u64 0),(.int .u64 0),(.int .u64 0),(.int .i64 0)] H fun g t4 H1=>Ly g E 0 fun g t0=>Ly g E 1 fun g t1=>C3 M g (.func wg) [t0,t1,(.int .i64 0)] H1 fun g t12 H2=>B3 g ((Op.extract 0) [t12]) fun g t13=>B3 g ((Op.extract 1) [t12]) fun g t14=>W M c (qc7 4) g Q ((7,t14)::(6,t13)::(5,(.int .i64 0))::(4,t4)::E) D H2) /\
 (∀ Q E D H,W M c (qc7 4) true Q E D H =
  Lz E 7 fun g t7=>Cb g .neq t7 (.int .i64 0) (fun g=>B3 g ((Op.build [(.int .i64 0),(.int .i64 0),(.bool false),(.bool false),(.int .u64 0),(.int .u64 0),(.int .u64 0),(.int .u64 0),(.int .u64 0),(.int .u64 0),(.int .u64 0),(.int .u64 0),(.int .u64 0),(.int .u64 0),(.int .u64 0),(.int .u64 0),(.int .u64 0),(.int .u64 0),(.int .u64 0),(.int .u64 0),(.int .i64 0)] []) []) fun g t17=>Ly g E 7 fun g t7_1=>Ly g E 4 fun g t4=>B32 g ((Op.store 21) [t4,t17] H) fun g u H1=>GO3 g (SEQ3 (W M c (qc7 12)) Q) .ret ((5,t7_1)::E) D H1) (fun g=>Gt g M c (qc7 12) Q E D H)) /\
 (∀ Q E D H,W M c (qc7 12) true Q E D H =
  Lz E 6 fun g t6=>B3 g (Op.nilCheck [t6]) fun g t20=>B3 g ((Op.loadN 21) [t20] H) fun g t21=>A3 g qk [(.int .i64 0),(.int .i64 0),(.bool false),(.bool false),(.int .u64 0),(.int .u64 0),(.int .u64 0),(.int .u64 0),(.int .u64 0),(.int .u64 0),(.int .u64 0),(.int .u64 0),(.int .u64 0),(.int .u64 0),(.int .u64 0),(.int .u64 0),(.int .u64 0),(.int .u64 0),(.int .u64 0),(.int .u64 0),(.int .i64 0)] H fun g t8 H1=>B32 g ((Op.store 21) [t8,t21] H1) fun g u H2=>Ly g E 6 fun g t6_1=>B3 g ((Op.build [(.int .i64 0),(.int .i64 0),(.bool false),(.bool false),(.int .u64 0),(.int .u64 0),(.int .u64 0),(.int .u64 0),(.int .u64 0),(.int .u64 0),(.int .u64 0),(.int .u64 0),(.int .u64 0),(.int .u64 0),(.int .u64 0),(.int .u64 0),(.int .u64 0),(.int .u64 0),(.int .u64 0),(.int .u64 0),(.int .i64 0)] []) []) fun g t23=>B3 g (Op.nilCheck [t6_1]) fun g t24=>B32 g ((Op.store 21) [t24,t23] H2) fun g u_1 H3=>B3 g ((Op.loadN 21) [t8] H3) fun g t25=>Ly g E 4 fun g t4=>B32 g ((Op.store 21) [t4,t25] H3) fun g u_2 H4=>GO3 g Q .ret ((5,(.int .i64 0))::(8,t8)::(21,t21)::E) D H4):=by (repeat' apply And.intro)<;>(intro _ _ _ _;refine W_unf ?_;kernel_rfl)
theorem qtr:(cProg Try.prog).func qa7=some qi1/\qi1.results=[.cellN 21 4,.tmp 5]:=zg (by kernel_rfl)
theorem qts (h:W M ⟨none,qa7⟩ (qc7 0) true (FIN3 M [.cellN 21 4,.tmp 5] Q) [(0,a0),(1,a1)] [] H):yz M qa7 [a0,a1] H Q:=callf (by decide) qtr (ks:=qmx) (by kernel_rfl) h
def qhn:AFunc:=funcAt Try.prog qbx
def qko:Kp:=⟨[0,1,4,5,6,7,8],false,[0,4,12]⟩
def qb3 (k:Nat):Kp × ACode:=(qko,part qhn.body k)
theorem qqb (M:Mac) (c:Ctx):(∀ Q E D H,W M c (qb3 0) true Q E D H =
 A3 true qad [(.int .u64 0),(.int .u64 0),(.int .u64 0),(.int .u64 0),(.int .u64 0),(.int .u64 0),(.int .u64 0),(.int .u64 0)] H fun g t4 H1=>Ly g E 0 fun g t0=>Ly g E 1 fun g t1=>C3 M g (.func wg) [t0,t1,(.int .i64 2)] H1 fun g t11 H2=>B3 g ((Op.extract 0) [t11]) fun g t12=>B3 g ((Op.extract 1) [t11]) fun g t13=>W M c (qb3 4) g Q ((7,t13)::(6,t12)::(8,t11)::(5,(.int .i64 0))::(4,t4)::E) D H2) /\
 (∀ Q E D H,W M c (qb3 4) true Q E D H =
  Lz E 7 fun g t7=>Cb g .neq t7 (.int .i64 0) (fun g=>B3 g ((Op.build [(.int .u64 0),(.int .u64 0),(.int .u64 0),(.int .u64 0),(.int .u64 0),(.int .u64 0),(.int .u64 0),(.int .u64 0)] []) []) fun g t16=>Ly g E 7 fun g t7_1=>Ly g E 4 fun g t4=>B32 g ((Op.store 8) [t4,t16] H) fun g u H1=>GO3 g (SEQ3 (W M c (qb3 12)) Q) .ret ((5,t7_1)::E) D H1) (fun g=>Gt g M c (qb3 12) Q E D H)) /\
 (∀ Q E D H,W M c (qb3 12) true Q E D H =
  Lz E 6 fun g t6=>Ns g 1 t6 (.int .i64 1) H fun g u H1=>Ly g E 6 fun g t6_1=>B3 g (Op.nilCheck [t6_1]) fun g t22=>B3 g ((Op.fieldAddr 4) [t22]) fun g t23=>B3 g ((Op.loadN 8) [t23] H1) fun g t24=>Ly g E 4 fun g t4=>B32 g ((Op.store 8) [t4,t24] H1) fun g u_1 H2=>GO3 g Q .ret ((5,(.int .i64 0))::E) D H2):=by (repeat' apply And.intro)<;>(intro _ _ _ _;refine W_unf ?_;kernel_rfl)
theorem qp9:(cProg Try.prog).func qbx=some qhn/\qhn.results=[.cellN 8 4,.tmp 5]:=zg (by kernel_rfl)
theorem qqa (h:W M ⟨none,qbx⟩ (qb3 0) true (FIN3 M [.cellN 8 4,.tmp 5] Q) [(0,a0),(1,a1)] [] H):yz M qbx [a0,a1] H Q:=callf (by decide) qp9 (ks:=qko) (by kernel_rfl) h
def qgp:AFunc:=funcAt Try.prog qa8
def qjt:Kp:=⟨[0,1,2,5,6,7,8],false,[0,4,10]⟩
def qbj (k:Nat):Kp × ACode:=(qjt,part qgp.body k)
theorem qpb (M:Mac) (c:Ctx):(∀ Q E D H,W M c (qbj 0) true Q E D H =
 Lz E 2 fun g t2=>A3 g qad (AV.cells t2) H fun g t5 H1=>Ly g E 0 fun g t0=>Ly g E 1 fun g t1=>C3 M g (.func wg) [t0,t1,(.int .i64 1)] H1 fun g t12 H2=>B3 g ((Op.extract 0) [t12]) fun g t13=>B3 g ((Op.extract 1) [t12]) fun g t14=>W M c (qbj 4) g Q ((8,t14)::(7,t13)::(6,(.int .i64 0))::(5,t5)::E) D H2) /\
 (∀ Q E D H,W M c (qbj 4) true Q E D H =
  Lz E 8 fun g t8=>Cb g .eql t8 (.int .i64 0) (fun g=>Ly g E 7 fun g t7=>Ly g E 5 fun g t5=>B3 g ((Op.loadN 8) [t5] H) fun g t19=>Ns g 1 t7 (.int .i64 2) H fun g u H1=>CK3 g ((Op.loadN 8) [t5] H1) (some t19) fun g=>B3 g (Op.nilCheck [t7]) fun g t22=>B3 g ((Op.fieldAddr 4) [t22]) fun g t23=>B32 g ((Op.store 8) [t23,t19] H1) fun g u_1 H2=>Gt g M c (qbj 10) Q E D H2) (fun g=>Gt g M c (qbj 10) Q E D H)) /\
 (∀ Q E D H,W M c (qbj 10) true Q E D H =
  Lz E 8 fun g t8=>GO3 g Q .ret ((6,t8)::E) D H):=by (repeat' apply And.intro)<;>(intro _ _ _ _;refine W_unf ?_;kernel_rfl)
theorem qo9:(cProg Try.prog).func qa8=some qgp/\qgp.results=[.tmp 6]:=zg (by kernel_rfl)
theorem qpa (h:W M ⟨none,qa8⟩ (qbj 0) true (FIN3 M [.tmp 6] Q) [(0,a0),(1,a1),(2,a2)] [] H):yz M qa8 [a0,a1,a2] H Q:=callf (by decide) qo9 (ks:=qjt) (by kernel_rfl) h
def qi2:AFunc:=funcAt Try.prog qah
def qmy:Kp:=⟨[0,1,2,3,7,8,9,10,11,12,21],false,[0,2,16,23,25,33]⟩
def jz (k:Nat):Kp × ACode:=(qmy,part qi2.body k)
theorem qtw (M:Mac) (c:Ctx):(∀ Q E D H,W M c (jz 0) true Q E D H =
 Lz E 3 fun g t3=>A3 g qad (AV.cells t3) H fun g t7 H1=>A3 g qk [(.int .i64 0),(.int .i64 0),(.bool false),(.bool false),(.int .u64 0),(.int .u64 0),(.int .u64 0),(.int .u64 0),(.int .u64 0),(.int .u64 0),(.int .u64 0),(.int .u64 0),(.int .u64 0),(.int .u64 0),(.int .u64 0),(.int .u64 0),(.int .u64 0),(.int .u64 0),(.int .u64 0),(.int .u64 0),(.int .i64 0)] H1 fun g t8 H2=>W M c (jz 2) g Q ((10,(.int .i64 0))::(9,(.bool false))::(8,t8)::(7,t7)::E) D H2) /\
 (∀ Q E D H,W M c (jz 2) true Q E D H =
  Lz E 0 fun g t0=>B3 g ((Op.eq .ptr false) [t0,.nilp] H) fun g t15=>IF3 g t15 (fun g=>B3 g ((Op.build [(.int .i64 0),(.int .i64 0),(.bool false),(.bool false),(.int .u64 0),(.int .u64 0),(.int .u64 0),(.int .u64 0),(.int .u64 0),(.int .u64 0),(.int .u64 0),(.int .u64 0),(.int .u64 0),(.int .u64 0),(.int .u64 0),(.int .u64 0),(.int .u64 0),(.int .u64 0),(.int .u64 0),(.int .u64 0),(.int .i64 0)] []) []) fun g t16=>Ly g E 8 fun g t8=>B32 g ((Op.store 21) [t8,t16] H) fun g u H1=>GO3 g (BLK3 0 (SEQ3 (W M c (jz 23)) Q)) .ret ((10,(.int .i64 1))::(9,(.bool false))::E) D H1) (fun g=>Ly g E 1 fun g t1=>Bn g .lss t1 (.int .i64 0) fun g t19=>JN (fun (k:Bool->AV->AV->AV->AHeap->Prop)=>B3 g (wantV false (some t19)) fun g w=>IG3 g w (fun g=>Ly g E 2 fun g t2=>Bn g .neq t2 (.int .i64 1) fun g t22=>k g t22 t22 t2 H) (fun g=>k g uu uu uu H)) (fun g t23_1 t22_1 t21_1 H1=>JN (fun (k:Bool->AV->AV->AHeap->Prop)=>B3 g (wantV true (some t23_1)) fun g w=>IG3 g w (fun g=>Ly g E 2 fun g t2_1=>Bn g .neq t2_1 (.int .i64 2) fun g t25=>k g t25 t2_1 H1) (fun g=>k g uu uu H1)) (fun g t25_1 t24_1 H2=>JN (fun (k:Bool->AV->AHeap->Prop)=>B3 g (wantV false (some t19)) fun g w=>IG3 g w (fun g=>B3 g (Op.pick [t23_1,t25_1,(.bool false)]) fun g t26=>k g t26 H2) (fun g=>k g uu H2)) (fun g t26_1 H3=>B3 g (Op.pick [t19,(.bool true),t26_1]) fun g t27=>IF3 g t27 (fun g=>B3 g ((Op.build [(.int .i64 0),(.int .i64 0),(.bool false),(.bool false),(.int .u64 0),(.int .u64 0),(.int .u64 0),(.int .u64 0),(.int .u64 0),(.int .u64 0),(.int .u64 0),(.int .u64 0),(.int .u64 0),(.int .u64 0),(.int .u64 0),(.int .u64 0),(.int .u64 0),(.int .u64 0),(.int .u64 0),(.int .u64 0),(.int .i64 0)] []) []) fun g t28=>Ly g E 8 fun g t8=>B32 g ((Op.store 21) [t8,t28] H3) fun g u H4=>GO3 g (BLK3 0 (SEQ3 (W M c (jz 23)) Q)) .ret ((10,(.int .i64 2))::(9,(.bool false))::(21,t21_1)::E) D H4) (fun g=>W M c (jz 16) g (BLK3 0 (SEQ3 (W M c (jz 23)) Q)) ((21,t21_1)::E) D H3)))))) /\
 (∀ Q E D H,W M c (jz 23) true Q E D H =
  Lz E 0 fun g t0=>Ly g E 1 fun g t1=>C3 M g (.func qba) [t0,t1] H fun g t37 H1=>W M c (jz 25) g Q ((11,t37)::E) D H1) /\
 (∀ Q E D H,W M c (jz 16) true Q E D H =
  Lz E 0 fun g t0=>Ly g E 1 fun g t1=>C3 M g (.func qa9) [t0,t1] H fun g t32 H1=>B3 g ((Op.eq .ptr true) [t32,.nilp] H1) fun g t33=>IF3 g t33 (fun g=>B3 g ((Op.build [(.int .i64 0),(.int .i64 0),(.bool false),(.bool false),(.int .u64 0),(.int .u64 0),(.int .u64 0),(.int .u64 0),(.int .u64 0),(.int .u64 0),(.int .u64 0),(.int .u64 0),(.int .u64 0),(.int .u64 0),(.int .u64 0),(.int .u64 0),(.int .u64 0),(.int .u64 0),(.int .u64 0),(.int .u64 0),(.int .i64 0)] []) []) fun g t34=>Ly g E 8 fun g t8=>B32 g ((Op.store 21) [t8,t34] H1) fun g u H2=>GO3 g Q .ret ((10,(.int .i64 21))::(9,(.bool false))::E) D H2) (fun g=>GO3 g Q .normal E D H1)) /\
 (∀ Q E D H,W M c (jz 25) true Q E D H =
  Lz E 11 fun g t11=>B3 g ((Op.eq .ptr false) [t11,.nilp] H) fun g t39=>IF3 g t39 (fun g=>B3 g ((Op.build [(.int .i64 0),(.int .i64 0),(.bool false),(.bool false),(.int .u64 0),(.int .u64 0),(.int .u64 0),(.int .u64 0),(.int .u64 0),(.int .u64 0),(.int .u64 0),(.int .u64 0),(.int .u64 0),(.int .u64 0),(.int .u64 0),(.int .u64 0),(.int .u64 0),(.int .u64 0),(.int .u64 0),(.int .u64 0),(.int .i64 0)] []) []) fun g t40=>Ly g E 8 fun g t8=>B32 g ((Op.store 21) [t8,t40] H) fun g u H1=>GO3 g (SEQ3 (W M c (jz 33)) Q) .ret ((10,(.int .i64 22))::(9,(.bool false))::E) D H1) (fun g=>Gt g M c (jz 33) Q E D H)) /\
 (∀ Q E D H,W M c (jz 33) true Q E D H =
  Lz E 11 fun g t11=>B3 g (Op.nilCheck [t11]) fun g t42=>B3 g ((Op.loadN 21) [t42] H) fun g t43=>A3 g qk [(.int .i64 0),(.int .i64 0),(.bool false),(.bool false),(.int .u64 0),(.int .u64 0),(.int .u64 0),(.int .u64 0),(.int .u64 0),(.int .u64 0),(.int .u64 0),(.int .u64 0),(.int .u64 0),(.int .u64 0),(.int .u64 0),(.int .u64 0),(.int .u64 0),(.int .u64 0),(.int .u64 0),(.int .u64 0),(.int .i64 0)] H fun g t12 H1=>B32 g ((Op.store 21) [t12,t43] H1) fun g u H2=>Ly g E 11 fun g t11_1=>Ly g E 1 fun g t1=>Ly g E 2 fun g t2=>Ly g E 7 fun g t7=>B3 g ((Op.loadN 8) [t7] H2) fun g t47=>B3 g ((Op.build [(.int .i64 0),(.int .i64 0),(.bool false),(.bool false),(.int .u64 0),(.int .u64 0),(.int .u64 0),(.int .u64 0),(.int .u64 0),(.int .u64 0),(.int .u64 0),(.int .u64 0),(.int .u64 0),(.int .u64 0),(.int .u64 0),(.int .u64 0),(.int .u64 0),(.int .u64 0),(.int .u64 0),(.int .u64 0),(.int .i64 0)] [(0,1),(1,1),(4,8)]) [t1,t2,t47]) fun g t48=>B3 g (Op.nilCheck [t11_1]) fun g t49=>B32 g ((Op.store 21) [t49,t48] H2) fun g u_1 H3=>Ly g E 0 fun g t0=>Ly g E 11 fun g t11_2=>C3 M g (.func qcv) [t0,t11_2] H3 fun g t52 H4=>B3 g ((Op.loadN 21) [t12] H4) fun g t53=>B3 g ((Op.fieldAddr 1) [t12]) fun g t54=>B3 g (Op.load1 [t54] H4) fun g t55=>Bn g .neq t55 (.int .i64 0) fun g t56=>Ly g E 8 fun g t8=>B32 g ((Op.store 21) [t8,t53] H4) fun g u_2 H5=>CK3 g (Op.load1 [t54] H5) (some t55) fun g=>GO3 g Q .ret ((10,(.int .i64 0))::(9,t56)::(12,t12)::E) D H5):=by (repeat' apply And.intro)<;>(intro _ _ _ _;refine W_unf ?_;kernel_rfl)
theorem qtu:(cProg Try.prog).func qah=some qi2/\qi2.results=[.cellN 21 8,.tmp 9,.tmp 10]:=zg (by kernel_rfl)
theorem qtv (h:W M ⟨none,qah⟩ (jz 0) true (FIN3 M [.cellN 21 8,.tmp 9,.tmp 10] Q) [(0,a0),(1,a1),(2,a2),(3,a3)] [] H):yz M qah [a0,a1,a2,a3] H Q:=callf (by decide) qtu (ks:=qmy) (by kernel_rfl) h
def qi6:AFunc:=funcAt Try.prog qb9
def qm3:Kp:=⟨[0,1,2],false,[0]⟩
def qm4 (k:Nat):Kp × ACode:=(qm3,part qi6.body k)
theorem qt8 (M:Mac) (c:Ctx):(∀ Q E D H,W M c (qm4 0) true Q E D H =
 Lz E 0 fun g t0=>A3 g yi (AV.cells t0) H fun g t1 H1=>B3 g ((Op.mkFunc yb 0) [t1]) fun g t3=>GO3 g Q .ret ((2,t3)::(2,.nilf)::(1,t1)::E) D H1):=by intro _ _ _ _;refine W_unf ?_;kernel_rfl
theorem qt6:(cProg Try.prog).func qb9=some qi6/\qi6.results=[.tmp 2]:=zg (by kernel_rfl)
theorem qt7 (h:W M ⟨none,qb9⟩ (qm4 0) true (FIN3 M [.tmp 2] Q) [(0,a0)] [] H):yz M qb9 [a0] H Q:=callf (by decide) qt6 (ks:=qm3) (by kernel_rfl) h
def qh6:AFunc:=funcAt Try.prog qcj
def qlt:Kp:=⟨[0,1,2,3,4],false,[0]⟩
def qlu (k:Nat):Kp × ACode:=(qlt,part qh6.body k)
theorem qrn (M:Mac) (c:Ctx):(∀ Q E D H,W M c (qlu 0) true Q E D H =
 Lz E 0 fun g t0=>A3 g qk (AV.cells t0) H fun g t2 H1=>Ly g E 1 fun g t1=>A3 g qk (AV.cells t1) H1 fun g t3 H2=>Fl g 0 t2 H2 fun g t6=>Fl g 0 t3 H2 fun g t8=>C3 M g (.func qbw) [t6,t8] H2 fun g t9 H3=>GO3 g Q .ret ((4,t9)::(4,(.int .i64 0))::(3,t3)::(2,t2)::E) D H3):=by intro _ _ _ _;refine W_unf ?_;kernel_rfl
theorem qrl:(cProg Try.prog).func qcj=some qh6/\qh6.results=[.tmp 4]:=zg (by kernel_rfl)
theorem qrm (h:W M ⟨none,qcj⟩ (qlu 0) true (FIN3 M [.tmp 4] Q) [(0,a0),(1,a1)] [] H):yz M qcj [a0,a1] H Q:=callf (by decide) qrl (ks:=qlt) (by kernel_rfl) h
def qla:AFunc:=funcAt Try.prog wg
def qpe:Kp:=⟨[0,1,2,6,7,8],false,[0,2,10,12,20]⟩
def qao (k:Nat):Kp × ACode:=(qpe,part qla.body k)
theorem qxr (M:Mac) (c:Ctx):(∀ Q E D H,W M c (qao 0) true Q E D H =
 W M c (qao 2) true Q ((7,(.int .i64 0))::(6,.nilp)::E) D H) /\
 (∀ Q E D H,W M c (qao 2) true Q E D H =
  Lz E 0 fun g t0=>B3 g ((Op.eq .ptr false) [t0,.nilp] H) fun g t10=>IF3 g t10 (fun g=>GO3 g (SEQ3 (W M c (qao 10)) Q) .ret ((7,(.int .i64 1))::(6,.nilp)::E) D H) (fun g=>Gt g M c (qao 10) Q E D H)) /\
 (∀ Q E D H,W M c (qao 10) true Q E D H =
  Lz E 0 fun g t0=>Ly g E 1 fun g t1=>C3 M g (.func qa9) [t0,t1] H fun g t13 H1=>W M c (qao 12) g Q ((8,t13)::E) D H1) /\
 (∀ Q E D H,W M c (qao 12) true Q E D H =
  Lz E 8 fun g t8=>B3 g ((Op.eq .ptr false) [t8,.nilp] H) fun g t15=>JN (fun (k:Bool->AV->AV->AV->AHeap->Prop)=>B3 g (wantV false (some t15)) fun g w=>IG3 g w (fun g=>Ly g E 2 fun g t2=>Bn g .neq t2 (.int .i64 0) fun g t18=>k g t18 t18 t2 H) (fun g=>k g uu uu uu H)) (fun g t19_1 t18_1 t17_1 H1=>JN (fun (k:Bool->AV->AV->AV->AV->AV->AV->AHeap->Prop)=>B3 g (wantV true (some t19_1)) fun g w=>IG3 g w (fun g=>B3 g (Op.nilCheck [t8]) fun g t21=>B3 g ((Op.fieldAddr 1) [t21]) fun g t22=>B3 g (Op.load1 [t22] H1) fun g t23=>Ly g E 2 fun g t2_1=>Bn g .neq t23 t2_1 fun g t25=>k g t25 t2_1 t23 t22 t21 t8 H1) (fun g=>k g uu uu uu uu uu uu H1)) (fun g t25_1 t24_1 t23_1 t22_1 t21_1 t20_1 H2=>JN (fun (k:Bool->AV->AHeap->Prop)=>B3 g (wantV false (some t15)) fun g w=>IG3 g w (fun g=>B3 g (Op.pick [t19_1,t25_1,(.bool false)]) fun g t26=>k g t26 H2) (fun g=>k g uu H2)) (fun g t26_1 H3=>B3 g (Op.pick [t15,(.bool true),t26_1]) fun g t27=>IF3 g t27 (fun g=>GO3 g (SEQ3 (W M c (qao 20)) Q) .ret ((7,(.int .i64 20))::(6,.nilp)::E) D H3) (fun g=>Gt g M c (qao 20) Q E D H3))))) /\
 (∀ Q E D H,W M c (qao 20) true Q E D H =
  Lz E 8 fun g t8=>GO3 g Q .ret ((7,(.int .i64 0))::(6,t8)::E) D H):=by (repeat' apply And.intro)<;>(intro _ _ _ _;refine W_unf ?_;kernel_rfl)
theorem qxp:(cProg Try.prog).func wg=some qla/\qla.results=[.tmp 6,.tmp 7]:=zg (by kernel_rfl)
theorem qxq (h:W M ⟨none,wg⟩ (qao 0) true (FIN3 M [.tmp 6,.tmp 7] Q) [(0,a0),(1,a1),(2,a2)] [] H):yz M wg [a0,a1,a2] H Q:=callf (by decide) qxp (ks:=qpe) (by kernel_rfl) h
def qj5:AFunc:=funcAt Try.prog qcv
def qoa:Kp:=⟨[0,1],false,[0]⟩
def qob (k:Nat):Kp × ACode:=(qoa,part qj5.body k)
theorem qv1 (M:Mac) (c:Ctx):(∀ Q E D H,W M c (qob 0) true Q E D H =
 Lz E 0 fun g t0=>Nf g 3 t0 H fun g t7=>Bn g .add t7 (.int .i64 1) fun g t8=>Ns g 3 t0 t8 H fun g u H1=>Ly g E 1 fun g t1=>Ly g E 0 fun g t0_1=>Nf g 3 t0_1 H1 fun g t15=>Ns g 20 t1 t15 H1 fun g u_1 H2=>GO3 g Q .normal E D H2):=by intro _ _ _ _;refine W_unf ?_;kernel_rfl
theorem qvz:(cProg Try.prog).func qcv=some qj5/\qj5.results=[]:=zg (by kernel_rfl)
theorem qv0 (h:W M ⟨none,qcv⟩ (qob 0) true (FIN3 M [] Q) [(0,a0),(1,a1)] [] H):yz M qcv [a0,a1] H Q:=callf (by decide) qvz (ks:=qoa) (by kernel_rfl) h
def qek:AFunc:=funcAt Try.prog qa9
def qel:Kp:=⟨[0,1,3,4,5,8,9],false,[0,2,7]⟩
def qfv (k:Nat):Kp × ACode:=(qel,part qek.body k)
def qdw:ALoop:=loopAt qek 0
def qn6 (k:Nat):Kp × ACode:=(⟨qel.keep,qel.pan,[0]⟩,part qdw.assign k)
def qn7 (k:Nat):Kp × ACode:=(⟨qel.keep,qel.pan,[0]⟩,part qdw.body k)
theorem qm2:nth qek.loops 0=some qdw/\qdw.params=[9]:=⟨by kernel_rfl,by kernel_rfl⟩
theorem qpd (M:Mac) (c:Ctx):(∀ Q E D H,W M c (qfv 0) true Q E D H =
 Lz E 1 fun g t1=>A3 g T_int (AV.cells t1) H fun g t3 H1=>A3 g jk [.nilp] H1 fun g t4 H2=>W M c (qfv 2) g Q ((4,t4)::(3,t3)::E) D H2) /\
 (∀ Q E D H,W M c (qn6 0) true Q E D H =
  Lz E 9 fun g t9=>GO3 g Q .normal ((5,t9)::E) D H) /\
 (∀ Q E D H,W M c (qn7 0) true Q E D H =
  Lz E 5 fun g t5=>Nf g 1 t5 H fun g t13=>Bn g .neq t13 (.int .i64 0) fun g t14=>JN (fun (k:Bool->AV->AV->AV->AV->AV->AV->AHeap->Prop)=>B3 g (wantV true (some t14)) fun g w=>IG3 g w (fun g=>B3 g (Op.nilCheck [t5]) fun g t17=>B3 g ((Op.fieldAddr 0) [t17]) fun g t18=>B3 g (Op.load1 [t18] H) fun g t19=>Ly g E 3 fun g t3=>B3 g (Op.load1 [t3] H) fun g t20=>Bn g .eql t19 t20 fun g t21=>k g t21 t20 t19 t18 t17 t5 H) (fun g=>k g uu uu uu uu uu uu H)) (fun g t21_1 t20_1 t19_1 t18_1 t17_1 t16_1 H1=>B3 g (Op.pick [t14,t21_1,(.bool false)]) fun g t22=>IF3 g t22 (fun g=>Ly g E 5 fun g t5_1=>Ly g E 4 fun g t4=>B32 g ((Op.store 1) [t4,t5_1] H1) fun g u H2=>GO3 g (BLK3 1 Q) .ret E D H2) (fun g=>GO3 g (BLK3 1 Q) .normal E D H1))) /\
 (∀ Q E D H,W M c (qfv 2) true Q E D H =
  Lz E 0 fun g t0=>Ly g E 3 fun g t3=>B3 g (Op.load1 [t3] H) fun g t7=>C3 M g (.func qds) [t0,t7] H fun g t8 H1=>RNG3 M qel.keep c 0 ((8,t8)::E) D H1 (BLK3 0 (SEQ3 (W M c (qfv 7)) Q)) t8) /\
 (∀ Q E D H,W M c (qfv 7) true Q E D H =
  Lz E 4 fun g t4=>B32 g ((Op.store 1) [t4,.nilp] H) fun g u H1=>GO3 g Q .ret E D H1):=by (repeat' apply And.intro)<;>(intro _ _ _ _;refine W_unf ?_;kernel_rfl)
theorem qpc:(cProg Try.prog).func qa9=some qek/\qek.results=[.cell1 4]:=zg (by kernel_rfl)
theorem qvv:M.func qa9=some qek:=MK.at (by decide) qpc.1
theorem qxo (h:W M ⟨none,qa9⟩ (qfv 0) true (FIN3 M [.cell1 4] Q) [(0,a0),(1,a1)] [] H):yz M qa9 [a0,a1] H Q:=callf (by decide) qpc (ks:=qel) (by kernel_rfl) h
def qc9:AFunc:=funcAt Try.prog qba
def qda:Kp:=⟨[0,1,4,5,6,9,10],false,[0,2,3,5,7,12]⟩
def ye (k:Nat):Kp × ACode:=(qda,part qc9.body k)
def qcl:ALoop:=loopAt qc9 0
def qlw (k:Nat):Kp × ACode:=(⟨qda.keep,qda.pan,[0]⟩,part qcl.assign k)
def qbq (k:Nat):Kp × ACode:=(⟨qda.keep,qda.pan,[0,9,15]⟩,part qcl.body k)
theorem qkq:nth qc9.loops 0=some qcl/\qcl.params=[10]:=⟨by kernel_rfl,by kernel_rfl⟩
theorem qm6 (M:Mac) (c:Ctx):(∀ Q E D H,W M c (ye 0) true Q E D H =
 A3 true jk [.nilp] H fun g t4 H1=>W M c (ye 2) g Q ((4,t4)::E) D H1) /\
 (∀ Q E D H,W M c (qlw 0) true Q E D H =
  Lz E 10 fun g t10=>GO3 g Q .normal ((6,t10)::E) D H) /\
 (∀ Q E D H,W M c (qbq 0) true Q E D H =
  Lz E 6 fun g t6=>Nf g 1 t6 H fun g t14=>Cb g .eql t14 (.int .i64 0) (fun g=>Ly g E 6 fun g t6_1=>Ly g E 4 fun g t4=>B32 g ((Op.store 1) [t4,t6_1] H) fun g u H1=>GO3 g (SEQ3 (W M c (qbq 9)) (BLK3 1 Q)) .ret E D H1) (fun g=>Gt g M c (qbq 9) (BLK3 1 Q) E D H)) /\
 (∀ Q E D H,W M c (ye 2) true Q E D H =
  W M c (ye 3) true (SCP3 (ye 3).2 Q) E D H) /\
 (∀ Q E D H,W M c (qbq 9) true Q E D H =
  Lz E 6 fun g t6=>Nf g 2 t6 H fun g t20=>JN (fun (k:Bool->AV->AV->AV->AV->AHeap->Prop)=>B3 g (wantV false (some t20)) fun g w=>IG3 g w (fun g=>B3 g (Op.nilCheck [t6]) fun g t23=>B3 g ((Op.fieldAddr 3) [t23]) fun g t24=>B3 g (Op.load1 [t24] H) fun g t25=>k g t25 t24 t23 t6 H) (fun g=>k g uu uu uu uu H)) (fun g t25_1 t24_1 t23_1 t22_1 H1=>B3 g (Op.pick [t20,(.bool true),t25_1]) fun g t26=>IF3 g t26 (fun g=>GO3 g (SEQ3 (W M c (qbq 15)) Q) (.exit 1) E D H1) (fun g=>Gt g M c (qbq 15) Q E D H1))) /\
 (∀ Q E D H,W M c (ye 3) true Q E D H =
  A3 true jk [.nilp] H fun g t5 H1=>W M c (ye 5) g Q ((5,t5)::E) D H1) /\
 (∀ Q E D H,W M c (qbq 15) true Q E D H =
  Lz E 5 fun g t5=>B3 g (Op.load1 [t5] H) fun g t27=>B3 g ((Op.eq .ptr false) [t27,.nilp] H) fun g t28=>JN (fun (k:Bool->AV->AV->AV->AV->AV->AV->AV->AV->AV->AHeap->Prop)=>B3 g (wantV false (some t28)) fun g w=>IG3 g w (fun g=>Ly g E 6 fun g t6=>B3 g (Op.nilCheck [t6]) fun g t31=>B3 g ((Op.fieldAddr 20) [t31]) fun g t32=>B3 g (Op.load1 [t32] H) fun g t33=>B3 g (Op.load1 [t5] H) fun g t34=>B3 g (Op.nilCheck [t34]) fun g t35=>B3 g ((Op.fieldAddr 20) [t35]) fun g t36=>B3 g (Op.load1 [t36] H) fun g t37=>Bn g .lss t33 t37 fun g t38=>k g t38 t37 t36 t35 t34 t33 t32 t31 t6 H) (fun g=>k g uu uu uu uu uu uu uu uu uu H)) (fun g t38_1 t37_1 t36_1 t35_1 t34_1 t33_1 t32_1 t31_1 t30_1 H1=>B3 g (Op.pick [t28,(.bool true),t38_1]) fun g t39=>IF3 g t39 (fun g=>Ly g E 6 fun g t6_1=>Ly g E 5 fun g t5_1=>B32 g ((Op.store 1) [t5_1,t6_1] H1) fun g u H2=>GO3 g Q .normal E D H2) (fun g=>GO3 g Q .normal E D H1))) /\
 (∀ Q E D H,W M c (ye 5) true Q E D H =
  Gt true M c (ye 7) Q E D H) /\
 (∀ Q E D H,W M c (ye 7) true Q E D H =
  Lz E 0 fun g t0=>Ly g E 1 fun g t1=>C3 M g (.func qds) [t0,t1] H fun g t9 H1=>RNG3 M qda.keep c 0 ((9,t9)::E) D H1 (BLK3 0 (SEQ3 (W M c (ye 12)) Q)) t9) /\
 (∀ Q E D H,W M c (ye 12) true Q E D H =
  Lz E 5 fun g t5=>B3 g (Op.load1 [t5] H) fun g t41=>Ly g E 4 fun g t4=>B32 g ((Op.store 1) [t4,t41] H) fun g u H1=>GO3 g Q .ret E D H1):=by (repeat' apply And.intro)<;>(intro _ _ _ _;refine W_unf ?_;kernel_rfl)
theorem qm5:(cProg Try.prog).func qba=some qc9/\qc9.results=[.cell1 4]:=zg (by kernel_rfl)
theorem qro:M.func qba=some qc9:=MK.at (by decide) qm5.1
theorem qt9 (h:W M ⟨none,qba⟩ (ye 0) true (FIN3 M [.cell1 4] Q) [(0,a0),(1,a1)] [] H):yz M qba [a0,a1] H Q:=callf (by decide) qm5 (ks:=qda) (by kernel_rfl) h
def qho:AFunc:=funcAt Try.prog yb
def qkp:Kp:=⟨[0,1,3,10,11],false,[0,1,7,9,13,19,23,29,34]⟩
def zo (k:Nat):Kp × ACode:=(qkp,part qho.body k)
theorem qqe (M:Mac) (c:Ctx):(∀ Q E D H,W M c (zo 0) true Q E D H =
 W M c (zo 1) true (SCP3 (zo 1).2 Q) E D H) /\
 (∀ Q E D H,W M c (zo 1) true Q E D H =
  Lz E 1 fun g t1=>B3 g (Op.load1 [t1] H) fun g t4=>B3 g ((Op.eq .ptr false) [t4,.nilp] H) fun g t5=>IF3 g t5 (fun g=>GO3 g (SEQ3 (W M c (zo 7)) Q) .ret E D H) (fun g=>Gt g M c (zo 7) Q E D H)) /\
 (∀ Q E D H,W M c (zo 7) true Q E D H =
  Gt true M c (zo 9) Q E D H) /\
 (∀ Q E D H,W M c (zo 9) true Q E D H =
  Lz E 1 fun g t1=>B3 g (Op.load1 [t1] H) fun g t6=>Nf g 2 t6 H fun g t9=>B3 g (Op.lenSl [t9]) fun g t10=>LOOP3 (W M c (zo 13)) (BLK3 0 Q) ((11,(.int .i64 0))::(10,t10)::E) D H) /\
 (∀ Q E D H,W M c (zo 13) true Q E D H =
  Lz E 11 fun g t11=>Ly g E 10 fun g t10=>Cb g .lss t11 t10 (fun g=>Gt g M c (zo 19) Q E D H) (fun g=>GO3 g (SEQ3 (W M c (zo 19)) Q) (.exit 0) E D H)) /\
 (∀ Q E D H,W M c (zo 19) true Q E D H =
  Lz E 11 fun g t11=>W M c (zo 23) g (BLK3 1 (SEQ3 (W M c (zo 34)) Q)) ((3,t11)::E) D H) /\
 (∀ Q E D H,W M c (zo 34) true Q E D H =
  Lz E 11 fun g t11=>Bn g .add t11 (.int .i64 1) fun g t32=>GO3 g Q .normal ((11,t32)::E) D H) /\
 (∀ Q E D H,W M c (zo 23) true Q E D H =
  Lz E 1 fun g t1=>B3 g (Op.load1 [t1] H) fun g t14=>Nf g 2 t14 H fun g t17=>Ly g E 3 fun g t3=>B3 g ((Op.indexSl 21) [t17,t3]) fun g t19=>Fl g 1 t19 H fun g t21=>Cb g .eql t21 (.int .i64 0) (fun g=>GO3 g (SEQ3 (W M c (zo 29)) Q) (.exit 1) E D H) (fun g=>Gt g M c (zo 29) Q E D H)) /\
 (∀ Q E D H,W M c (zo 29) true Q E D H =
  Lz E 0 fun g t0=>Ly g E 1 fun g t1=>B3 g (Op.load1 [t1] H) fun g t24=>Nf g 2 t24 H fun g t27=>Ly g E 3 fun g t3=>B3 g ((Op.indexSl 21) [t27,t3]) fun g t29=>V3 g [t0,t29] fun g f vs=>C3 M g f vs H fun g t30 H1=>B3 g ((Op.un .not) [t30]) fun g t31=>IF3 g t31 (fun g=>GO3 g Q .ret E D H1) (fun g=>GO3 g Q .normal E D H1)):=by (repeat' apply And.intro)<;>(intro _ _ _ _;refine W_unf ?_;kernel_rfl)
theorem qqc:(cProg Try.prog).func yb=some qho/\qho.results=[]:=zg (by kernel_rfl)
theorem qqd (h:W M ⟨none,yb⟩ (zo 0) true (FIN3 M [] Q) [(0,a0),(1,a1)] [] H):yz M yb [a0,a1] H Q:=callf (by decide) qqc (ks:=qkp) (by kernel_rfl) h
def qhi:AFunc:=funcAt Try.prog qbw
def qke:Kp:=⟨[0,1,4,5,6],false,[0,4,6,10,18,22,30,38,46]⟩
def zk (k:Nat):Kp × ACode:=(qke,part qhi.body k)
theorem qp4 (M:Mac) (c:Ctx):(∀ Q E D H,W M c (zk 0) true Q E D H =
 Lz E 0 fun g t0=>C3 M g (.func qc4) [t0] H fun g t8 H1=>W M c (zk 4) g Q ((5,t8)::(4,(.int .i64 0))::E) D H1) /\
 (∀ Q E D H,W M c (zk 4) true Q E D H =
  Lz E 1 fun g t1=>C3 M g (.func qc4) [t1] H fun g t10 H1=>W M c (zk 6) g Q ((6,t10)::E) D H1) /\
 (∀ Q E D H,W M c (zk 6) true Q E D H =
  Lz E 5 fun g t5=>IF3 g t5 (fun g=>W M c (zk 10) g (SEQ3 (W M c (zk 22)) Q) E D H) (fun g=>Gt g M c (zk 22) Q E D H)) /\
 (∀ Q E D H,W M c (zk 22) true Q E D H =
  Lz E 6 fun g t6=>IF3 g t6 (fun g=>GO3 g (SEQ3 (W M c (zk 30)) Q) .ret ((4,(.int .i64 1))::E) D H) (fun g=>Gt g M c (zk 30) Q E D H)) /\
 (∀ Q E D H,W M c (zk 10) true Q E D H =
  Lz E 6 fun g t6=>IF3 g t6 (fun g=>GO3 g (SEQ3 (W M c (zk 18)) Q) .ret ((4,(.int .i64 0))::E) D H) (fun g=>Gt g M c (zk 18) Q E D H)) /\
 (∀ Q E D H,W M c (zk 30) true Q E D H =
  Lz E 0 fun g t0=>Ly g E 1 fun g t1=>Cb g .lss t0 t1 (fun g=>GO3 g (SEQ3 (W M c (zk 38)) Q) .ret ((4,(.int .i64 (-1)))::E) D H) (fun g=>Gt g M c (zk 38) Q E D H)) /\
 (∀ Q E D H,W M c (zk 18) true Q E D H =
  GO3 true Q .ret ((4,(.int .i64 (-1)))::E) D H) /\
 (∀ Q E D H,W M c (zk 38) true Q E D H =
  Lz E 0 fun g t0=>Ly g E 1 fun g t1=>Cb g .gtr t0 t1 (fun g=>GO3 g (SEQ3 (W M c (zk 46)) Q) .ret ((4,(.int .i64 1))::E) D H) (fun g=>Gt g M c (zk 46) Q E D H)) /\
 (∀ Q E D H,W M c (zk 46) true Q E D H =
  GO3 true Q .ret ((4,(.int .i64 0))::E) D H):=by (repeat' apply And.intro)<;>(intro _ _ _ _;refine W_unf ?_;kernel_rfl)
theorem qp2:(cProg Try.prog).func qbw=some qhi/\qhi.results=[.tmp 4]:=zg (by kernel_rfl)
theorem qp3 (h:W M ⟨none,qbw⟩ (zk 0) true (FIN3 M [.tmp 4] Q) [(0,a0),(1,a1)] [] H):yz M qbw [a0,a1] H Q:=callf (by decide) qp2 (ks:=qke) (by kernel_rfl) h
def qj4:AFunc:=funcAt Try.prog qds
def qn8:Kp:=⟨[0,1,2,3,4],false,[0]⟩
def qn9 (k:Nat):Kp × ACode:=(qn8,part qj4.body k)
theorem qvy (M:Mac) (c:Ctx):(∀ Q E D H,W M c (qn9 0) true Q E D H =
 Lz E 0 fun g t0=>A3 g yi (AV.cells t0) H fun g t2 H1=>Ly g E 1 fun g t1=>A3 g T_int (AV.cells t1) H1 fun g t3 H2=>B3 g ((Op.mkFunc yo 0) [t2,t3]) fun g t5=>GO3 g Q .ret ((4,t5)::(4,.nilf)::(3,t3)::(2,t2)::E) D H2):=by intro _ _ _ _;refine W_unf ?_;kernel_rfl
theorem qvw:(cProg Try.prog).func qds=some qj4/\qj4.results=[.tmp 4]:=zg (by kernel_rfl)
theorem qvx (h:W M ⟨none,qds⟩ (qn9 0) true (FIN3 M [.tmp 4] Q) [(0,a0),(1,a1)] [] H):yz M qds [a0,a1] H Q:=callf (by decide) qvw (ks:=qn8) (by kernel_rfl) h
def qiw:AFunc:=funcAt Try.prog qc4
def qmm:Kp:=⟨[0,2],false,[0]⟩
def qmn (k:Nat):Kp × ACode:=(qmm,part qiw.body k)
theorem qta (M:Mac) (c:Ctx):(∀ Q E D H,W M c (qmn 0) true Q E D H =
 Lz E 0 fun g t0=>Bn g .neq t0 t0 fun g t5=>GO3 g Q .ret ((2,t5)::(2,(.bool false))::E) D H):=by intro _ _ _ _;refine W_unf ?_;kernel_rfl
theorem qs8:(cProg Try.prog).func qc4=some qiw/\qiw.results=[.tmp 2]:=zg (by kernel_rfl)
theorem qs9 (h:W M ⟨none,qc4⟩ (qmn 0) true (FIN3 M [.tmp 2] Q) [(0,a0)] [] H):yz M qc4 [a0] H Q:=callf (by decide) qs8 (ks:=qmm) (by kernel_rfl) h
def qh7:AFunc:=funcAt Try.prog yo
def qlx:Kp:=⟨[0,1,2,4,5,26,27],false,[0,6,12,18,27]⟩
def km (k:Nat):Kp × ACode:=(qlx,part qh7.body k)
theorem qrr (M:Mac) (c:Ctx):(∀ Q E D H,W M c (km 0) true Q E D H =
 Lz E 1 fun g t1=>B3 g (Op.load1 [t1] H) fun g t6=>B3 g ((Op.eq .ptr false) [t6,.nilp] H) fun g t7=>JN (fun (k:Bool->AV->AV->AHeap->Prop)=>B3 g (wantV false (some t7)) fun g w=>IG3 g w (fun g=>Ly g E 2 fun g t2=>B3 g (Op.load1 [t2] H) fun g t9=>Bn g .lss t9 (.int .i64 0) fun g t10=>k g t10 t9 H) (fun g=>k g uu uu H)) (fun g t10_1 t9_1 H1=>B3 g (Op.pick [t7,(.bool true),t10_1]) fun g t11=>IF3 g t11 (fun g=>GO3 g (SEQ3 (W M c (km 6)) Q) .ret E D H1) (fun g=>Gt g M c (km 6) Q E D H1))) /\
 (∀ Q E D H,W M c (km 6) true Q E D H =
  Lz E 2 fun g t2=>B3 g (Op.load1 [t2] H) fun g t12=>Ly g E 1 fun g t1=>B3 g (Op.load1 [t1] H) fun g t13=>Nf g 0 t13 H fun g t16=>Bn g .rem t12 t16 fun g t17=>B3 g (Op.load1 [t1] H) fun g t18=>Nf g 1 t18 H fun g t21=>Bn g .mul t17 t21 fun g t22=>Ly g E 1 fun g t1_1=>B3 g (Op.load1 [t1_1] H) fun g t23=>Nf g 1 t23 H fun g t26=>LOOP3 (W M c (km 12)) (BLK3 0 Q) ((27,(.int .i64 0))::(26,t26)::(4,t22)::E) D H) /\
 (∀ Q E D H,W M c (km 12) true Q E D H =
  Lz E 27 fun g t27=>Ly g E 26 fun g t26=>Cb g .lss t27 t26 (fun g=>Gt g M c (km 18) Q E D H) (fun g=>GO3 g (SEQ3 (W M c (km 18)) Q) (.exit 0) E D H)) /\
 (∀ Q E D H,W M c (km 18) true Q E D H =
  Lz E 27 fun g t27=>Ly g E 0 fun g t0=>Ly g E 1 fun g t1=>B3 g (Op.load1 [t1] H) fun g t31=>Nf g 2 t31 H fun g t34=>Ly g E 4 fun g t4=>Bn g .add t4 t27 fun g t37=>B3 g ((Op.indexSl 21) [t34,t37]) fun g t38=>V3 g [t0,t38] fun g f vs=>C3 M g f vs H fun g t39 H1=>B3 g ((Op.un .not) [t39]) fun g t40=>IF3 g t40 (fun g=>GO3 g (BLK3 1 (SEQ3 (W M c (km 27)) Q)) .ret ((5,t27)::E) D H1) (fun g=>GO3 g (BLK3 1 (SEQ3 (W M c (km 27)) Q)) .normal ((5,t27)::E) D H1)) /\
 (∀ Q E D H,W M c (km 27) true Q E D H =
  Lz E 27 fun g t27=>Bn g .add t27 (.int .i64 1) fun g t41=>GO3 g Q .normal ((27,t41)::E) D H):=by (repeat' apply And.intro)<;>(intro _ _ _ _;refine W_unf ?_;kernel_rfl)
theorem qrp:(cProg Try.prog).func yo=some qh7/\qh7.results=[]:=zg (by kernel_rfl)
theorem qrq (h:W M ⟨none,yo⟩ (km 0) true (FIN3 M [] Q) [(0,a0),(1,a1),(2,a2)] [] H):yz M yo [a0,a1,a2] H Q:=callf (by decide) qrp (ks:=qlx) (by kernel_rfl) h
end
end Go.Am
namespace Go.Am
abbrev qhe:Nat:=10
abbrev qa0:Nat:=19
abbrev vp:Nat:=11
abbrev qa1:Nat:=16
abbrev qc5:Nat:=36
abbrev y9:Nat:=15
abbrev qbo:Nat:=37
abbrev kj:Nat:=32
abbrev qbb:Nat:=77
abbrev qdm:Nat:=12
abbrev qal:Nat:=18
abbrev wh:Nat:=17
abbrev yr:Nat:=46
abbrev qbc:Nat:=41
abbrev qaq:Nat:=35
abbrev qmj:Nat:=80
abbrev qam:Nat:=79
abbrev qbp:Nat:=83
abbrev qck:Nat:=72
abbrev qbd:Nat:=39
abbrev qar:Nat:=71
abbrev ku:Nat:=74
abbrev qby:Nat:=40
abbrev vq:Nat:=85
abbrev ym:Nat:=76
abbrev yy:Nat:=103
abbrev qbe:Nat:=110
abbrev yt:Nat:=81
abbrev jc:Nat:=105
abbrev xm:Nat:=38
abbrev qga:Nat:=23
abbrev qhf:Nat:=99
noncomputable section
open Go.Proofs Go.Proofs.Ytiibohocdbaekaa
variable {M:Mac} [MK M] {H:AHeap} {Q:AEnd->AHeap->Prop} {a0 a1 a2 a3:AV}
def qqi:AFunc:=funcAt Try.prog qhe
def qwp:Kp:=⟨[0,1,3,4,5,6,7],false,[0,4,12]⟩
def qhq (k:Nat):Kp × ACode:=(qwp,part qqi.body k)
theorem q4b (M:Mac) (c:Ctx):(∀ Q E D H,W M c (qhq 0) true Q E D H =
 Lz E 1 fun g t1=>A3 g qga (AV.cells t1) H fun g t3 H1=>Fl g 2 t3 H1 fun g t10=>Fl g 3 t3 H1 fun g t12=>C3 M g (.func qk2) [t10,t12] H1 fun g t13 H2=>B3 g ((Op.extract 0) [t13]) fun g t14=>B3 g ((Op.extract 1) [t13]) fun g t15=>W M c (qhq 4) g Q ((7,t15)::(6,t14)::(5,(.int .i64 0))::(4,.nilp)::(3,t3)::E) D H2) /\
 (∀ Q E D H,W M c (qhq 4) true Q E D H =
  Lz E 7 fun g t7=>Bn g .neq t7 (.int .i64 0) fun g t17=>JN (fun (k:Bool->AV->AV->AHeap->Prop)=>B3 g (wantV false (some t17)) fun g w=>IG3 g w (fun g=>Ly g E 0 fun g t0=>Bn g .lss t0 (.int .i64 0) fun g t20=>k g t20 t0 H) (fun g=>k g uu uu H)) (fun g t20_1 t19_1 H1=>B3 g (Op.pick [t17,(.bool true),t20_1]) fun g t21=>JN (fun (k:Bool->AV->AV->AV->AV->AHeap->Prop)=>B3 g (wantV false (some t21)) fun g w=>IG3 g w (fun g=>Ly g E 0 fun g t0_1=>Ly g E 3 fun g t3=>B3 g ((Op.fieldAddr 1) [t3]) fun g t24=>B3 g (Op.load1 [t24] H1) fun g t25=>Bn g .geq t0_1 t25 fun g t26=>k g t26 t25 t24 t0_1 H1) (fun g=>k g uu uu uu uu H1)) (fun g t26_1 t25_1 t24_1 t23_1 H2=>B3 g (Op.pick [t21,(.bool true),t26_1]) fun g t27=>JN (fun (k:Bool->AV->AV->AV->AHeap->Prop)=>B3 g (wantV false (some t27)) fun g w=>IG3 g w (fun g=>Ly g E 3 fun g t3_1=>B3 g ((Op.fieldAddr 1) [t3_1]) fun g t29=>B3 g (Op.load1 [t29] H2) fun g t30=>Bn g .gtr t30 (.int .i64 4) fun g t31=>k g t31 t30 t29 H2) (fun g=>k g uu uu uu H2)) (fun g t31_1 t30_1 t29_1 H3=>B3 g (Op.pick [t27,(.bool true),t31_1]) fun g t32=>JN (fun (k:Bool->AV->AV->AV->AHeap->Prop)=>B3 g (wantV false (some t32)) fun g w=>IG3 g w (fun g=>Ly g E 3 fun g t3_2=>B3 g ((Op.fieldAddr 0) [t3_2]) fun g t34=>B3 g (Op.load1 [t34] H3) fun g t35=>Bn g .lss t35 (.int .i64 2) fun g t36=>k g t36 t35 t34 H3) (fun g=>k g uu uu uu H3)) (fun g t36_1 t35_1 t34_1 H4=>B3 g (Op.pick [t32,(.bool true),t36_1]) fun g t37=>JN (fun (k:Bool->AV->AV->AV->AHeap->Prop)=>B3 g (wantV false (some t37)) fun g w=>IG3 g w (fun g=>Ly g E 3 fun g t3_3=>B3 g ((Op.fieldAddr 0) [t3_3]) fun g t39=>B3 g (Op.load1 [t39] H4) fun g t40=>Bn g .gtr t40 (.int .i64 64) fun g t41=>k g t41 t40 t39 H4) (fun g=>k g uu uu uu H4)) (fun g t41_1 t40_1 t39_1 H5=>B3 g (Op.pick [t37,(.bool true),t41_1]) fun g t42=>IF3 g t42 (fun g=>GO3 g (SEQ3 (W M c (qhq 12)) Q) .ret ((5,(.int .i64 2))::(4,.nilp)::E) D H5) (fun g=>Gt g M c (qhq 12) Q E D H5))))))) /\
 (∀ Q E D H,W M c (qhq 12) true Q E D H =
  Lz E 0 fun g t0=>Ly g E 3 fun g t3=>Fl g 0 t3 H fun g t45=>Ly g E 6 fun g t6=>B3 g ((Op.build [(.int .i64 0),(.int .i64 0),.nilp,(.int .i64 0),(.int .i64 0),(.int .i64 0),(.int .u64 0),(.int .u64 0),(.int .u64 0),(.int .u64 0),(.int .u64 0),(.int .u64 0),(.int .u64 0),(.int .u64 0),.nils,(.bool false),(.int .i64 0)] [(0,1),(1,1),(2,1)]) [t0,t45,t6]) fun g t47=>A3 g qhf (AV.cells t47) H fun g t48 H1=>GO3 g Q .ret ((5,(.int .i64 0))::(4,t48)::E) D H1):=by (repeat' apply And.intro)<;>(intro _ _ _ _;refine W_unf ?_;kernel_rfl)
theorem q39:(cProg Try.prog).func qhe=some qqi/\qqi.results=[.tmp 4,.tmp 5]:=zg (by kernel_rfl)
theorem q4a (h:W M ⟨none,qhe⟩ (qhq 0) true (FIN3 M [.tmp 4,.tmp 5] Q) [(0,a0),(1,a1)] [] H):yz M qhe [a0,a1] H Q:=callf (by decide) q39 (ks:=qwp) (by kernel_rfl) h
def qdb:AFunc:=funcAt Try.prog vp
def qdc:Kp:=⟨[0,2,3,4,6,7],false,[0,4,9]⟩
def qea (k:Nat):Kp × ACode:=(qdc,part qdb.body k)
def qcm:ALoop:=loopAt qdb 0
def qlz (k:Nat):Kp × ACode:=(⟨qdc.keep,qdc.pan,[0]⟩,part qcm.assign k)
def ql0 (k:Nat):Kp × ACode:=(⟨qdc.keep,qdc.pan,[0]⟩,part qcm.body k)
theorem qku:nth qdb.loops 0=some qcm/\qcm.params=[7]:=⟨by kernel_rfl,by kernel_rfl⟩
theorem qnb (M:Mac) (c:Ctx):(∀ Q E D H,W M c (qea 0) true Q E D H =
 A3 true T__11 [.nils] H fun g t3 H1=>W M c (qea 4) g Q ((3,t3)::(2,.nils)::E) D H1) /\
 (∀ Q E D H,W M c (qlz 0) true Q E D H =
  A3 true qk [(.int .i64 0),(.int .i64 0),(.bool false),(.bool false),(.int .u64 0),(.int .u64 0),(.int .u64 0),(.int .u64 0),(.int .u64 0),(.int .u64 0),(.int .u64 0),(.int .u64 0),(.int .u64 0),(.int .u64 0),(.int .u64 0),(.int .u64 0),(.int .u64 0),(.int .u64 0),(.int .u64 0),(.int .u64 0),(.int .i64 0)] H fun g t4 H1=>Ly g E 7 fun g t7=>B32 g ((Op.store 21) [t4,t7] H1) fun g u H2=>GO3 g Q .normal ((4,t4)::E) D H2) /\
 (∀ Q E D H,W M c (ql0 0) true Q E D H =
  Lz E 3 fun g t3=>B3 g (Op.load1 [t3] H) fun g t8=>Ly g E 4 fun g t4=>B3 g ((Op.loadN 21) [t4] H) fun g t9=>B32 g ((Op.buildSlice qk 1 [(.int .i64 0),(.int .i64 0),(.bool false),(.bool false),(.int .u64 0),(.int .u64 0),(.int .u64 0),(.int .u64 0),(.int .u64 0),(.int .u64 0),(.int .u64 0),(.int .u64 0),(.int .u64 0),(.int .u64 0),(.int .u64 0),(.int .u64 0),(.int .u64 0),(.int .u64 0),(.int .u64 0),(.int .u64 0),(.int .i64 0)] [(0,21)]) [t9]) fun g o1 k1=>B32 g ((Op.append qk 21 160) [t8,(k1 H.next)] (H.alloc o1)) fun g t11 H2=>B32 g ((Op.store 1) [t3,t11] H2) fun g u H3=>GO3 g (BLK3 1 Q) .normal E D H3) /\
 (∀ Q E D H,W M c (qea 4) true Q E D H =
  Lz E 0 fun g t0=>C3 M g (.func qaq) [t0] H fun g t6 H1=>RNG3 M qdc.keep c 0 ((6,t6)::E) D H1 (BLK3 0 (SEQ3 (W M c (qea 9)) Q)) t6) /\
 (∀ Q E D H,W M c (qea 9) true Q E D H =
  Lz E 3 fun g t3=>B3 g (Op.load1 [t3] H) fun g t12=>GO3 g Q .ret ((2,t12)::E) D H):=by (repeat' apply And.intro)<;>(intro _ _ _ _;refine W_unf ?_;kernel_rfl)
theorem qna:(cProg Try.prog).func vp=some qdb/\qdb.results=[.tmp 2]:=zg (by kernel_rfl)
theorem qrv:M.func vp=some qdb:=MK.at (by decide) qna.1
theorem qun (h:W M ⟨none,vp⟩ (qea 0) true (FIN3 M [.tmp 2] Q) [(0,a0)] [] H):yz M vp [a0] H Q:=callf (by decide) qna (ks:=qdc) (by kernel_rfl) h
def qib:AFunc:=funcAt Try.prog qdm
def ql3:Kp:=⟨[0,2],false,[0]⟩
def ql4 (k:Nat):Kp × ACode:=(ql3,part qib.body k)
theorem qr4 (M:Mac) (c:Ctx):(∀ Q E D H,W M c (ql4 0) true Q E D H =
 Lz E 0 fun g t0=>B3 g ((Op.eq .ptr true) [t0,.nilp] H) fun g t4=>JN (fun (k:Bool->AV->AV->AV->AV->AHeap->Prop)=>B3 g (wantV true (some t4)) fun g w=>IG3 g w (fun g=>B3 g (Op.nilCheck [t0]) fun g t7=>B3 g ((Op.fieldAddr 15) [t7]) fun g t8=>B3 g (Op.load1 [t8] H) fun g t9=>k g t9 t8 t7 t0 H) (fun g=>k g uu uu uu uu H)) (fun g t9_1 t8_1 t7_1 t6_1 H1=>B3 g (Op.pick [t4,t9_1,(.bool false)]) fun g t10=>GO3 g Q .ret ((2,t10)::(2,(.bool false))::E) D H1)):=by intro _ _ _ _;refine W_unf ?_;kernel_rfl
theorem qr2:(cProg Try.prog).func qdm=some qib/\qib.results=[.tmp 2]:=zg (by kernel_rfl)
theorem qr3 (h:W M ⟨none,qdm⟩ (ql4 0) true (FIN3 M [.tmp 2] Q) [(0,a0)] [] H):yz M qdm [a0] H Q:=callf (by decide) qr2 (ks:=ql3) (by kernel_rfl) h
def qic:AFunc:=funcAt Try.prog qal
def ql5:Kp:=⟨[0,1,4,5,6,7,8,9,11],false,[0,2,12,14,24,30]⟩
def jw (k:Nat):Kp × ACode:=(ql5,part qic.body k)
theorem qr7 (M:Mac) (c:Ctx):(∀ Q E D H,W M c (jw 0) true Q E D H =
 W M c (jw 2) true Q ((7,(.int .i64 0))::(6,.nils)::(5,(.bool false))::(4,(.int .u64 0))::E) D H) /\
 (∀ Q E D H,W M c (jw 2) true Q E D H =
  Lz E 0 fun g t0=>Ly g E 1 fun g t1=>C3 M g (.func qbd) [t0,t1] H fun g t14 H1=>Cb g .neq t14 (.int .i64 0) (fun g=>GO3 g (SEQ3 (W M c (jw 12)) Q) .ret ((7,t14)::(6,.nils)::(5,(.bool false))::(4,(.int .u64 0))::(8,t14)::E) D H1) (fun g=>Gt g M c (jw 12) Q ((8,t14)::E) D H1)) /\
 (∀ Q E D H,W M c (jw 12) true Q E D H =
  Lz E 1 fun g t1=>Bn g .quo t1 (.int .i64 8) fun g t19=>W M c (jw 14) g Q ((9,t19)::E) D H) /\
 (∀ Q E D H,W M c (jw 14) true Q E D H =
  Lz E 0 fun g t0=>Nf g 2 t0 H fun g t24=>Ly g E 9 fun g t9=>C3 M g (.func qai) [t24,t9] H fun g t26 H1=>B3 g ((Op.extract 0) [t26]) fun g t27=>B3 g ((Op.extract 1) [t26]) fun g t28=>A3 g qk [(.int .i64 0),(.int .i64 0),(.bool false),(.bool false),(.int .u64 0),(.int .u64 0),(.int .u64 0),(.int .u64 0),(.int .u64 0),(.int .u64 0),(.int .u64 0),(.int .u64 0),(.int .u64 0),(.int .u64 0),(.int .u64 0),(.int .u64 0),(.int .u64 0),(.int .u64 0),(.int .u64 0),(.int .u64 0),(.int .i64 0)] H1 fun g t10 H2=>B32 g ((Op.store 21) [t10,t27] H2) fun g u H3=>B3 g ((Op.un .not) [t28]) fun g t30=>IF3 g t30 (fun g=>Ly g E 0 fun g t0_1=>Ly g E 9 fun g t9_1=>C3 M g (.func qbc) [t0_1,(.int .i64 1),t9_1] H3 fun g t33 H4=>GO3 g (SEQ3 (W M c (jw 24)) Q) .ret ((7,(.int .i64 0))::(6,t33)::(5,(.bool false))::(4,(.int .u64 0))::(11,t28)::E) D H4) (fun g=>Gt g M c (jw 24) Q ((11,t28)::E) D H3)) /\
 (∀ Q E D H,W M c (jw 24) true Q E D H =
  Lz E 0 fun g t0=>Nf g 15 t0 H fun g t37=>IF3 g t37 (fun g=>Ly g E 0 fun g t0_1=>Nf g 2 t0_1 H fun g t41=>Ly g E 9 fun g t9=>C3 M g (.func qb7) [t41,t9,(.bool false)] H fun g t43 H1=>Gt g M c (jw 30) Q E D H1) (fun g=>Gt g M c (jw 30) Q E D H)) /\
 (∀ Q E D H,W M c (jw 30) true Q E D H =
  Lz E 0 fun g t0=>Nf g 2 t0 H fun g t48=>Ly g E 1 fun g t1=>C3 M g (.func qb8) [t48,t1] H fun g t50 H1=>B3 g ((Op.extract 0) [t50]) fun g t51=>B3 g ((Op.extract 1) [t50]) fun g t52=>GO3 g Q .ret ((7,(.int .i64 0))::(6,.nils)::(5,(.bool true))::(4,t51)::(4,t51)::E) D H1):=by (repeat' apply And.intro)<;>(intro _ _ _ _;refine W_unf ?_;kernel_rfl)
theorem qr5:(cProg Try.prog).func qal=some qic/\qic.results=[.tmp 4,.tmp 5,.tmp 6,.tmp 7]:=zg (by kernel_rfl)
theorem qr6 (h:W M ⟨none,qal⟩ (jw 0) true (FIN3 M [.tmp 4,.tmp 5,.tmp 6,.tmp 7] Q) [(0,a0),(1,a1)] [] H):yz M qal [a0,a1] H Q:=callf (by decide) qr5 (ks:=ql5) (by kernel_rfl) h
def qht:AFunc:=funcAt Try.prog wh
def qkw:Kp:=⟨[0,1,2,6,7,8,9,10],false,[0,2,12,14,22,28]⟩
def jm (k:Nat):Kp × ACode:=(qkw,part qht.body k)
theorem qqr (M:Mac) (c:Ctx):(∀ Q E D H,W M c (jm 0) true Q E D H =
 W M c (jm 2) true Q ((8,(.int .i64 0))::(7,.nils)::(6,(.bool false))::E) D H) /\
 (∀ Q E D H,W M c (jm 2) true Q E D H =
  Lz E 0 fun g t0=>Ly g E 1 fun g t1=>C3 M g (.func qbd) [t0,t1] H fun g t13 H1=>Cb g .neq t13 (.int .i64 0) (fun g=>GO3 g (SEQ3 (W M c (jm 12)) Q) .ret ((8,t13)::(7,.nils)::(6,(.bool false))::(9,t13)::E) D H1) (fun g=>Gt g M c (jm 12) Q ((9,t13)::E) D H1)) /\
 (∀ Q E D H,W M c (jm 12) true Q E D H =
  Lz E 1 fun g t1=>Bn g .quo t1 (.int .i64 8) fun g t18=>W M c (jm 14) g Q ((10,t18)::E) D H) /\
 (∀ Q E D H,W M c (jm 14) true Q E D H =
  Lz E 0 fun g t0=>Ly g E 10 fun g t10=>C3 M g (.func qby) [t0,t10] H fun g t21 H1=>B3 g ((Op.un .not) [t21]) fun g t22=>IF3 g t22 (fun g=>Ly g E 0 fun g t0_1=>Ly g E 10 fun g t10_1=>C3 M g (.func qbc) [t0_1,(.int .i64 2),t10_1] H1 fun g t25 H2=>GO3 g (SEQ3 (W M c (jm 22)) Q) .ret ((8,(.int .i64 0))::(7,t25)::(6,(.bool false))::E) D H2) (fun g=>Gt g M c (jm 22) Q E D H1)) /\
 (∀ Q E D H,W M c (jm 22) true Q E D H =
  Lz E 0 fun g t0=>Nf g 15 t0 H fun g t29=>IF3 g t29 (fun g=>Ly g E 0 fun g t0_1=>Nf g 2 t0_1 H fun g t33=>Ly g E 10 fun g t10=>C3 M g (.func qb7) [t33,t10,(.bool true)] H fun g t35 H1=>Gt g M c (jm 28) Q E D H1) (fun g=>Gt g M c (jm 28) Q E D H)) /\
 (∀ Q E D H,W M c (jm 28) true Q E D H =
  Lz E 0 fun g t0=>Nf g 2 t0 H fun g t39=>Ly g E 1 fun g t1=>Ly g E 2 fun g t2=>C3 M g (.func qcu) [t39,t1,t2] H fun g t42 H1=>GO3 g Q .ret ((8,(.int .i64 0))::(7,.nils)::(6,(.bool true))::E) D H1):=by (repeat' apply And.intro)<;>(intro _ _ _ _;refine W_unf ?_;kernel_rfl)
theorem qqp:(cProg Try.prog).func wh=some qht/\qht.results=[.tmp 6,.tmp 7,.tmp 8]:=zg (by kernel_rfl)
theorem qqq (h:W M ⟨none,wh⟩ (jm 0) true (FIN3 M [.tmp 6,.tmp 7,.tmp 8] Q) [(0,a0),(1,a1),(2,a2)] [] H):yz M wh [a0,a1,a2] H Q:=callf (by decide) qqp (ks:=qkw) (by kernel_rfl) h
def qi8:AFunc:=funcAt Try.prog qc5
def qnc:Kp:=⟨[0,1,2,3,8,9,10,11,12,13,14],false,[0,2,12,20,22,30,32,38]⟩
def jg (k:Nat):Kp × ACode:=(qnc,part qi8.body k)
theorem qur (M:Mac) (c:Ctx):(∀ Q E D H,W M c (jg 0) true Q E D H =
 W M c (jg 2) true Q ((11,(.int .i64 0))::(10,.nils)::(9,(.bool false))::(8,(.bool false))::E) D H) /\
 (∀ Q E D H,W M c (jg 2) true Q E D H =
  Lz E 0 fun g t0=>Ly g E 1 fun g t1=>C3 M g (.func qbd) [t0,t1] H fun g t18 H1=>Cb g .neq t18 (.int .i64 0) (fun g=>GO3 g (SEQ3 (W M c (jg 12)) Q) .ret ((11,t18)::(10,.nils)::(9,(.bool false))::(8,(.bool false))::(12,t18)::E) D H1) (fun g=>Gt g M c (jg 12) Q ((12,t18)::E) D H1)) /\
 (∀ Q E D H,W M c (jg 12) true Q E D H =
  Lz E 0 fun g t0=>Nf g 15 t0 H fun g t25=>IF3 g t25 (fun g=>GO3 g (SEQ3 (W M c (jg 20)) Q) .ret ((11,(.int .i64 41))::(10,.nils)::(9,(.bool false))::(8,(.bool false))::E) D H) (fun g=>Gt g M c (jg 20) Q E D H)) /\
 (∀ Q E D H,W M c (jg 20) true Q E D H =
  Lz E 1 fun g t1=>Bn g .quo t1 (.int .i64 8) fun g t27=>W M c (jg 22) g Q ((13,t27)::E) D H) /\
 (∀ Q E D H,W M c (jg 22) true Q E D H =
  Lz E 0 fun g t0=>Ly g E 13 fun g t13=>C3 M g (.func qby) [t0,t13] H fun g t30 H1=>B3 g ((Op.un .not) [t30]) fun g t31=>IF3 g t31 (fun g=>Ly g E 0 fun g t0_1=>Ly g E 13 fun g t13_1=>C3 M g (.func qbc) [t0_1,(.int .i64 2),t13_1] H1 fun g t34 H2=>GO3 g (SEQ3 (W M c (jg 30)) Q) .ret ((11,(.int .i64 0))::(10,t34)::(9,(.bool false))::(8,(.bool false))::E) D H2) (fun g=>Gt g M c (jg 30) Q E D H1)) /\
 (∀ Q E D H,W M c (jg 30) true Q E D H =
  Lz E 0 fun g t0=>Nf g 2 t0 H fun g t39=>Ly g E 1 fun g t1=>C3 M g (.func qb8) [t39,t1] H fun g t41 H1=>B3 g ((Op.extract 0) [t41]) fun g t42=>B3 g ((Op.extract 1) [t41]) fun g t43=>W M c (jg 32) g Q ((14,t42)::E) D H1) /\
 (∀ Q E D H,W M c (jg 32) true Q E D H =
  Lz E 14 fun g t14=>Ly g E 2 fun g t2=>Cb g .eql t14 t2 (fun g=>Ly g E 0 fun g t0=>Nf g 2 t0 H fun g t50=>Ly g E 1 fun g t1=>Ly g E 3 fun g t3=>C3 M g (.func qcu) [t50,t1,t3] H fun g t53 H1=>Gt g M c (jg 38) Q E D H1) (fun g=>Gt g M c (jg 38) Q E D H)) /\
 (∀ Q E D H,W M c (jg 38) true Q E D H =
  Lz E 14 fun g t14=>Ly g E 2 fun g t2=>Bn g .eql t14 t2 fun g t56=>GO3 g Q .ret ((11,(.int .i64 0))::(10,.nils)::(9,(.bool true))::(8,t56)::E) D H):=by (repeat' apply And.intro)<;>(intro _ _ _ _;refine W_unf ?_;kernel_rfl)
theorem qup:(cProg Try.prog).func qc5=some qi8/\qi8.results=[.tmp 8,.tmp 9,.tmp 10,.tmp 11]:=zg (by kernel_rfl)
theorem quq (h:W M ⟨none,qc5⟩ (jg 0) true (FIN3 M [.tmp 8,.tmp 9,.tmp 10,.tmp 11] Q) [(0,a0),(1,a1),(2,a2),(3,a3)] [] H):yz M qc5 [a0,a1,a2,a3] H Q:=callf (by decide) qup (ks:=qnc) (by kernel_rfl) h
def qhs:AFunc:=funcAt Try.prog qa1
def qkv:Kp:=⟨[0,2],false,[0,2,17]⟩
def qa2 (k:Nat):Kp × ACode:=(qkv,part qhs.body k)
theorem qqo (M:Mac) (c:Ctx):(∀ Q E D H,W M c (qa2 0) true Q E D H =
 W M c (qa2 2) true Q ((2,(.int .i64 0))::E) D H) /\
 (∀ Q E D H,W M c (qa2 2) true Q E D H =
  Lz E 0 fun g t0=>B3 g ((Op.eq .ptr false) [t0,.nilp] H) fun g t5=>IF3 g t5 (fun g=>GO3 g (BLK3 0 (SEQ3 (W M c (qa2 17)) Q)) .ret ((2,(.int .i64 1))::E) D H) (fun g=>Ly g E 0 fun g t0_1=>Nf g 15 t0_1 H fun g t10=>IF3 g t10 (fun g=>GO3 g (BLK3 0 (SEQ3 (W M c (qa2 17)) Q)) .ret ((2,(.int .i64 41))::E) D H) (fun g=>GO3 g (BLK3 0 (SEQ3 (W M c (qa2 17)) Q)) .normal E D H))) /\
 (∀ Q E D H,W M c (qa2 17) true Q E D H =
  Lz E 0 fun g t0=>Ns g 15 t0 (.bool true) H fun g u H1=>Ns g 16 t0 (.int .i64 0) H1 fun g u_1 H2=>GO3 g Q .ret ((2,(.int .i64 0))::E) D H2):=by (repeat' apply And.intro)<;>(intro _ _ _ _;refine W_unf ?_;kernel_rfl)
theorem qqm:(cProg Try.prog).func qa1=some qhs/\qhs.results=[.tmp 2]:=zg (by kernel_rfl)
theorem qqn (h:W M ⟨none,qa1⟩ (qa2 0) true (FIN3 M [.tmp 2] Q) [(0,a0)] [] H):yz M qa1 [a0] H Q:=callf (by decide) qqm (ks:=qkv) (by kernel_rfl) h
def qgr:AFunc:=funcAt Try.prog y9
def qjv:Kp:=⟨[0,2],false,[0,2,17]⟩
def qab (k:Nat):Kp × ACode:=(qjv,part qgr.body k)
theorem qpj (M:Mac) (c:Ctx):(∀ Q E D H,W M c (qab 0) true Q E D H =
 W M c (qab 2) true Q ((2,(.int .i64 0))::E) D H) /\
 (∀ Q E D H,W M c (qab 2) true Q E D H =
  Lz E 0 fun g t0=>B3 g ((Op.eq .ptr false) [t0,.nilp] H) fun g t5=>IF3 g t5 (fun g=>GO3 g (BLK3 0 (SEQ3 (W M c (qab 17)) Q)) .ret ((2,(.int .i64 1))::E) D H) (fun g=>Ly g E 0 fun g t0_1=>Nf g 15 t0_1 H fun g t10=>B3 g ((Op.un .not) [t10]) fun g t11=>IF3 g t11 (fun g=>GO3 g (BLK3 0 (SEQ3 (W M c (qab 17)) Q)) .ret ((2,(.int .i64 40))::E) D H) (fun g=>GO3 g (BLK3 0 (SEQ3 (W M c (qab 17)) Q)) .normal E D H))) /\
 (∀ Q E D H,W M c (qab 17) true Q E D H =
  Lz E 0 fun g t0=>Nf g 2 t0 H fun g t15=>C3 M g (.func yq) [t15] H fun g t16 H1=>Ly g E 0 fun g t0_1=>Ns g 15 t0_1 (.bool false) H1 fun g u H2=>GO3 g Q .ret ((2,(.int .i64 0))::E) D H2):=by (repeat' apply And.intro)<;>(intro _ _ _ _;refine W_unf ?_;kernel_rfl)
theorem qph:(cProg Try.prog).func y9=some qgr/\qgr.results=[.tmp 2]:=zg (by kernel_rfl)
theorem qpi (h:W M ⟨none,y9⟩ (qab 0) true (FIN3 M [.tmp 2] Q) [(0,a0)] [] H):yz M y9 [a0] H Q:=callf (by decide) qph (ks:=qjv) (by kernel_rfl) h
def qhr:AFunc:=funcAt Try.prog qa0
def qkt:Kp:=⟨[0,1,4],false,[0,2,16,23]⟩
def yu (k:Nat):Kp × ACode:=(qkt,part qhr.body k)
theorem qql (M:Mac) (c:Ctx):(∀ Q E D H,W M c (yu 0) true Q E D H =
 W M c (yu 2) true Q ((4,(.int .i64 0))::E) D H) /\
 (∀ Q E D H,W M c (yu 2) true Q E D H =
  Lz E 0 fun g t0=>B3 g ((Op.eq .ptr false) [t0,.nilp] H) fun g t7=>IF3 g t7 (fun g=>GO3 g (BLK3 0 (SEQ3 (W M c (yu 23)) Q)) .ret ((4,(.int .i64 1))::E) D H) (fun g=>Ly g E 0 fun g t0_1=>Nf g 15 t0_1 H fun g t12=>B3 g ((Op.un .not) [t12]) fun g t13=>IF3 g t13 (fun g=>GO3 g (BLK3 0 (SEQ3 (W M c (yu 23)) Q)) .ret ((4,(.int .i64 40))::E) D H) (fun g=>W M c (yu 16) g (BLK3 0 (SEQ3 (W M c (yu 23)) Q)) E D H))) /\
 (∀ Q E D H,W M c (yu 23) true Q E D H =
  Lz E 0 fun g t0=>Ly g E 1 fun g t1=>C3 M g (.func yr) [t0,t1] H fun g t23 H1=>GO3 g Q .ret ((4,(.int .i64 0))::E) D H1) /\
 (∀ Q E D H,W M c (yu 16) true Q E D H =
  Lz E 1 fun g t1=>Bn g .lss t1 (.int .i64 1) fun g t16=>JN (fun (k:Bool->AV->AV->AHeap->Prop)=>B3 g (wantV false (some t16)) fun g w=>IG3 g w (fun g=>Bn g .gtr t1 (.int .i64 7) fun g t19=>k g t19 t1 H) (fun g=>k g uu uu H)) (fun g t19_1 t18_1 H1=>B3 g (Op.pick [t16,(.bool true),t19_1]) fun g t20=>IF3 g t20 (fun g=>GO3 g Q .ret ((4,(.int .i64 2))::E) D H1) (fun g=>GO3 g Q .normal E D H1))):=by (repeat' apply And.intro)<;>(intro _ _ _ _;refine W_unf ?_;kernel_rfl)
theorem qqj:(cProg Try.prog).func qa0=some qhr/\qhr.results=[.tmp 4]:=zg (by kernel_rfl)
theorem qqk (h:W M ⟨none,qa0⟩ (yu 0) true (FIN3 M [.tmp 4] Q) [(0,a0),(1,a1)] [] H):yz M qa0 [a0,a1] H Q:=callf (by decide) qqj (ks:=qkt) (by kernel_rfl) h
def qia:AFunc:=funcAt Try.prog kj
def ql2:Kp:=⟨[0,1,3,4,5,6,7,8,9,51,69],false,[0,2,10,12,20,34,40,41,49,53,61,73,75,85]⟩
def xe (k:Nat):Kp × ACode:=(ql2,part qia.body k)
theorem qr1 (M:Mac) (c:Ctx):(∀ Q E D H,W M c (xe 0) true Q E D H =
 Lz E 1 fun g t1=>A3 g xm (AV.cells t1) H fun g t3 H1=>W M c (xe 2) g Q ((5,(.int .i64 0))::(4,.nils)::(3,t3)::E) D H1) /\
 (∀ Q E D H,W M c (xe 2) true Q E D H =
  Lz E 0 fun g t0=>B3 g ((Op.eq .ptr false) [t0,.nilp] H) fun g t11=>IF3 g t11 (fun g=>GO3 g (SEQ3 (W M c (xe 10)) Q) .ret ((5,(.int .i64 1))::(4,.nils)::E) D H) (fun g=>Gt g M c (xe 10) Q E D H)) /\
 (∀ Q E D H,W M c (xe 10) true Q E D H =
  Lz E 0 fun g t0=>Nf g 2 t0 H fun g t16=>Ly g E 3 fun g t3=>Fl g 2 t3 H fun g t18=>C3 M g (.func qai) [t16,t18] H fun g t19 H1=>B3 g ((Op.extract 0) [t19]) fun g t20=>B3 g ((Op.extract 1) [t19]) fun g t21=>A3 g qk [(.int .i64 0),(.int .i64 0),(.bool false),(.bool false),(.int .u64 0),(.int .u64 0),(.int .u64 0),(.int .u64 0),(.int .u64 0),(.int .u64 0),(.int .u64 0),(.int .u64 0),(.int .u64 0),(.int .u64 0),(.int .u64 0),(.int .u64 0),(.int .u64 0),(.int .u64 0),(.int .u64 0),(.int .u64 0),(.int .i64 0)] H1 fun g t6 H2=>B32 g ((Op.store 21) [t6,t20] H2) fun g u H3=>W M c (xe 12) g Q ((7,t21)::(6,t6)::E) D H3) /\
 (∀ Q E D H,W M c (xe 12) true Q E D H =
  Lz E 3 fun g t3=>Fl g 1 t3 H fun g t23=>Ly g E 0 fun g t0=>Nf g 0 t0 H fun g t27=>Bn g .neq t23 t27 fun g t28=>JN (fun (k:Bool->AV->AV->AV->AHeap->Prop)=>B3 g (wantV false (some t28)) fun g w=>IG3 g w (fun g=>B3 g ((Op.fieldAddr 2) [t3]) fun g t30=>B3 g (Op.load1 [t30] H) fun g t31=>Bn g .lss t31 (.int .i64 0) fun g t32=>k g t32 t31 t30 H) (fun g=>k g uu uu uu H)) (fun g t32_1 t31_1 t30_1 H1=>B3 g (Op.pick [t28,(.bool true),t32_1]) fun g t33=>JN (fun (k:Bool->AV->AV->AV->AV->AV->AV->AV->AHeap->Prop)=>B3 g (wantV false (some t33)) fun g w=>IG3 g w (fun g=>B3 g ((Op.fieldAddr 2) [t3]) fun g t35=>B3 g (Op.load1 [t35] H1) fun g t36=>B3 g (Op.nilCheck [t0]) fun g t38=>B3 g ((Op.fieldAddr 1) [t38]) fun g t39=>B3 g (Op.load1 [t39] H1) fun g t40=>Bn g .geq t36 t40 fun g t41=>k g t41 t40 t39 t38 t0 t36 t35 H1) (fun g=>k g uu uu uu uu uu uu uu H1)) (fun g t41_1 t40_1 t39_1 t38_1 t37_1 t36_1 t35_1 H2=>B3 g (Op.pick [t33,(.bool true),t41_1]) fun g t42=>JN (fun (k:Bool->AV->AV->AV->AV->AV->AHeap->Prop)=>B3 g (wantV false (some t42)) fun g w=>IG3 g w (fun g=>B3 g ((Op.loadN 11) [t3] H2) fun g t45=>Ly g E 6 fun g t6=>B3 g ((Op.loadN 21) [t6] H2) fun g t46=>C3 M g (.func qar) [t0,t45,t46] H2 fun g t47 H3=>B3 g ((Op.un .not) [t47]) fun g t48=>k g t48 t47 t46 t45 t0 H3) (fun g=>k g uu uu uu uu uu H2)) (fun g t48_1 t47_1 t46_1 t45_1 t44_1 H4=>B3 g (Op.pick [t42,(.bool true),t48_1]) fun g t49=>IF3 g t49 (fun g=>GO3 g (SEQ3 (W M c (xe 20)) Q) .ret ((5,(.int .i64 30))::(4,.nils)::E) D H4) (fun g=>Gt g M c (xe 20) Q E D H4))))) /\
 (∀ Q E D H,W M c (xe 20) true Q E D H =
  Lz E 3 fun g t3=>Fl g 0 t3 H fun g t51=>Cb g .eql t51 (.int .i64 11) (fun g=>Ly g E 0 fun g t0=>Ly g E 6 fun g t6=>B3 g ((Op.loadN 21) [t6] H) fun g t55=>C3 M g (.func qck) [t0,t55,(.bool true)] H fun g t56 H1=>Ly g E 0 fun g t0_1=>Nf g 2 t0_1 H1 fun g t60=>Ly g E 3 fun g t3_1=>Fl g 2 t3_1 H1 fun g t62=>C3 M g (.func qa7) [t60,t62] H1 fun g t63 H2=>Ly g E 0 fun g t0_2=>Ly g E 3 fun g t3_2=>Fl g 2 t3_2 H2 fun g t66=>C3 M g (.func ku) [t0_2,(.int .i64 4),t66] H2 fun g t67 H3=>B32 g ((Op.buildSlice xm 1 [(.int .i64 0),(.int .i64 0),(.int .i64 0),(.int .u64 0),(.int .u64 0),(.int .u64 0),(.int .u64 0),(.int .u64 0),(.int .u64 0),(.int .u64 0),(.int .u64 0)] [(0,11)]) [t67]) fun g o4 k4=>GO3 g (BLK3 0 (SEQ3 (W M c (xe 73)) Q)) .ret ((5,(.int .i64 0))::(4,(k4 H3.next))::(51,t51)::E) D (H3.alloc o4)) (fun g=>W M c (xe 34) g (BLK3 0 (SEQ3 (W M c (xe 73)) Q)) ((51,t51)::E) D H)) /\
 (∀ Q E D H,W M c (xe 73) true Q E D H =
  Lz E 0 fun g t0=>B3 g ((Op.build [(.int .i64 0),(.int .i64 0),(.int .i64 0),(.int .u64 0),(.int .u64 0),(.int .u64 0),(.int .u64 0),(.int .u64 0),(.int .u64 0),(.int .u64 0),(.int .u64 0)] []) []) fun g t130=>B3 g (Op.nilCheck [t0]) fun g t131=>B3 g ((Op.fieldAddr 3) [t131]) fun g t132=>B32 g ((Op.store 11) [t132,t130] H) fun g u H1=>W M c (xe 75) g Q E D H1) /\
 (∀ Q E D H,W M c (xe 34) true Q E D H =
  Lz E 51 fun g t51=>Bn g .eql t51 (.int .i64 12) fun g t70=>IF3 g t70 (fun g=>Gt g M c (xe 40) Q ((69,t70)::E) D H) (fun g=>Ly g E 51 fun g t51_1=>Bn g .eql t51_1 (.int .i64 13) fun g t71=>Gt g M c (xe 40) Q ((69,t71)::(69,t70)::E) D H)) /\
 (∀ Q E D H,W M c (xe 75) true Q E D H =
  Lz E 7 fun g t7=>IF3 g t7 (fun g=>Ly g E 0 fun g t0=>Nf g 2 t0 H fun g t137=>Ly g E 3 fun g t3=>Fl g 2 t3 H fun g t139=>B3 g ((Op.fieldAddr 3) [t3]) fun g t140=>B3 g ((Op.loadN 8) [t140] H) fun g t141=>C3 M g (.func qa8) [t137,t139,t141] H fun g t142 H1=>Ly g E 0 fun g t0_1=>Ly g E 3 fun g t3_1=>Fl g 2 t3_1 H1 fun g t145=>C3 M g (.func ku) [t0_1,(.int .i64 7),t145] H1 fun g t146 H2=>B32 g ((Op.buildSlice xm 1 [(.int .i64 0),(.int .i64 0),(.int .i64 0),(.int .u64 0),(.int .u64 0),(.int .u64 0),(.int .u64 0),(.int .u64 0),(.int .u64 0),(.int .u64 0),(.int .u64 0)] [(0,11)]) [t146]) fun g o3 k3=>GO3 g (SEQ3 (W M c (xe 85)) Q) .ret ((5,(.int .i64 0))::(4,(k3 H2.next))::E) D (H2.alloc o3)) (fun g=>Gt g M c (xe 85) Q E D H)) /\
 (∀ Q E D H,W M c (xe 40) true Q E D H =
  Lz E 69 fun g t69=>IF3 g t69 (fun g=>W M c (xe 41) g Q E D H) (fun g=>Ly g E 51 fun g t51=>Cb g .eql t51 (.int .i64 16) (fun g=>Ly g E 0 fun g t0=>Nf g 14 t0 H fun g t124=>Ly g E 3 fun g t3=>B3 g ((Op.mkFunc qbb 0) [t3]) fun g t125=>C3 M g (.func ym) [t124,t125] H fun g t126 H1=>Ns g 14 t0 t126 H1 fun g u H2=>GO3 g Q .ret ((5,(.int .i64 0))::(4,.nils)::E) D H2) (fun g=>GO3 g Q .normal E D H))) /\
 (∀ Q E D H,W M c (xe 85) true Q E D H =
  Lz E 0 fun g t0=>Ly g E 3 fun g t3=>B3 g ((Op.loadN 11) [t3] H) fun g t149=>C3 M g (.func qam) [t0,t149] H fun g t150 H1=>Ly g E 0 fun g t0_1=>Ly g E 3 fun g t3_1=>Fl g 2 t3_1 H1 fun g t154=>C3 M g (.func ku) [t0_1,(.int .i64 7),t154] H1 fun g t155 H2=>B32 g ((Op.buildSlice xm 1 [(.int .i64 0),(.int .i64 0),(.int .i64 0),(.int .u64 0),(.int .u64 0),(.int .u64 0),(.int .u64 0),(.int .u64 0),(.int .u64 0),(.int .u64 0),(.int .u64 0)] [(0,11)]) [t155]) fun g o3 k3=>B32 g ((Op.append xm 11 88) [t150,(k3 H2.next)] (H2.alloc o3)) fun g t157 H4=>GO3 g Q .ret ((5,(.int .i64 0))::(4,t157)::(9,t150)::E) D H4) /\
 (∀ Q E D H,W M c (xe 41) true Q E D H =
  Lz E 7 fun g t7=>B3 g ((Op.un .not) [t7]) fun g t73=>IF3 g t73 (fun g=>Ly g E 0 fun g t0=>Ly g E 3 fun g t3=>Fl g 2 t3 H fun g t76=>C3 M g (.func ku) [t0,(.int .i64 6),t76] H fun g t77 H1=>B32 g ((Op.buildSlice xm 1 [(.int .i64 0),(.int .i64 0),(.int .i64 0),(.int .u64 0),(.int .u64 0),(.int .u64 0),(.int .u64 0),(.int .u64 0),(.int .u64 0),(.int .u64 0),(.int .u64 0)] [(0,11)]) [t77]) fun g o2 k2=>GO3 g (SEQ3 (W M c (xe 49)) Q) .ret ((5,(.int .i64 0))::(4,(k2 H1.next))::E) D (H1.alloc o2)) (fun g=>Gt g M c (xe 49) Q E D H)) /\
 (∀ Q E D H,W M c (xe 49) true Q E D H =
  Lz E 0 fun g t0=>Ly g E 6 fun g t6=>B3 g ((Op.loadN 21) [t6] H) fun g t80=>Ly g E 3 fun g t3=>Fl g 0 t3 H fun g t82=>Bn g .eql t82 (.int .i64 13) fun g t83=>C3 M g (.func qck) [t0,t80,t83] H fun g t84 H1=>Ly g E 0 fun g t0_1=>Ly g E 3 fun g t3_1=>Fl g 2 t3_1 H1 fun g t87=>C3 M g (.func ku) [t0_1,(.int .i64 5),t87] H1 fun g t88 H2=>A3 g xm [(.int .i64 0),(.int .i64 0),(.int .i64 0),(.int .u64 0),(.int .u64 0),(.int .u64 0),(.int .u64 0),(.int .u64 0),(.int .u64 0),(.int .u64 0),(.int .u64 0)] H2 fun g t8 H3=>B32 g ((Op.store 11) [t8,t88] H3) fun g u H4=>W M c (xe 53) g Q ((8,t8)::E) D H4) /\
 (∀ Q E D H,W M c (xe 53) true Q E D H =
  Lz E 3 fun g t3=>Fl g 0 t3 H fun g t90=>Cb g .eql t90 (.int .i64 12) (fun g=>Ly g E 0 fun g t0=>Nf g 2 t0 H fun g t96=>Ly g E 3 fun g t3_1=>Fl g 2 t3_1 H fun g t98=>C3 M g (.func qbx) [t96,t98] H fun g t99 H1=>B3 g ((Op.extract 0) [t99]) fun g t100=>B3 g ((Op.extract 1) [t99]) fun g t101=>Ly g E 8 fun g t8=>B3 g ((Op.fieldAddr 3) [t8]) fun g t102=>B32 g ((Op.store 8) [t102,t100] H1) fun g u H2=>Gt g M c (xe 61) Q E D H2) (fun g=>Ly g E 0 fun g t0=>Nf g 2 t0 H fun g t107=>Ly g E 3 fun g t3_1=>Fl g 2 t3_1 H fun g t109=>C3 M g (.func qa7) [t107,t109] H fun g t110 H1=>B3 g ((Op.extract 0) [t110]) fun g t111=>B3 g ((Op.extract 1) [t110]) fun g t112=>Ly g E 6 fun g t6=>B32 g ((Op.store 21) [t6,t111] H1) fun g u H2=>Ly g E 6 fun g t6_1=>B3 g ((Op.fieldAddr 4) [t6_1]) fun g t113=>B3 g ((Op.loadN 8) [t113] H2) fun g t114=>Ly g E 8 fun g t8=>B3 g ((Op.fieldAddr 3) [t8]) fun g t115=>B32 g ((Op.store 8) [t115,t114] H2) fun g u_1 H3=>Gt g M c (xe 61) Q E D H3)) /\
 (∀ Q E D H,W M c (xe 61) true Q E D H =
  Lz E 8 fun g t8=>B3 g ((Op.loadN 11) [t8] H) fun g t116=>B32 g ((Op.buildSlice xm 1 [(.int .i64 0),(.int .i64 0),(.int .i64 0),(.int .u64 0),(.int .u64 0),(.int .u64 0),(.int .u64 0),(.int .u64 0),(.int .u64 0),(.int .u64 0),(.int .u64 0)] [(0,11)]) [t116]) fun g o1 k1=>GO3 g Q .ret ((5,(.int .i64 0))::(4,(k1 H.next))::E) D (H.alloc o1)):=by (repeat' apply And.intro)<;>(intro _ _ _ _;refine W_unf ?_;kernel_rfl)
theorem qrz:(cProg Try.prog).func kj=some qia/\qia.results=[.tmp 4,.tmp 5]:=zg (by kernel_rfl)
theorem qr0 (h:W M ⟨none,kj⟩ (xe 0) true (FIN3 M [.tmp 4,.tmp 5] Q) [(0,a0),(1,a1)] [] H):yz M kj [a0,a1] H Q:=callf (by decide) qrz (ks:=ql2) (by kernel_rfl) h
def qh9:AFunc:=funcAt Try.prog qbo
def ql1:Kp:=⟨[0,1,4,5,6,7],false,[0,2,17,19,27,33]⟩
def jo (k:Nat):Kp × ACode:=(ql1,part qh9.body k)
theorem qry (M:Mac) (c:Ctx):(∀ Q E D H,W M c (jo 0) true Q E D H =
 W M c (jo 2) true Q ((5,(.int .i64 0))::(4,.nils)::E) D H) /\
 (∀ Q E D H,W M c (jo 2) true Q E D H =
  Lz E 0 fun g t0=>B3 g ((Op.eq .ptr false) [t0,.nilp] H) fun g t10=>IF3 g t10 (fun g=>GO3 g (BLK3 0 (SEQ3 (W M c (jo 17)) Q)) .ret ((5,(.int .i64 1))::(4,.nils)::E) D H) (fun g=>Ly g E 1 fun g t1=>Bn g .lss t1 (.int .i64 0) fun g t13=>JN (fun (k:Bool->AV->AV->AV->AV->AV->AV->AHeap->Prop)=>B3 g (wantV false (some t13)) fun g w=>IG3 g w (fun g=>Ly g E 0 fun g t0_1=>B3 g (Op.nilCheck [t0_1]) fun g t17=>B3 g ((Op.fieldAddr 1) [t17]) fun g t18=>B3 g (Op.load1 [t18] H) fun g t19=>Bn g .geq t1 t19 fun g t20=>k g t20 t19 t18 t17 t0_1 t1 H) (fun g=>k g uu uu uu uu uu uu H)) (fun g t20_1 t19_1 t18_1 t17_1 t16_1 t15_1 H1=>B3 g (Op.pick [t13,(.bool true),t20_1]) fun g t21=>IF3 g t21 (fun g=>GO3 g (BLK3 0 (SEQ3 (W M c (jo 17)) Q)) .ret ((5,(.int .i64 2))::(4,.nils)::E) D H1) (fun g=>GO3 g (BLK3 0 (SEQ3 (W M c (jo 17)) Q)) .normal E D H1)))) /\
 (∀ Q E D H,W M c (jo 17) true Q E D H =
  Lz E 0 fun g t0=>Nf g 2 t0 H fun g t26=>Ly g E 1 fun g t1=>C3 M g (.func qai) [t26,t1] H fun g t28 H1=>B3 g ((Op.extract 0) [t28]) fun g t29=>B3 g ((Op.extract 1) [t28]) fun g t30=>A3 g qk [(.int .i64 0),(.int .i64 0),(.bool false),(.bool false),(.int .u64 0),(.int .u64 0),(.int .u64 0),(.int .u64 0),(.int .u64 0),(.int .u64 0),(.int .u64 0),(.int .u64 0),(.int .u64 0),(.int .u64 0),(.int .u64 0),(.int .u64 0),(.int .u64 0),(.int .u64 0),(.int .u64 0),(.int .u64 0),(.int .i64 0)] H1 fun g t6 H2=>B32 g ((Op.store 21) [t6,t29] H2) fun g u H3=>W M c (jo 19) g Q ((7,t30)::(6,t6)::E) D H3) /\
 (∀ Q E D H,W M c (jo 19) true Q E D H =
  Lz E 7 fun g t7=>B3 g ((Op.un .not) [t7]) fun g t32=>IF3 g t32 (fun g=>GO3 g (SEQ3 (W M c (jo 27)) Q) .ret ((5,(.int .i64 20))::(4,.nils)::E) D H) (fun g=>Gt g M c (jo 27) Q E D H)) /\
 (∀ Q E D H,W M c (jo 27) true Q E D H =
  Lz E 6 fun g t6=>Fl g 2 t6 H fun g t34=>JN (fun (k:Bool->AV->AV->AHeap->Prop)=>B3 g (wantV false (some t34)) fun g w=>IG3 g w (fun g=>B3 g ((Op.fieldAddr 3) [t6]) fun g t36=>B3 g (Op.load1 [t36] H) fun g t37=>k g t37 t36 H) (fun g=>k g uu uu H)) (fun g t37_1 t36_1 H1=>B3 g (Op.pick [t34,(.bool true),t37_1]) fun g t38=>IF3 g t38 (fun g=>Ly g E 0 fun g t0=>C3 M g (.func yr) [t0,(.int .i64 4)] H1 fun g t40 H2=>Gt g M c (jo 33) Q E D H2) (fun g=>Gt g M c (jo 33) Q E D H1))) /\
 (∀ Q E D H,W M c (jo 33) true Q E D H =
  Lz E 0 fun g t0=>Nf g 2 t0 H fun g t45=>Ly g E 1 fun g t1=>C3 M g (.func qa7) [t45,t1] H fun g t47 H1=>B3 g ((Op.extract 0) [t47]) fun g t48=>B3 g ((Op.extract 1) [t47]) fun g t49=>Ly g E 6 fun g t6=>B32 g ((Op.store 21) [t6,t48] H1) fun g u H2=>Ly g E 0 fun g t0_1=>Ly g E 6 fun g t6_1=>B3 g ((Op.loadN 21) [t6_1] H2) fun g t51=>C3 M g (.func qbp) [t0_1,t51] H2 fun g t52 H3=>GO3 g Q .ret ((5,(.int .i64 0))::(4,t52)::E) D H3):=by (repeat' apply And.intro)<;>(intro _ _ _ _;refine W_unf ?_;kernel_rfl)
theorem qrw:(cProg Try.prog).func qbo=some qh9/\qh9.results=[.tmp 4,.tmp 5]:=zg (by kernel_rfl)
theorem qrx (h:W M ⟨none,qbo⟩ (jo 0) true (FIN3 M [.tmp 4,.tmp 5] Q) [(0,a0),(1,a1)] [] H):yz M qbo [a0,a1] H Q:=callf (by decide) qrw (ks:=ql1) (by kernel_rfl) h
def qgc:AFunc:=funcAt Try.prog qaq
def qja:Kp:=⟨[0,2],false,[0,2,10]⟩
def qat (k:Nat):Kp × ACode:=(qja,part qgc.body k)
theorem qom (M:Mac) (c:Ctx):(∀ Q E D H,W M c (qat 0) true Q E D H =
 W M c (qat 2) true Q ((2,.nilf)::E) D H) /\
 (∀ Q E D H,W M c (qat 2) true Q E D H =
  Lz E 0 fun g t0=>B3 g ((Op.eq .ptr false) [t0,.nilp] H) fun g t4=>IF3 g t4 (fun g=>GO3 g (SEQ3 (W M c (qat 10)) Q) .ret ((2,(.fn (.func qmj) [] []))::E) D H) (fun g=>Gt g M c (qat 10) Q E D H)) /\
 (∀ Q E D H,W M c (qat 10) true Q E D H =
  Lz E 0 fun g t0=>Nf g 2 t0 H fun g t8=>C3 M g (.func qb5) [t8] H fun g t9 H1=>C3 M g (.func yt) [t9] H1 fun g t10 H2=>GO3 g Q .ret ((2,t10)::E) D H2):=by (repeat' apply And.intro)<;>(intro _ _ _ _;refine W_unf ?_;kernel_rfl)
theorem qok:(cProg Try.prog).func qaq=some qgc/\qgc.results=[.tmp 2]:=zg (by kernel_rfl)
theorem qol (h:W M ⟨none,qaq⟩ (qat 0) true (FIN3 M [.tmp 2] Q) [(0,a0)] [] H):yz M qaq [a0] H Q:=callf (by decide) qok (ks:=qja) (by kernel_rfl) h
def qjc:AFunc:=funcAt Try.prog qbd
def qne:Kp:=⟨[0,1,4],false,[0,2,17]⟩
def qcb (k:Nat):Kp × ACode:=(qne,part qjc.body k)
theorem qux (M:Mac) (c:Ctx):(∀ Q E D H,W M c (qcb 0) true Q E D H =
 W M c (qcb 2) true Q ((4,(.int .i64 0))::E) D H) /\
 (∀ Q E D H,W M c (qcb 2) true Q E D H =
  Lz E 0 fun g t0=>B3 g ((Op.eq .ptr false) [t0,.nilp] H) fun g t7=>IF3 g t7 (fun g=>GO3 g (BLK3 0 (SEQ3 (W M c (qcb 17)) Q)) .ret ((4,(.int .i64 1))::E) D H) (fun g=>Ly g E 1 fun g t1=>Bn g .lss t1 (.int .i64 0) fun g t10=>JN (fun (k:Bool->AV->AV->AV->AV->AV->AV->AV->AHeap->Prop)=>B3 g (wantV false (some t10)) fun g w=>IG3 g w (fun g=>Ly g E 0 fun g t0_1=>B3 g (Op.nilCheck [t0_1]) fun g t14=>B3 g ((Op.fieldAddr 1) [t14]) fun g t15=>B3 g (Op.load1 [t15] H) fun g t16=>Bn g .mul t16 (.int .i64 8) fun g t17=>Bn g .geq t1 t17 fun g t18=>k g t18 t17 t16 t15 t14 t0_1 t1 H) (fun g=>k g uu uu uu uu uu uu uu H)) (fun g t18_1 t17_1 t16_1 t15_1 t14_1 t13_1 t12_1 H1=>B3 g (Op.pick [t10,(.bool true),t18_1]) fun g t19=>IF3 g t19 (fun g=>GO3 g (BLK3 0 (SEQ3 (W M c (qcb 17)) Q)) .ret ((4,(.int .i64 2))::E) D H1) (fun g=>GO3 g (BLK3 0 (SEQ3 (W M c (qcb 17)) Q)) .normal E D H1)))) /\
 (∀ Q E D H,W M c (qcb 17) true Q E D H =
  GO3 true Q .ret ((4,(.int .i64 0))::E) D H):=by (repeat' apply And.intro)<;>(intro _ _ _ _;refine W_unf ?_;kernel_rfl)
theorem quv:(cProg Try.prog).func qbd=some qjc/\qjc.results=[.tmp 4]:=zg (by kernel_rfl)
theorem quw (h:W M ⟨none,qbd⟩ (qcb 0) true (FIN3 M [.tmp 4] Q) [(0,a0),(1,a1)] [] H):yz M qbd [a0,a1] H Q:=callf (by decide) quv (ks:=qne) (by kernel_rfl) h
def qi9:AFunc:=funcAt Try.prog qbc
def qnd:Kp:=⟨[0,1,2,6],false,[0,2,10]⟩
def qdd (k:Nat):Kp × ACode:=(qnd,part qi9.body k)
theorem quu (M:Mac) (c:Ctx):(∀ Q E D H,W M c (qdd 0) true Q E D H =
 W M c (qdd 2) true Q ((6,.nils)::E) D H) /\
 (∀ Q E D H,W M c (qdd 2) true Q E D H =
  Lz E 0 fun g t0=>B3 g (Op.nilCheck [t0]) fun g t8=>B3 g ((Op.fieldAddr 3) [t8]) fun g t9=>Fl g 0 t9 H fun g t11=>Bn g .neq t11 (.int .i64 0) fun g t12=>JN (fun (k:Bool->AV->AV->AV->AV->AV->AV->AHeap->Prop)=>B3 g (wantV false (some t12)) fun g w=>IG3 g w (fun g=>B3 g (Op.nilCheck [t0]) fun g t15=>B3 g ((Op.fieldAddr 14) [t15]) fun g t16=>B3 g (Op.load1 [t16] H) fun g t17=>Ly g E 2 fun g t2=>C3 M g (.func vq) [t17,t2] H fun g t19 H1=>k g t19 t2 t17 t16 t15 t0 H1) (fun g=>k g uu uu uu uu uu uu H)) (fun g t19_1 t18_1 t17_1 t16_1 t15_1 t14_1 H2=>B3 g (Op.pick [t12,(.bool true),t19_1]) fun g t20=>IF3 g t20 (fun g=>GO3 g (SEQ3 (W M c (qdd 10)) Q) .ret ((6,.nils)::E) D H2) (fun g=>Gt g M c (qdd 10) Q E D H2))) /\
 (∀ Q E D H,W M c (qdd 10) true Q E D H =
  Lz E 0 fun g t0=>Ly g E 1 fun g t1=>Ly g E 2 fun g t2=>C3 M g (.func ku) [t0,t1,t2] H fun g t25 H1=>B3 g (Op.nilCheck [t0]) fun g t26=>B3 g ((Op.fieldAddr 3) [t26]) fun g t27=>B32 g ((Op.store 11) [t27,t25] H1) fun g u H2=>Ly g E 0 fun g t0_1=>B3 g (Op.nilCheck [t0_1]) fun g t29=>B3 g ((Op.fieldAddr 3) [t29]) fun g t30=>B3 g ((Op.loadN 11) [t30] H2) fun g t31=>B32 g ((Op.buildSlice xm 1 [(.int .i64 0),(.int .i64 0),(.int .i64 0),(.int .u64 0),(.int .u64 0),(.int .u64 0),(.int .u64 0),(.int .u64 0),(.int .u64 0),(.int .u64 0),(.int .u64 0)] [(0,11)]) [t31]) fun g o3 k3=>GO3 g Q .ret ((6,(k3 H2.next))::E) D (H2.alloc o3)):=by (repeat' apply And.intro)<;>(intro _ _ _ _;refine W_unf ?_;kernel_rfl)
theorem qus:(cProg Try.prog).func qbc=some qi9/\qi9.results=[.tmp 6]:=zg (by kernel_rfl)
theorem qut (h:W M ⟨none,qbc⟩ (qdd 0) true (FIN3 M [.tmp 6] Q) [(0,a0),(1,a1),(2,a2)] [] H):yz M qbc [a0,a1,a2] H Q:=callf (by decide) qus (ks:=qnd) (by kernel_rfl) h
def qhv:AFunc:=funcAt Try.prog qby
def qkz:Kp:=⟨[0,1,4,5,6],false,[0]⟩
def qk0 (k:Nat):Kp × ACode:=(qkz,part qhv.body k)
theorem qqx (M:Mac) (c:Ctx):(∀ Q E D H,W M c (qk0 0) true Q E D H =
 Lz E 0 fun g t0=>Nf g 2 t0 H fun g t11=>Ly g E 1 fun g t1=>C3 M g (.func qai) [t11,t1] H fun g t13 H1=>B3 g ((Op.extract 0) [t13]) fun g t14=>B3 g ((Op.extract 1) [t13]) fun g t15=>A3 g qk [(.int .i64 0),(.int .i64 0),(.bool false),(.bool false),(.int .u64 0),(.int .u64 0),(.int .u64 0),(.int .u64 0),(.int .u64 0),(.int .u64 0),(.int .u64 0),(.int .u64 0),(.int .u64 0),(.int .u64 0),(.int .u64 0),(.int .u64 0),(.int .u64 0),(.int .u64 0),(.int .u64 0),(.int .u64 0),(.int .i64 0)] H1 fun g t5 H2=>B32 g ((Op.store 21) [t5,t14] H2) fun g u H3=>JN (fun (k:Bool->AV->AV->AV->AHeap->Prop)=>B3 g (wantV true (some t15)) fun g w=>IG3 g w (fun g=>B3 g ((Op.fieldAddr 1) [t5]) fun g t18=>B3 g (Op.load1 [t18] H3) fun g t19=>Bn g .eql t19 (.int .i64 2) fun g t20=>k g t20 t19 t18 H3) (fun g=>k g uu uu uu H3)) (fun g t20_1 t19_1 t18_1 H4=>B3 g (Op.pick [t15,t20_1,(.bool false)]) fun g t21=>GO3 g Q .ret ((4,t21)::(6,t15)::(5,t5)::(4,(.bool false))::E) D H4)):=by intro _ _ _ _;refine W_unf ?_;kernel_rfl
theorem qqv:(cProg Try.prog).func qby=some qhv/\qhv.results=[.tmp 4]:=zg (by kernel_rfl)
theorem qqw (h:W M ⟨none,qby⟩ (qk0 0) true (FIN3 M [.tmp 4] Q) [(0,a0),(1,a1)] [] H):yz M qby [a0,a1] H Q:=callf (by decide) qqv (ks:=qkz) (by kernel_rfl) h
def qhu:AFunc:=funcAt Try.prog yr
def qkx:Kp:=⟨[0,1],false,[0]⟩
def qky (k:Nat):Kp × ACode:=(qkx,part qhu.body k)
theorem qqu (M:Mac) (c:Ctx):(∀ Q E D H,W M c (qky 0) true Q E D H =
 Lz E 0 fun g t0=>Nf g 2 t0 H fun g t7=>C3 M g (.func y8) [t7] H fun g t8 H1=>Ly g E 0 fun g t0_1=>Ly g E 1 fun g t1=>Ns g 15 t0_1 (.bool false) H1 fun g u H2=>Ns g 16 t0_1 t1 H2 fun g u_1 H3=>GO3 g Q .normal E D H3):=by intro _ _ _ _;refine W_unf ?_;kernel_rfl
theorem qqs:(cProg Try.prog).func yr=some qhu/\qhu.results=[]:=zg (by kernel_rfl)
theorem qqt (h:W M ⟨none,yr⟩ (qky 0) true (FIN3 M [] Q) [(0,a0),(1,a1)] [] H):yz M yr [a0,a1] H Q:=callf (by decide) qqs (ks:=qkx) (by kernel_rfl) h
def qgd:AFunc:=funcAt Try.prog qar
def qjb:Kp:=⟨[0,1,2,4,5,6,8,14],false,[0,2,12,18,28,41]⟩
def jl (k:Nat):Kp × ACode:=(qjb,part qgd.body k)
theorem qop (M:Mac) (c:Ctx):(∀ Q E D H,W M c (jl 0) true Q E D H =
 Lz E 1 fun g t1=>A3 g xm (AV.cells t1) H fun g t4 H1=>Ly g E 2 fun g t2=>A3 g qk (AV.cells t2) H1 fun g t5 H2=>W M c (jl 2) g Q ((6,(.bool false))::(5,t5)::(4,t4)::E) D H2) /\
 (∀ Q E D H,W M c (jl 2) true Q E D H =
  Lz E 4 fun g t4=>Fl g 0 t4 H fun g t8=>Cb g .eql t8 (.int .i64 11) (fun g=>Ly g E 5 fun g t5=>Fl g 1 t5 H fun g t12=>Bn g .neq t12 (.int .i64 2) fun g t13=>GO3 g (BLK3 0 (SEQ3 (W M c (jl 41)) Q)) .ret ((6,t13)::(8,t8)::E) D H) (fun g=>W M c (jl 12) g (BLK3 0 (SEQ3 (W M c (jl 41)) Q)) ((8,t8)::E) D H)) /\
 (∀ Q E D H,W M c (jl 41) true Q E D H =
  GO3 true Q .ret ((6,(.bool false))::E) D H) /\
 (∀ Q E D H,W M c (jl 12) true Q E D H =
  Lz E 8 fun g t8=>Bn g .eql t8 (.int .i64 12) fun g t15=>IF3 g t15 (fun g=>Gt g M c (jl 18) Q ((14,t15)::E) D H) (fun g=>Ly g E 8 fun g t8_1=>Bn g .eql t8_1 (.int .i64 13) fun g t16=>Gt g M c (jl 18) Q ((14,t16)::(14,t15)::E) D H)) /\
 (∀ Q E D H,W M c (jl 18) true Q E D H =
  Lz E 14 fun g t14=>IF3 g t14 (fun g=>Ly g E 5 fun g t5=>Fl g 1 t5 H fun g t18=>Bn g .neq t18 (.int .i64 1) fun g t19=>GO3 g Q .ret ((6,t19)::E) D H) (fun g=>Ly g E 8 fun g t8=>Cb g .eql t8 (.int .i64 14) (fun g=>Ly g E 0 fun g t0=>B3 g (Op.nilCheck [t0]) fun g t23=>B3 g ((Op.fieldAddr 3) [t23]) fun g t24=>B3 g ((Op.loadN 11) [t24] H) fun g t25=>Ly g E 4 fun g t4=>Fl g 2 t4 H fun g t28=>C3 M g (.func ku) [t0,(.int .i64 1),t28] H fun g t29 H1=>CK3 g ((Op.loadN 11) [t24] H1) (some t25) fun g=>B3 g ((Op.eq (.agg (.part 0 none .int (.part 1 none .int (.part 2 none .int (.part 3 (some 8) (.part 0 none .int (.part 1 none .int (.part 2 none .int (.part 3 none .int (.part 4 none .int (.part 5 none .int (.part 6 none .int (.part 7 none .int .nil)))))))) .nil))))) false) [t25,t29] H1) fun g t30=>GO3 g Q .ret ((6,t30)::E) D H1) (fun g=>W M c (jl 28) g Q E D H))) /\
 (∀ Q E D H,W M c (jl 28) true Q E D H =
  Lz E 8 fun g t8=>Cb g .eql t8 (.int .i64 15) (fun g=>Ly g E 0 fun g t0=>B3 g (Op.nilCheck [t0]) fun g t34=>B3 g ((Op.fieldAddr 3) [t34]) fun g t35=>B3 g ((Op.loadN 11) [t35] H) fun g t36=>Ly g E 4 fun g t4=>Fl g 2 t4 H fun g t39=>C3 M g (.func ku) [t0,(.int .i64 2),t39] H fun g t40 H1=>CK3 g ((Op.loadN 11) [t35] H1) (some t36) fun g=>B3 g ((Op.eq (.agg (.part 0 none .int (.part 1 none .int (.part 2 none .int (.part 3 (some 8) (.part 0 none .int (.part 1 none .int (.part 2 none .int (.part 3 none .int (.part 4 none .int (.part 5 none .int (.part 6 none .int (.part 7 none .int .nil)))))))) .nil))))) false) [t36,t40] H1) fun g t41=>GO3 g Q .ret ((6,t41)::E) D H1) (fun g=>Ly g E 8 fun g t8_1=>Cb g .eql t8_1 (.int .i64 16) (fun g=>Ly g E 0 fun g t0=>Nf g 14 t0 H fun g t47=>Ly g E 4 fun g t4=>Fl g 2 t4 H fun g t49=>C3 M g (.func vq) [t47,t49] H fun g t50 H1=>GO3 g Q .ret ((6,t50)::E) D H1) (fun g=>GO3 g Q .normal E D H))):=by (repeat' apply And.intro)<;>(intro _ _ _ _;refine W_unf ?_;kernel_rfl)
theorem qon:(cProg Try.prog).func qar=some qgd/\qgd.results=[.tmp 6]:=zg (by kernel_rfl)
theorem qoo (h:W M ⟨none,qar⟩ (jl 0) true (FIN3 M [.tmp 6] Q) [(0,a0),(1,a1),(2,a2)] [] H):yz M qar [a0,a1,a2] H Q:=callf (by decide) qon (ks:=qjb) (by kernel_rfl) h
def qif:AFunc:=funcAt Try.prog qck
def ql8:Kp:=⟨[0,1,2,4],false,[0]⟩
def ql9 (k:Nat):Kp × ACode:=(ql8,part qif.body k)
theorem qdo (M:Mac) (c:Ctx):(∀ Q E D H,W M c (ql9 0) true Q E D H =
 Lz E 1 fun g t1=>A3 g qk (AV.cells t1) H fun g t4 H1=>Fl g 3 t4 H1 fun g t10=>B3 g ((Op.un .not) [t10]) fun g t11=>JN (fun (k:Bool->AV->AV->AV->AHeap->Prop)=>B3 g (wantV true (some t11)) fun g w=>IG3 g w (fun g=>B3 g ((Op.fieldAddr 2) [t4]) fun g t13=>B3 g (Op.load1 [t13] H1) fun g t14=>k g t14 t14 t13 H1) (fun g=>k g uu uu uu H1)) (fun g t15_1 t14_1 t13_1 H2=>JN (fun (k:Bool->AV->AHeap->Prop)=>B3 g (wantV true (some t15_1)) fun g w=>IG3 g w (fun g=>Ly g E 2 fun g t2=>k g t2 H2) (fun g=>k g uu H2)) (fun g t16_1 H3=>JN (fun (k:Bool->AV->AV->AHeap->Prop)=>B3 g (wantV true (some t11)) fun g w=>IG3 g w (fun g=>B3 g (Op.pick [t15_1,t16_1,(.bool false)]) fun g t17=>B3 g ((Op.un .not) [t17]) fun g t18=>k g t18 t17 H3) (fun g=>k g uu uu H3)) (fun g t18_1 t17_1 H4=>B3 g (Op.pick [t11,t18_1,(.bool false)]) fun g t19=>IF3 g t19 (fun g=>GO3 g (BLK3 0 Q) .normal ((4,t4)::E) D H4) (fun g=>Fl g 0 t4 H4 fun g t22=>Cb g .eql t22 (.int .i64 0) (fun g=>Ly g E 0 fun g t0=>C3 M g (.func yr) [t0,(.int .i64 2)] H4 fun g t25 H5=>GO3 g (BLK3 0 Q) .normal ((4,t4)::E) D H5) (fun g=>Ly g E 0 fun g t0=>C3 M g (.func yr) [t0,(.int .i64 1)] H4 fun g t7 H5=>GO3 g (BLK3 0 Q) .normal ((4,t4)::E) D H5)))))):=by intro _ _ _ _;refine W_unf ?_;kernel_rfl
theorem qse:(cProg Try.prog).func qck=some qif/\qif.results=[]:=zg (by kernel_rfl)
theorem qsf (h:W M ⟨none,qck⟩ (ql9 0) true (FIN3 M [] Q) [(0,a0),(1,a1),(2,a2)] [] H):yz M qck [a0,a1,a2] H Q:=callf (by decide) qse (ks:=ql8) (by kernel_rfl) h
def qjd:AFunc:=funcAt Try.prog ku
def qnf:Kp:=⟨[0,1,2,6,11],false,[0]⟩
def qng (k:Nat):Kp × ACode:=(qnf,part qjd.body k)
theorem qu0 (M:Mac) (c:Ctx):(∀ Q E D H,W M c (qng 0) true Q E D H =
 A3 true xm [(.int .i64 0),(.int .i64 0),(.int .i64 0),(.int .u64 0),(.int .u64 0),(.int .u64 0),(.int .u64 0),(.int .u64 0),(.int .u64 0),(.int .u64 0),(.int .u64 0)] H fun g t6 H1=>Ly g E 1 fun g t1=>Ly g E 0 fun g t0=>Nf g 0 t0 H1 fun g t11=>Ly g E 2 fun g t2=>B3 g ((Op.build [(.int .i64 0),(.int .i64 0),(.int .i64 0),(.int .u64 0),(.int .u64 0),(.int .u64 0),(.int .u64 0),(.int .u64 0),(.int .u64 0),(.int .u64 0),(.int .u64 0)] [(0,1),(1,1),(2,1)]) [t1,t11,t2]) fun g t13=>B32 g ((Op.store 11) [t6,t13] H1) fun g u H2=>GO3 g Q .ret ((11,t11)::(6,t6)::E) D H2):=by intro _ _ _ _;refine W_unf ?_;kernel_rfl
theorem quy:(cProg Try.prog).func ku=some qjd/\qjd.results=[.cellN 11 6]:=zg (by kernel_rfl)
theorem quz (h:W M ⟨none,ku⟩ (qng 0) true (FIN3 M [.cellN 11 6] Q) [(0,a0),(1,a1),(2,a2)] [] H):yz M ku [a0,a1,a2] H Q:=callf (by decide) quy (ks:=qnf) (by kernel_rfl) h
def qem:AFunc:=funcAt Try.prog ym
def qgw:Kp:=⟨[0,1,4,5,6,7],false,[0,4,12,17,23,34,35]⟩
def zf (k:Nat):Kp × ACode:=(qgw,part qem.body k)
theorem qlm (M:Mac) (c:Ctx):(∀ Q E D H,W M c (zf 0) true Q E D H =
 Lz E 0 fun g t0=>Ly g E 1 fun g t1=>C3 M g (.func yy) [t0,t1] H fun g t10 H1=>W M c (zf 4) g Q ((5,t10)::(4,.nils)::E) D H1) /\
 (∀ Q E D H,W M c (zf 4) true Q E D H =
  Lz E 5 fun g t5=>Cb g .eql t5 (.int .i64 (-1)) (fun g=>Ly g E 0 fun g t0=>GO3 g (SEQ3 (W M c (zf 12)) Q) .ret ((4,t0)::E) D H) (fun g=>Gt g M c (zf 12) Q E D H)) /\
 (∀ Q E D H,W M c (zf 12) true Q E D H =
  Lz E 5 fun g t5=>Bn g .add t5 (.int .i64 1) fun g t15=>LOOP3 (W M c (zf 17)) (BLK3 0 (SEQ3 (W M c (zf 35)) Q)) ((6,t15)::E) D H) /\
 (∀ Q E D H,W M c (zf 35) true Q E D H =
  Lz E 0 fun g t0=>Ly g E 5 fun g t5=>B3 g ((Op.sliceSl 1 [(some 0),none,none]) [t0,t5]) fun g t38=>B32 g ((Op.clearSl [(.int .i64 0)]) [t38] H) fun g u H1=>Ly g E 0 fun g t0_1=>Ly g E 5 fun g t5_1=>B3 g ((Op.sliceSl 1 [none,(some 0),none]) [t0_1,t5_1]) fun g t41=>GO3 g Q .ret ((4,t41)::E) D H1) /\
 (∀ Q E D H,W M c (zf 17) true Q E D H =
  Lz E 6 fun g t6=>Ly g E 0 fun g t0=>B3 g (Op.lenSl [t0]) fun g t18=>Cb g .lss t6 t18 (fun g=>Gt g M c (zf 23) Q E D H) (fun g=>GO3 g (SEQ3 (W M c (zf 23)) Q) (.exit 0) E D H)) /\
 (∀ Q E D H,W M c (zf 23) true Q E D H =
  Lz E 0 fun g t0=>Ly g E 6 fun g t6=>Xl g t0 t6 H fun g t25=>Ly g E 1 fun g t1=>V3 g [t1,t25] fun g f vs=>C3 M g f vs H fun g t28 H1=>B3 g ((Op.un .not) [t28]) fun g t29=>IF3 g t29 (fun g=>Ly g E 0 fun g t0_1=>Ly g E 5 fun g t5=>Xs g t0_1 t5 t25 H1 fun g u H2=>Ly g E 5 fun g t5_1=>Bn g .add t5_1 (.int .i64 1) fun g t35=>GO3 g (BLK3 1 (SEQ3 (W M c (zf 34)) Q)) .normal ((5,t35)::(7,t25)::E) D H2) (fun g=>GO3 g (BLK3 1 (SEQ3 (W M c (zf 34)) Q)) .normal ((7,t25)::E) D H1)) /\
 (∀ Q E D H,W M c (zf 34) true Q E D H =
  Lz E 6 fun g t6=>Bn g .add t6 (.int .i64 1) fun g t21=>GO3 g Q .normal ((6,t21)::E) D H):=by (repeat' apply And.intro)<;>(intro _ _ _ _;refine W_unf ?_;kernel_rfl)
theorem qlk:(cProg Try.prog).func ym=some qem/\qem.results=[.tmp 4]:=zg (by kernel_rfl)
theorem qll (h:W M ⟨none,ym⟩ (zf 0) true (FIN3 M [.tmp 4] Q) [(0,a0),(1,a1)] [] H):yz M ym [a0,a1] H Q:=callf (by decide) qlk (ks:=qgw) (by kernel_rfl) h
def qgs:AFunc:=funcAt Try.prog qbb
def qjw:Kp:=⟨[0,1,3],false,[0]⟩
def qjx (k:Nat):Kp × ACode:=(qjw,part qgs.body k)
theorem qjy (M:Mac) (c:Ctx):(∀ Q E D H,W M c (qjx 0) true Q E D H =
 Lz E 0 fun g t0=>Ly g E 1 fun g t1=>Fl g 2 t1 H fun g t6=>Bn g .eql t0 t6 fun g t7=>GO3 g Q .ret ((3,t7)::(3,(.bool false))::E) D H):=by intro _ _ _ _;refine W_unf ?_;kernel_rfl
theorem qpk:(cProg Try.prog).func qbb=some qgs/\qgs.results=[.tmp 3]:=zg (by kernel_rfl)
theorem qpl (h:W M ⟨none,qbb⟩ (qjx 0) true (FIN3 M [.tmp 3] Q) [(0,a0),(1,a1)] [] H):yz M qbb [a0,a1] H Q:=callf (by decide) qpk (ks:=qjw) (by kernel_rfl) h
def qid:AFunc:=funcAt Try.prog qam
def ql6:Kp:=⟨[0,1,3,4,5,6,7,8],false,[0,4,10,12,20,28]⟩
def jp (k:Nat):Kp × ACode:=(ql6,part qid.body k)
theorem qsa (M:Mac) (c:Ctx):(∀ Q E D H,W M c (jp 0) true Q E D H =
 Lz E 1 fun g t1=>A3 g xm (AV.cells t1) H fun g t3 H1=>W M c (jp 4) g Q ((5,(.int .i64 1))::(4,.nils)::(3,t3)::E) D H1) /\
 (∀ Q E D H,W M c (jp 4) true Q E D H =
  Lz E 3 fun g t3=>Fl g 0 t3 H fun g t10=>Cb g .eql t10 (.int .i64 15) (fun g=>Gt g M c (jp 10) Q ((5,(.int .i64 2))::E) D H) (fun g=>Gt g M c (jp 10) Q E D H)) /\
 (∀ Q E D H,W M c (jp 10) true Q E D H =
  Lz E 0 fun g t0=>Nf g 2 t0 H fun g t16=>Ly g E 3 fun g t3=>Fl g 2 t3 H fun g t18=>Ly g E 5 fun g t5=>B3 g ((Op.fieldAddr 3) [t3]) fun g t20=>B3 g ((Op.loadN 8) [t20] H) fun g t21=>C3 M g (.func qah) [t16,t18,t5,t21] H fun g t22 H1=>B3 g ((Op.extract 0) [t22]) fun g t23=>B3 g ((Op.extract 1) [t22]) fun g t24=>B3 g ((Op.extract 2) [t22]) fun g t25=>A3 g qk [(.int .i64 0),(.int .i64 0),(.bool false),(.bool false),(.int .u64 0),(.int .u64 0),(.int .u64 0),(.int .u64 0),(.int .u64 0),(.int .u64 0),(.int .u64 0),(.int .u64 0),(.int .u64 0),(.int .u64 0),(.int .u64 0),(.int .u64 0),(.int .u64 0),(.int .u64 0),(.int .u64 0),(.int .u64 0),(.int .i64 0)] H1 fun g t6 H2=>B32 g ((Op.store 21) [t6,t23] H2) fun g u H3=>W M c (jp 12) g Q ((8,t25)::(7,t24)::(6,t6)::E) D H3) /\
 (∀ Q E D H,W M c (jp 12) true Q E D H =
  Lz E 8 fun g t8=>Cb g .eql t8 (.int .i64 22) (fun g=>Ly g E 0 fun g t0=>C3 M g (.func yr) [t0,(.int .i64 3)] H fun g t29 H1=>Ly g E 0 fun g t0_1=>Nf g 2 t0_1 H1 fun g t34=>Ly g E 3 fun g t3=>Fl g 2 t3 H1 fun g t36=>Ly g E 5 fun g t5=>B3 g ((Op.fieldAddr 3) [t3]) fun g t38=>B3 g ((Op.loadN 8) [t38] H1) fun g t39=>C3 M g (.func qah) [t34,t36,t5,t39] H1 fun g t40 H2=>B3 g ((Op.extract 0) [t40]) fun g t41=>B3 g ((Op.extract 1) [t40]) fun g t42=>B3 g ((Op.extract 2) [t40]) fun g t43=>Ly g E 6 fun g t6=>B32 g ((Op.store 21) [t6,t41] H2) fun g u H3=>Gt g M c (jp 20) Q ((7,t42)::E) D H3) (fun g=>Gt g M c (jp 20) Q E D H)) /\
 (∀ Q E D H,W M c (jp 20) true Q E D H =
  Lz E 7 fun g t7=>B3 g ((Op.un .not) [t7]) fun g t45=>IF3 g t45 (fun g=>GO3 g (SEQ3 (W M c (jp 28)) Q) .ret ((4,.nils)::E) D H) (fun g=>Gt g M c (jp 28) Q E D H)) /\
 (∀ Q E D H,W M c (jp 28) true Q E D H =
  Lz E 0 fun g t0=>Ly g E 6 fun g t6=>B3 g ((Op.loadN 21) [t6] H) fun g t47=>C3 M g (.func qbp) [t0,t47] H fun g t48 H1=>GO3 g Q .ret ((4,t48)::E) D H1):=by (repeat' apply And.intro)<;>(intro _ _ _ _;refine W_unf ?_;kernel_rfl)
theorem qr8:(cProg Try.prog).func qam=some qid/\qid.results=[.tmp 4]:=zg (by kernel_rfl)
theorem qr9 (h:W M ⟨none,qam⟩ (jp 0) true (FIN3 M [.tmp 4] Q) [(0,a0),(1,a1)] [] H):yz M qam [a0,a1] H Q:=callf (by decide) qr8 (ks:=ql6) (by kernel_rfl) h
def qie:AFunc:=funcAt Try.prog qbp
def ql7:Kp:=⟨[0,1,3,4,5],false,[0,2,10]⟩
def qcn (k:Nat):Kp × ACode:=(ql7,part qie.body k)
theorem qsd (M:Mac) (c:Ctx):(∀ Q E D H,W M c (qcn 0) true Q E D H =
 Lz E 1 fun g t1=>A3 g qk (AV.cells t1) H fun g t3 H1=>W M c (qcn 2) g Q ((4,.nils)::(3,t3)::E) D H1) /\
 (∀ Q E D H,W M c (qcn 2) true Q E D H =
  Lz E 3 fun g t3=>Fl g 1 t3 H fun g t7=>Cb g .neq t7 (.int .i64 2) (fun g=>GO3 g (SEQ3 (W M c (qcn 10)) Q) .ret ((4,.nils)::E) D H) (fun g=>Gt g M c (qcn 10) Q E D H)) /\
 (∀ Q E D H,W M c (qcn 10) true Q E D H =
  Lz E 0 fun g t0=>Nf g 14 t0 H fun g t13=>Ly g E 3 fun g t3=>Fl g 0 t3 H fun g t15=>B32 g ((Op.buildSlice T_int 1 [(.int .i64 0)] [(0,1)]) [t15]) fun g o1 k1=>B32 g ((Op.append T_int 1 8) [t13,(k1 H.next)] (H.alloc o1)) fun g t17 H2=>Ns g 14 t0 t17 H2 fun g u H3=>Ly g E 0 fun g t0_1=>Ly g E 3 fun g t3_1=>Fl g 0 t3_1 H3 fun g t22=>C3 M g (.func ku) [t0_1,(.int .i64 3),t22] H3 fun g t23 H4=>A3 g xm [(.int .i64 0),(.int .i64 0),(.int .i64 0),(.int .u64 0),(.int .u64 0),(.int .u64 0),(.int .u64 0),(.int .u64 0),(.int .u64 0),(.int .u64 0),(.int .u64 0)] H4 fun g t5 H5=>B32 g ((Op.store 11) [t5,t23] H5) fun g u_1 H6=>Ly g E 3 fun g t3_2=>B3 g ((Op.fieldAddr 4) [t3_2]) fun g t24=>B3 g ((Op.loadN 8) [t24] H6) fun g t25=>B3 g ((Op.fieldAddr 3) [t5]) fun g t26=>B32 g ((Op.store 8) [t26,t25] H6) fun g u_2 H7=>B3 g ((Op.loadN 11) [t5] H7) fun g t27=>B32 g ((Op.buildSlice xm 1 [(.int .i64 0),(.int .i64 0),(.int .i64 0),(.int .u64 0),(.int .u64 0),(.int .u64 0),(.int .u64 0),(.int .u64 0),(.int .u64 0),(.int .u64 0),(.int .u64 0)] [(0,11)]) [t27]) fun g o8 k8=>GO3 g Q .ret ((4,(k8 H7.next))::(5,t5)::E) D (H7.alloc o8)):=by (repeat' apply And.intro)<;>(intro _ _ _ _;refine W_unf ?_;kernel_rfl)
theorem qsb:(cProg Try.prog).func qbp=some qie/\qie.results=[.tmp 4]:=zg (by kernel_rfl)
theorem qsc (h:W M ⟨none,qbp⟩ (qcn 0) true (FIN3 M [.tmp 4] Q) [(0,a0),(1,a1)] [] H):yz M qbp [a0,a1] H Q:=callf (by decide) qsb (ks:=ql7) (by kernel_rfl) h
def qdx:AFunc:=funcAt Try.prog yt
def qf5:Kp:=⟨[0,1,2],false,[0]⟩
def qf6 (k:Nat):Kp × ACode:=(qf5,part qdx.body k)
theorem qj8 (M:Mac) (c:Ctx):(∀ Q E D H,W M c (qf6 0) true Q E D H =
 Lz E 0 fun g t0=>A3 g T__11 (AV.cells t0) H fun g t1 H1=>B3 g ((Op.mkFunc jc 0) [t1]) fun g t3=>GO3 g Q .ret ((2,t3)::(2,.nilf)::(1,t1)::E) D H1):=by intro _ _ _ _;refine W_unf ?_;kernel_rfl
theorem qj6:(cProg Try.prog).func yt=some qdx/\qdx.results=[.tmp 2]:=zg (by kernel_rfl)
theorem qj7 (h:W M ⟨none,yt⟩ (qf6 0) true (FIN3 M [.tmp 2] Q) [(0,a0)] [] H):yz M yt [a0] H Q:=callf (by decide) qj6 (ks:=qf5) (by kernel_rfl) h
def qff:AFunc:=funcAt Try.prog vq
def qh4:Kp:=⟨[0,1,4],false,[0]⟩
def qh5 (k:Nat):Kp × ACode:=(qh4,part qff.body k)
theorem qnk (M:Mac) (c:Ctx):(∀ Q E D H,W M c (qh5 0) true Q E D H =
 Lz E 0 fun g t0=>Ly g E 1 fun g t1=>C3 M g (.func qbe) [t0,t1] H fun g t7 H1=>Bn g .geq t7 (.int .i64 0) fun g t8=>GO3 g Q .ret ((4,t8)::(4,(.bool false))::E) D H1):=by intro _ _ _ _;refine W_unf ?_;kernel_rfl
theorem qni:(cProg Try.prog).func vq=some qff/\qff.results=[.tmp 4]:=zg (by kernel_rfl)
theorem qnj (h:W M ⟨none,vq⟩ (qh5 0) true (FIN3 M [.tmp 4] Q) [(0,a0),(1,a1)] [] H):yz M vq [a0,a1] H Q:=callf (by decide) qni (ks:=qh4) (by kernel_rfl) h
def qe0:AFunc:=funcAt Try.prog yy
def qg9:Kp:=⟨[0,1,4,5,7,8],false,[0,2,7,13,24,25]⟩
def z4 (k:Nat):Kp × ACode:=(qg9,part qe0.body k)
theorem qmf (M:Mac) (c:Ctx):(∀ Q E D H,W M c (z4 0) true Q E D H =
 W M c (z4 2) true Q ((4,(.int .i64 0))::E) D H) /\
 (∀ Q E D H,W M c (z4 2) true Q E D H =
  Lz E 0 fun g t0=>B3 g (Op.lenSl [t0]) fun g t7=>LOOP3 (W M c (z4 7)) (BLK3 0 (SEQ3 (W M c (z4 25)) Q)) ((8,(.int .i64 0))::(7,t7)::E) D H) /\
 (∀ Q E D H,W M c (z4 25) true Q E D H =
  GO3 true Q .ret ((4,(.int .i64 (-1)))::E) D H) /\
 (∀ Q E D H,W M c (z4 7) true Q E D H =
  Lz E 8 fun g t8=>Ly g E 7 fun g t7=>Cb g .lss t8 t7 (fun g=>Gt g M c (z4 13) Q E D H) (fun g=>GO3 g (SEQ3 (W M c (z4 13)) Q) (.exit 0) E D H)) /\
 (∀ Q E D H,W M c (z4 13) true Q E D H =
  Lz E 8 fun g t8=>Ly g E 1 fun g t1=>Ly g E 0 fun g t0=>Xl g t0 t8 H fun g t15=>V3 g [t1,t15] fun g f vs=>C3 M g f vs H fun g t16 H1=>IF3 g t16 (fun g=>GO3 g (BLK3 1 (SEQ3 (W M c (z4 24)) Q)) .ret ((4,t8)::(5,t8)::E) D H1) (fun g=>GO3 g (BLK3 1 (SEQ3 (W M c (z4 24)) Q)) .normal ((5,t8)::E) D H1)) /\
 (∀ Q E D H,W M c (z4 24) true Q E D H =
  Lz E 8 fun g t8=>Bn g .add t8 (.int .i64 1) fun g t18=>GO3 g Q .normal ((8,t18)::E) D H):=by (repeat' apply And.intro)<;>(intro _ _ _ _;refine W_unf ?_;kernel_rfl)
theorem qmd:(cProg Try.prog).func yy=some qe0/\qe0.results=[.tmp 4]:=zg (by kernel_rfl)
theorem qme (h:W M ⟨none,yy⟩ (z4 0) true (FIN3 M [.tmp 4] Q) [(0,a0),(1,a1)] [] H):yz M yy [a0,a1] H Q:=callf (by decide) qmd (ks:=qg9) (by kernel_rfl) h
def qdf:AFunc:=funcAt Try.prog jc
def qfi:Kp:=⟨[0,1,4,5,6,7],false,[0,4,10,19]⟩
def jd (k:Nat):Kp × ACode:=(qfi,part qdf.body k)
theorem qjk (M:Mac) (c:Ctx):(∀ Q E D H,W M c (jd 0) true Q E D H =
 Lz E 1 fun g t1=>B3 g (Op.load1 [t1] H) fun g t5=>B3 g (Op.lenSl [t5]) fun g t6=>LOOP3 (W M c (jd 4)) (BLK3 0 Q) ((7,(.int .i64 0))::(6,t6)::(5,t5)::E) D H) /\
 (∀ Q E D H,W M c (jd 4) true Q E D H =
  Lz E 7 fun g t7=>Ly g E 6 fun g t6=>Cb g .lss t7 t6 (fun g=>Gt g M c (jd 10) Q E D H) (fun g=>GO3 g (SEQ3 (W M c (jd 10)) Q) (.exit 0) E D H)) /\
 (∀ Q E D H,W M c (jd 10) true Q E D H =
  Lz E 5 fun g t5=>Ly g E 7 fun g t7=>B3 g ((Op.indexSl 21) [t5,t7]) fun g t9=>B3 g ((Op.loadN 21) [t9] H) fun g t10=>A3 g qk [(.int .i64 0),(.int .i64 0),(.bool false),(.bool false),(.int .u64 0),(.int .u64 0),(.int .u64 0),(.int .u64 0),(.int .u64 0),(.int .u64 0),(.int .u64 0),(.int .u64 0),(.int .u64 0),(.int .u64 0),(.int .u64 0),(.int .u64 0),(.int .u64 0),(.int .u64 0),(.int .u64 0),(.int .u64 0),(.int .i64 0)] H fun g t4 H1=>B32 g ((Op.store 21) [t4,t10] H1) fun g u H2=>Ly g E 0 fun g t0=>B3 g ((Op.loadN 21) [t4] H2) fun g t12=>V3 g [t0,t12] fun g f vs=>C3 M g f vs H2 fun g t13 H3=>B3 g ((Op.un .not) [t13]) fun g t14=>IF3 g t14 (fun g=>GO3 g (BLK3 1 (SEQ3 (W M c (jd 19)) Q)) .ret ((4,t4)::E) D H3) (fun g=>GO3 g (BLK3 1 (SEQ3 (W M c (jd 19)) Q)) .normal ((4,t4)::E) D H3)) /\
 (∀ Q E D H,W M c (jd 19) true Q E D H =
  Lz E 7 fun g t7=>Bn g .add t7 (.int .i64 1) fun g t15=>GO3 g Q .normal ((7,t15)::E) D H):=by (repeat' apply And.intro)<;>(intro _ _ _ _;refine W_unf ?_;kernel_rfl)
theorem qji:(cProg Try.prog).func jc=some qdf/\qdf.results=[]:=zg (by kernel_rfl)
theorem qjj (h:W M ⟨none,jc⟩ (jd 0) true (FIN3 M [] Q) [(0,a0),(1,a1)] [] H):yz M jc [a0,a1] H Q:=callf (by decide) qji (ks:=qfi) (by kernel_rfl) h
def qgx:AFunc:=funcAt Try.prog qbe
def qj2:Kp:=⟨[0,1,4,5,7,8],false,[0,2,7,13,24,25]⟩
def ju (k:Nat):Kp × ACode:=(qj2,part qgx.body k)
theorem qpt (M:Mac) (c:Ctx):(∀ Q E D H,W M c (ju 0) true Q E D H =
 W M c (ju 2) true Q ((4,(.int .i64 0))::E) D H) /\
 (∀ Q E D H,W M c (ju 2) true Q E D H =
  Lz E 0 fun g t0=>B3 g (Op.lenSl [t0]) fun g t7=>LOOP3 (W M c (ju 7)) (BLK3 0 (SEQ3 (W M c (ju 25)) Q)) ((8,(.int .i64 0))::(7,t7)::E) D H) /\
 (∀ Q E D H,W M c (ju 25) true Q E D H =
  GO3 true Q .ret ((4,(.int .i64 (-1)))::E) D H) /\
 (∀ Q E D H,W M c (ju 7) true Q E D H =
  Lz E 8 fun g t8=>Ly g E 7 fun g t7=>Cb g .lss t8 t7 (fun g=>Gt g M c (ju 13) Q E D H) (fun g=>GO3 g (SEQ3 (W M c (ju 13)) Q) (.exit 0) E D H)) /\
 (∀ Q E D H,W M c (ju 13) true Q E D H =
  Lz E 8 fun g t8=>Ly g E 1 fun g t1=>Ly g E 0 fun g t0=>Xl g t0 t8 H fun g t15=>Cb g .eql t1 t15 (fun g=>GO3 g (BLK3 1 (SEQ3 (W M c (ju 24)) Q)) .ret ((4,t8)::(5,t8)::E) D H) (fun g=>GO3 g (BLK3 1 (SEQ3 (W M c (ju 24)) Q)) .normal ((5,t8)::E) D H)) /\
 (∀ Q E D H,W M c (ju 24) true Q E D H =
  Lz E 8 fun g t8=>Bn g .add t8 (.int .i64 1) fun g t18=>GO3 g Q .normal ((8,t18)::E) D H):=by (repeat' apply And.intro)<;>(intro _ _ _ _;refine W_unf ?_;kernel_rfl)
theorem qpr:(cProg Try.prog).func qbe=some qgx/\qgx.results=[.tmp 4]:=zg (by kernel_rfl)
theorem qps (h:W M ⟨none,qbe⟩ (ju 0) true (FIN3 M [.tmp 4] Q) [(0,a0),(1,a1)] [] H):yz M qbe [a0,a1] H Q:=callf (by decide) qpr (ks:=qj2) (by kernel_rfl) h
end
end Go.Am
namespace Go.Am
abbrev qe8:Nat:=13
abbrev qhg:Nat:=40
noncomputable section
open Go.Proofs Go.Proofs.Ytiibohocdbaekaa
variable {M:Mac} [MK M] {H:AHeap} {Q:AEnd->AHeap->Prop} {a0 a1:AV}
def qm7:AFunc:=funcAt Try.prog qe8
def qrd:Kp:=⟨[0,1,3,4,5,7],false,[0,4,16,24,32,41]⟩
def qaa (k:Nat):Kp × ACode:=(qrd,part qm7.body k)
theorem qzp (M:Mac) (c:Ctx):(∀ Q E D H,W M c (qaa 0) true Q E D H =
 Lz E 1 fun g t1=>A3 g qhg (AV.cells t1) H fun g t3 H1=>W M c (qaa 4) g Q ((5,.nils)::(4,.nils)::(3,t3)::E) D H1) /\
 (∀ Q E D H,W M c (qaa 4) true Q E D H =
  Lz E 3 fun g t3=>Fl g 0 t3 H fun g t7=>Cb g .eql t7 (.int .i64 0) (fun g=>Ly g E 0 fun g t0=>Ly g E 3 fun g t3_1=>Fl g 1 t3_1 H fun g t13=>C3 M g (.func qal) [t0,t13] H fun g t14 H1=>B3 g ((Op.extract 0) [t14]) fun g t15=>B3 g ((Op.extract 1) [t14]) fun g t16=>B3 g ((Op.extract 2) [t14]) fun g t17=>B3 g ((Op.extract 3) [t14]) fun g t18=>GO3 g (BLK3 0 (SEQ3 (W M c (qaa 41)) Q)) .normal ((5,t17)::(7,t7)::E) D H1) (fun g=>Cb g .eql t7 (.int .i64 1) (fun g=>Ly g E 0 fun g t0=>Ly g E 3 fun g t3_1=>Fl g 1 t3_1 H fun g t24=>Fl g 2 t3_1 H fun g t26=>C3 M g (.func wh) [t0,t24,t26] H fun g t27 H1=>B3 g ((Op.extract 0) [t27]) fun g t28=>B3 g ((Op.extract 1) [t27]) fun g t29=>B3 g ((Op.extract 2) [t27]) fun g t30=>GO3 g (BLK3 0 (SEQ3 (W M c (qaa 41)) Q)) .normal ((5,t29)::(7,t7)::E) D H1) (fun g=>W M c (qaa 16) g (BLK3 0 (SEQ3 (W M c (qaa 41)) Q)) ((7,t7)::E) D H))) /\
 (∀ Q E D H,W M c (qaa 41) true Q E D H =
  Lz E 5 fun g t5=>GO3 g Q .ret ((4,t5)::E) D H) /\
 (∀ Q E D H,W M c (qaa 16) true Q E D H =
  Lz E 7 fun g t7=>Cb g .eql t7 (.int .i64 2) (fun g=>Ly g E 0 fun g t0=>Ly g E 3 fun g t3=>Fl g 1 t3 H fun g t36=>Fl g 3 t3 H fun g t38=>Fl g 2 t3 H fun g t40=>C3 M g (.func qc5) [t0,t36,t38,t40] H fun g t41 H1=>B3 g ((Op.extract 0) [t41]) fun g t42=>B3 g ((Op.extract 1) [t41]) fun g t43=>B3 g ((Op.extract 2) [t41]) fun g t44=>B3 g ((Op.extract 3) [t41]) fun g t45=>GO3 g Q .normal ((5,t44)::E) D H1) (fun g=>Ly g E 7 fun g t7_1=>Cb g .eql t7_1 (.int .i64 3) (fun g=>Ly g E 0 fun g t0=>C3 M g (.func qa1) [t0] H fun g t49 H1=>GO3 g Q .normal E D H1) (fun g=>W M c (qaa 24) g Q E D H))) /\
 (∀ Q E D H,W M c (qaa 24) true Q E D H =
  Lz E 7 fun g t7=>Cb g .eql t7 (.int .i64 4) (fun g=>Ly g E 0 fun g t0=>C3 M g (.func y9) [t0] H fun g t53 H1=>GO3 g Q .normal E D H1) (fun g=>Ly g E 7 fun g t7_1=>Cb g .eql t7_1 (.int .i64 5) (fun g=>Ly g E 0 fun g t0=>Ly g E 3 fun g t3=>Fl g 1 t3 H fun g t58=>C3 M g (.func qa0) [t0,t58] H fun g t59 H1=>GO3 g Q .normal E D H1) (fun g=>W M c (qaa 32) g Q E D H))) /\
 (∀ Q E D H,W M c (qaa 32) true Q E D H =
  Lz E 7 fun g t7=>Cb g .eql t7 (.int .i64 6) (fun g=>Ly g E 0 fun g t0=>Ly g E 3 fun g t3=>B3 g ((Op.fieldAddr 4) [t3]) fun g t64=>B3 g ((Op.loadN 11) [t64] H) fun g t65=>C3 M g (.func kj) [t0,t65] H fun g t66 H1=>B3 g ((Op.extract 0) [t66]) fun g t67=>B3 g ((Op.extract 1) [t66]) fun g t68=>GO3 g Q .normal ((5,t67)::E) D H1) (fun g=>Ly g E 7 fun g t7_1=>Cb g .eql t7_1 (.int .i64 7) (fun g=>Ly g E 0 fun g t0=>Ly g E 3 fun g t3=>Fl g 1 t3 H fun g t74=>C3 M g (.func qbo) [t0,t74] H fun g t75 H1=>B3 g ((Op.extract 0) [t75]) fun g t76=>B3 g ((Op.extract 1) [t75]) fun g t77=>GO3 g Q .normal ((5,t76)::E) D H1) (fun g=>GO3 g Q .normal E D H))):=by (repeat' apply And.intro)<;>(intro _ _ _ _;refine W_unf ?_;kernel_rfl)
theorem qzn:(cProg Try.prog).func qe8=some qm7/\qm7.results=[.tmp 4]:=zg (by kernel_rfl)
theorem qzo (h:W M ⟨none,qe8⟩ (qaa 0) true (FIN3 M [.tmp 4] Q) [(0,a0),(1,a1)] [] H):yz M qe8 [a0,a1] H Q:=callf (by decide) qzn (ks:=qrd) (by kernel_rfl) h
end
end Go.Am
namespace Go.Am
abbrev qbn:Nat:=4
abbrev qiu:Nat:=47
noncomputable section
open Go.Proofs Go.Proofs.Ytiibohocdbaekaa
variable {M:Mac} [MK M] {H:AHeap} {Q:AEnd->AHeap->Prop} {a0 a1 a2:AV}
def qh8:AFunc:=funcAt Try.prog qbn
def qly:Kp:=⟨[0,1,2,3,5,6,7,8,9,10,11,12,13,14,15,18,19,20,23,24,25],false,[0,4,6,14,19,25,28,29,33,37,42,48,54,59,65,72,73,82,83,85,91,97,99,107,112,118,127,128]⟩
def qm (k:Nat):Kp × ACode:=(qly,part qh8.body k)
theorem qru (M:Mac) (c:Ctx):(∀ Q E D H,W M c (qm 0) true Q E D H =
 Lz E 0 fun g t0=>A3 g qga (AV.cells t0) H fun g t3 H1=>Ly g E 2 fun g t2=>A3 g qiu (AV.cells t2) H1 fun g t5 H2=>C3 M g (.func qow) [] H2 fun g t26 H3=>W M c (qm 4) g Q ((7,t26)::(6,(.bool false))::(5,t5)::(3,t3)::E) D H3) /\
 (∀ Q E D H,W M c (qm 4) true Q E D H =
  Lz E 3 fun g t3=>B3 g ((Op.loadN 4) [t3] H) fun g t28=>C3 M g (.func qhe) [(.int .i64 0),t28] H fun g t29 H1=>B3 g ((Op.extract 0) [t29]) fun g t30=>B3 g ((Op.extract 1) [t29]) fun g t31=>W M c (qm 6) g Q ((9,t31)::(8,t30)::E) D H1) /\
 (∀ Q E D H,W M c (qm 6) true Q E D H =
  Lz E 9 fun g t9=>Bn g .neq t9 (.int .i64 0) fun g t33=>JN (fun (k:Bool->AV->AV->AV->AHeap->Prop)=>B3 g (wantV false (some t33)) fun g w=>IG3 g w (fun g=>Ly g E 1 fun g t1=>B3 g (Op.lenSl [t1]) fun g t36=>Bn g .gtr t36 (.int .i64 300) fun g t37=>k g t37 t36 t1 H) (fun g=>k g uu uu uu H)) (fun g t37_1 t36_1 t35_1 H1=>B3 g (Op.pick [t33,(.bool true),t37_1]) fun g t38=>JN (fun (k:Bool->AV->AV->AV->AV->AHeap->Prop)=>B3 g (wantV false (some t38)) fun g w=>IG3 g w (fun g=>Ly g E 5 fun g t5=>B3 g ((Op.fieldAddr 0) [t5]) fun g t40=>B3 g (Op.load1 [t40] H1) fun g t41=>B3 g (Op.lenSl [t41]) fun g t42=>Bn g .gtr t42 (.int .i64 200) fun g t43=>k g t43 t42 t41 t40 H1) (fun g=>k g uu uu uu uu H1)) (fun g t43_1 t42_1 t41_1 t40_1 H2=>B3 g (Op.pick [t38,(.bool true),t43_1]) fun g t44=>JN (fun (k:Bool->AV->AV->AHeap->Prop)=>B3 g (wantV false (some t44)) fun g w=>IG3 g w (fun g=>Ly g E 7 fun g t7=>B3 g ((Op.un .not) [t7]) fun g t47=>k g t47 t7 H2) (fun g=>k g uu uu H2)) (fun g t47_1 t46_1 H3=>B3 g (Op.pick [t44,(.bool true),t47_1]) fun g t48=>IF3 g t48 (fun g=>Ly g E 7 fun g t7_1=>GO3 g (SEQ3 (W M c (qm 14)) Q) .ret ((6,t7_1)::E) D H3) (fun g=>Gt g M c (qm 14) Q E D H3))))) /\
 (∀ Q E D H,W M c (qm 14) true Q E D H =
  LOOP3 (W M c (qm 19)) (BLK3 0 (SEQ3 (W M c (qm 29)) Q)) ((10,(.int .i64 0))::E) D H) /\
 (∀ Q E D H,W M c (qm 29) true Q E D H =
  Lz E 8 fun g t8=>C3 M g (.func y9) [t8] H fun g t63 H1=>Ly g E 8 fun g t8_1=>C3 M g (.func vp) [t8_1] H1 fun g t65 H2=>W M c (qm 33) g Q ((11,t65)::E) D H2) /\
 (∀ Q E D H,W M c (qm 19) true Q E D H =
  Lz E 10 fun g t10=>Ly g E 1 fun g t1=>B3 g (Op.lenSl [t1]) fun g t52=>Cb g .lss t10 t52 (fun g=>Gt g M c (qm 25) Q E D H) (fun g=>GO3 g (SEQ3 (W M c (qm 25)) Q) (.exit 0) E D H)) /\
 (∀ Q E D H,W M c (qm 33) true Q E D H =
  Lz E 8 fun g t8=>C3 M g (.func qa1) [t8] H fun g t67 H1=>Ly g E 8 fun g t8_1=>C3 M g (.func vp) [t8_1] H1 fun g t69 H2=>W M c (qm 37) g Q ((12,t69)::E) D H2) /\
 (∀ Q E D H,W M c (qm 25) true Q E D H =
  Lz E 8 fun g t8=>Ly g E 1 fun g t1=>Ly g E 10 fun g t10=>B3 g ((Op.indexSl 15) [t1,t10]) fun g t59=>B3 g ((Op.loadN 15) [t59] H) fun g t60=>C3 M g (.func qe8) [t8,t60] H fun g t61 H1=>GO3 g (BLK3 1 (SEQ3 (W M c (qm 28)) Q)) .normal E D H1) /\
 (∀ Q E D H,W M c (qm 37) true Q E D H =
  LOOP3 (W M c (qm 42)) (BLK3 2 (SEQ3 (W M c (qm 83)) Q)) ((13,(.int .i64 0))::E) D H) /\
 (∀ Q E D H,W M c (qm 28) true Q E D H =
  Lz E 10 fun g t10=>Bn g .add t10 (.int .i64 1) fun g t55=>GO3 g Q .normal ((10,t55)::E) D H) /\
 (∀ Q E D H,W M c (qm 83) true Q E D H =
  Lz E 8 fun g t8=>Ly g E 5 fun g t5=>Fl g 1 t5 H fun g t151=>C3 M g (.func qa0) [t8,t151] H fun g t152 H1=>W M c (qm 85) g Q ((23,t152)::E) D H1) /\
 (∀ Q E D H,W M c (qm 42) true Q E D H =
  Lz E 13 fun g t13=>Ly g E 5 fun g t5=>Fl g 0 t5 H fun g t72=>B3 g (Op.lenSl [t72]) fun g t73=>Cb g .lss t13 t73 (fun g=>Gt g M c (qm 48) Q E D H) (fun g=>GO3 g (SEQ3 (W M c (qm 48)) Q) (.exit 2) E D H)) /\
 (∀ Q E D H,W M c (qm 85) true Q E D H =
  Lz E 23 fun g t23=>Bn g .neq t23 (.int .i64 0) fun g t154=>JN (fun (k:Bool->AV->AV->AHeap->Prop)=>B3 g (wantV false (some t154)) fun g w=>IG3 g w (fun g=>Ly g E 5 fun g t5=>B3 g ((Op.fieldAddr 2) [t5]) fun g t156=>B3 g (Op.load1 [t156] H) fun g t157=>k g t157 t156 H) (fun g=>k g uu uu H)) (fun g t157_1 t156_1 H1=>B3 g (Op.pick [t154,(.bool true),t157_1]) fun g t158=>IF3 g t158 (fun g=>Ly g E 8 fun g t8=>C3 M g (.func y9) [t8] H1 fun g t160 H2=>W M c (qm 91) g (SEQ3 (W M c (qm 97)) Q) E D H2) (fun g=>Gt g M c (qm 97) Q E D H1))) /\
 (∀ Q E D H,W M c (qm 48) true Q E D H =
  Lz E 5 fun g t5=>Fl g 0 t5 H fun g t78=>Ly g E 13 fun g t13=>B3 g ((Op.indexSl 2) [t78,t13]) fun g t80=>Fl g 0 t80 H fun g t82=>Ly g E 8 fun g t8=>Ly g E 5 fun g t5_1=>Fl g 0 t5_1 H fun g t87=>Ly g E 13 fun g t13_1=>B3 g ((Op.indexSl 2) [t87,t13_1]) fun g t89=>Fl g 1 t89 H fun g t91=>C3 M g (.func wh) [t8,t82,t91] H fun g t92 H1=>B3 g ((Op.extract 0) [t92]) fun g t93=>B3 g ((Op.extract 1) [t92]) fun g t94=>B3 g ((Op.extract 2) [t92]) fun g t95=>W M c (qm 54) g (BLK3 3 (SEQ3 (W M c (qm 82)) Q)) ((15,t93)::(14,t82)::E) D H1) /\
 (∀ Q E D H,W M c (qm 97) true Q E D H =
  Lz E 8 fun g t8=>C3 M g (.func vp) [t8] H fun g t165 H1=>W M c (qm 99) g Q ((24,t165)::E) D H1) /\
 (∀ Q E D H,W M c (qm 91) true Q E D H =
  Lz E 23 fun g t23=>Cb g .neq t23 (.int .i64 0) (fun g=>Ly g E 12 fun g t12=>GO3 g Q .normal ((11,t12)::E) D H) (fun g=>GO3 g Q .normal E D H)) /\
 (∀ Q E D H,W M c (qm 82) true Q E D H =
  Lz E 13 fun g t13=>Bn g .add t13 (.int .i64 1) fun g t76=>GO3 g Q .normal ((13,t76)::E) D H) /\
 (∀ Q E D H,W M c (qm 54) true Q E D H =
  LOOP3 (W M c (qm 59)) (BLK3 4 (SEQ3 (W M c (qm 73)) Q)) ((18,(.int .i64 0))::E) D H) /\
 (∀ Q E D H,W M c (qm 99) true Q E D H =
  Lz E 8 fun g t8=>C3 M g (.func qdm) [t8] H fun g t167 H1=>JN (fun (k:Bool->AV->AV->AV->AV->AV->AHeap->Prop)=>B3 g (wantV false (some t167)) fun g w=>IG3 g w (fun g=>Ly g E 24 fun g t24=>B3 g (Op.lenSl [t24]) fun g t170=>Ly g E 11 fun g t11=>B3 g (Op.lenSl [t11]) fun g t172=>Bn g .neq t170 t172 fun g t173=>k g t173 t172 t11 t170 t24 H1) (fun g=>k g uu uu uu uu uu H1)) (fun g t173_1 t172_1 t171_1 t170_1 t169_1 H2=>B3 g (Op.pick [t167,(.bool true),t173_1]) fun g t174=>IF3 g t174 (fun g=>GO3 g (SEQ3 (W M c (qm 107)) Q) .ret ((6,(.bool false))::E) D H2) (fun g=>Gt g M c (qm 107) Q E D H2))) /\
 (∀ Q E D H,W M c (qm 73) true Q E D H =
  Lz E 8 fun g t8=>Ly g E 14 fun g t14=>C3 M g (.func qal) [t8,t14] H fun g t129 H1=>B3 g ((Op.extract 0) [t129]) fun g t130=>B3 g ((Op.extract 1) [t129]) fun g t131=>B3 g ((Op.extract 2) [t129]) fun g t132=>B3 g ((Op.extract 3) [t129]) fun g t133=>Ly g E 15 fun g t15=>JN (fun (k:Bool->AV->AV->AV->AHeap->Prop)=>B3 g (wantV true (some t15)) fun g w=>IG3 g w (fun g=>B3 g ((Op.un .not) [t131]) fun g t137=>k g t137 t137 t131 H1) (fun g=>k g uu uu uu H1)) (fun g t138_1 t137_1 t136_1 H2=>JN (fun (k:Bool->AV->AV->AV->AV->AV->AV->AV->AV->AHeap->Prop)=>B3 g (wantV false (some t138_1)) fun g w=>IG3 g w (fun g=>Ly g E 5 fun g t5=>B3 g ((Op.fieldAddr 0) [t5]) fun g t140=>B3 g (Op.load1 [t140] H2) fun g t141=>Ly g E 13 fun g t13=>B3 g ((Op.indexSl 2) [t141,t13]) fun g t143=>B3 g ((Op.fieldAddr 1) [t143]) fun g t144=>B3 g (Op.load1 [t144] H2) fun g t145=>Bn g .neq t130 t145 fun g t146=>k g t146 t145 t144 t143 t13 t141 t140 t130 H2) (fun g=>k g uu uu uu uu uu uu uu uu H2)) (fun g t146_1 t145_1 t144_1 t143_1 t142_1 t141_1 t140_1 t139_1 H3=>JN (fun (k:Bool->AV->AHeap->Prop)=>B3 g (wantV true (some t15)) fun g w=>IG3 g w (fun g=>B3 g (Op.pick [t138_1,(.bool true),t146_1]) fun g t147=>k g t147 H3) (fun g=>k g uu H3)) (fun g t147_1 H4=>B3 g (Op.pick [t15,t147_1,(.bool false)]) fun g t148=>IF3 g t148 (fun g=>GO3 g Q .ret ((6,(.bool false))::(20,t131)::(19,t130)::E) D H4) (fun g=>GO3 g Q .normal ((20,t131)::(19,t130)::E) D H4))))) /\
 (∀ Q E D H,W M c (qm 59) true Q E D H =
  Lz E 18 fun g t18=>Ly g E 12 fun g t12=>B3 g (Op.lenSl [t12]) fun g t98=>Bn g .lss t18 t98 fun g t99=>JN (fun (k:Bool->AV->AHeap->Prop)=>B3 g (wantV true (some t99)) fun g w=>IG3 g w (fun g=>Ly g E 15 fun g t15=>k g t15 H) (fun g=>k g uu H)) (fun g t101_1 H1=>B3 g (Op.pick [t99,t101_1,(.bool false)]) fun g t102=>IF3 g t102 (fun g=>Gt g M c (qm 65) Q E D H1) (fun g=>GO3 g (SEQ3 (W M c (qm 65)) Q) (.exit 4) E D H1))) /\
 (∀ Q E D H,W M c (qm 107) true Q E D H =
  LOOP3 (W M c (qm 112)) (BLK3 6 (SEQ3 (W M c (qm 128)) Q)) ((25,(.int .i64 0))::E) D H) /\
 (∀ Q E D H,W M c (qm 65) true Q E D H =
  Lz E 12 fun g t12=>Ly g E 18 fun g t18=>B3 g ((Op.indexSl 21) [t12,t18]) fun g t107=>Fl g 0 t107 H fun g t109=>Ly g E 14 fun g t14=>Bn g .quo t14 (.int .i64 8) fun g t111=>Cb g .eql t109 t111 (fun g=>Ly g E 12 fun g t12_1=>Ly g E 18 fun g t18_1=>Ly g E 14 fun g t14_1=>Bn g .rem t14_1 (.int .i64 8) fun g t116=>Ly g E 5 fun g t5=>Fl g 0 t5 H fun g t118=>Ly g E 13 fun g t13=>B3 g ((Op.indexSl 2) [t118,t13]) fun g t120=>Fl g 1 t120 H fun g t122=>B3 g ((Op.indexSl 21) [t12_1,t18_1]) fun g t123=>B3 g ((Op.fieldAddr 4) [t123]) fun g t124=>B3 g ((Op.indexArr 8 1) [t124,t116]) fun g t125=>B32 g ((Op.store 1) [t125,t122] H) fun g u H1=>GO3 g (BLK3 5 (SEQ3 (W M c (qm 72)) Q)) .normal E D H1) (fun g=>GO3 g (BLK3 5 (SEQ3 (W M c (qm 72)) Q)) .normal E D H)) /\
 (∀ Q E D H,W M c (qm 128) true Q E D H =
  Lz E 7 fun g t7=>GO3 g Q .ret ((6,t7)::E) D H) /\
 (∀ Q E D H,W M c (qm 112) true Q E D H =
  Lz E 25 fun g t25=>Ly g E 24 fun g t24=>B3 g (Op.lenSl [t24]) fun g t177=>Cb g .lss t25 t177 (fun g=>Gt g M c (qm 118) Q E D H) (fun g=>GO3 g (SEQ3 (W M c (qm 118)) Q) (.exit 6) E D H)) /\
 (∀ Q E D H,W M c (qm 72) true Q E D H =
  Lz E 18 fun g t18=>Bn g .add t18 (.int .i64 1) fun g t104=>GO3 g Q .normal ((18,t104)::E) D H) /\
 (∀ Q E D H,W M c (qm 118) true Q E D H =
  Lz E 24 fun g t24=>Ly g E 25 fun g t25=>B3 g ((Op.indexSl 21) [t24,t25]) fun g t183=>Fl g 0 t183 H fun g t185=>Ly g E 11 fun g t11=>B3 g ((Op.indexSl 21) [t11,t25]) fun g t188=>Fl g 0 t188 H fun g t190=>Bn g .neq t185 t190 fun g t191=>JN (fun (k:Bool->AV->AV->AV->AV->AV->AV->AV->AV->AV->AV->AV->AHeap->Prop)=>B3 g (wantV false (some t191)) fun g w=>IG3 g w (fun g=>B3 g ((Op.indexSl 21) [t24,t25]) fun g t195=>B3 g ((Op.fieldAddr 4) [t195]) fun g t196=>B3 g ((Op.loadN 8) [t196] H) fun g t197=>B3 g ((Op.indexSl 21) [t11,t25]) fun g t200=>B3 g ((Op.fieldAddr 4) [t200]) fun g t201=>B3 g ((Op.loadN 8) [t201] H) fun g t202=>B3 g ((Op.eq (.agg (.part 0 none .int (.part 1 none .int (.part 2 none .int (.part 3 none .int (.part 4 none .int (.part 5 none .int (.part 6 none .int (.part 7 none .int .nil))))))))) true) [t197,t202] H) fun g t203=>k g t203 t202 t201 t200 t25 t11 t197 t196 t195 t25 t24 H) (fun g=>k g uu uu uu uu uu uu uu uu uu uu uu H)) (fun g t203_1 t202_1 t201_1 t200_1 t199_1 t198_1 t197_1 t196_1 t195_1 t194_1 t193_1 H1=>B3 g (Op.pick [t191,(.bool true),t203_1]) fun g t204=>JN (fun (k:Bool->AV->AV->AV->AV->AV->AV->AV->AV->AV->AV->AV->AHeap->Prop)=>B3 g (wantV false (some t204)) fun g w=>IG3 g w (fun g=>B3 g ((Op.indexSl 21) [t24,t25]) fun g t208=>B3 g ((Op.fieldAddr 1) [t208]) fun g t209=>B3 g (Op.load1 [t209] H1) fun g t210=>B3 g ((Op.indexSl 21) [t11,t25]) fun g t213=>B3 g ((Op.fieldAddr 1) [t213]) fun g t214=>B3 g (Op.load1 [t214] H1) fun g t215=>Bn g .neq t210 t215 fun g t216=>k g t216 t215 t214 t213 t25 t11 t210 t209 t208 t25 t24 H1) (fun g=>k g uu uu uu uu uu uu uu uu uu uu uu H1)) (fun g t216_1 t215_1 t214_1 t213_1 t212_1 t211_1 t210_1 t209_1 t208_1 t207_1 t206_1 H2=>B3 g (Op.pick [t204,(.bool true),t216_1]) fun g t217=>JN (fun (k:Bool->AV->AV->AV->AV->AV->AHeap->Prop)=>B3 g (wantV false (some t217)) fun g w=>IG3 g w (fun g=>B3 g ((Op.indexSl 21) [t24,t25]) fun g t221=>B3 g ((Op.fieldAddr 2) [t221]) fun g t222=>B3 g (Op.load1 [t222] H2) fun g t223=>k g t223 t222 t221 t25 t24 H2) (fun g=>k g uu uu uu uu uu H2)) (fun g t223_1 t222_1 t221_1 t220_1 t219_1 H3=>B3 g (Op.pick [t217,(.bool true),t223_1]) fun g t224=>JN (fun (k:Bool->AV->AV->AV->AV->AV->AHeap->Prop)=>B3 g (wantV false (some t224)) fun g w=>IG3 g w (fun g=>B3 g ((Op.indexSl 21) [t24,t25]) fun g t228=>B3 g ((Op.fieldAddr 3) [t228]) fun g t229=>B3 g (Op.load1 [t229] H3) fun g t230=>k g t230 t229 t228 t25 t24 H3) (fun g=>k g uu uu uu uu uu H3)) (fun g t230_1 t229_1 t228_1 t227_1 t226_1 H4=>B3 g (Op.pick [t224,(.bool true),t230_1]) fun g t231=>IF3 g t231 (fun g=>GO3 g (BLK3 7 (SEQ3 (W M c (qm 127)) Q)) .ret ((6,(.bool false))::E) D H4) (fun g=>GO3 g (BLK3 7 (SEQ3 (W M c (qm 127)) Q)) .normal E D H4)))))) /\
 (∀ Q E D H,W M c (qm 127) true Q E D H =
  Lz E 25 fun g t25=>Bn g .add t25 (.int .i64 1) fun g t180=>GO3 g Q .normal ((25,t180)::E) D H):=by (repeat' apply And.intro)<;>(intro _ _ _ _;refine W_unf ?_;kernel_rfl)
theorem qrs:(cProg Try.prog).func qbn=some qh8/\qh8.results=[.tmp 6]:=zg (by kernel_rfl)
theorem qrt (h:W M ⟨none,qbn⟩ (qm 0) true (FIN3 M [.tmp 6] Q) [(0,a0),(1,a1),(2,a2)] [] H):yz M qbn [a0,a1,a2] H Q:=callf (by decide) qrs (ks:=qly) (by kernel_rfl) h
end
end Go.Am
