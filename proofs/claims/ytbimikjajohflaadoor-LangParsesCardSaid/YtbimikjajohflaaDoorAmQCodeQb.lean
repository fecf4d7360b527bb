/- CodeQb: CodePA. -/
import Derived.Test.YtbimikjajohflaaDoorAmQB4
import Derived.Test.YtbimikjajohflaaDoorAmQB1
import Derived.KernelRfl
import Derived.Test.YtbimikjajohflaaDoorAmQCodeQ
import Derived.Test.YtbimikjajohflaaDoorRows
set_option linter.unusedVariables false
set_option maxRecDepth 100000
namespace Go.Am
abbrev qa3:Nat:=18
abbrev x6:Nat:=110
abbrev xh:Nat:=109
abbrev xe:Nat:=107
abbrev xc:Nat:=137
abbrev z7:Nat:=111
abbrev zf:Nat:=47
abbrev jx:Nat:=74
abbrev z9:Nat:=130
abbrev qm:Nat:=75
abbrev zb:Nat:=46
abbrev za:Nat:=106
abbrev jr:Nat:=131
abbrev j6:Nat:=108
abbrev qdb:Nat:=73
abbrev qaj:Nat:=104
abbrev qcp:Nat:=45
abbrev kz:Nat:=72
abbrev qas:Nat:=105
abbrev wy:Nat:=76
abbrev vw:Nat:=87
abbrev wh:Nat:=92
abbrev ya:Nat:=84
noncomputable section
open Go.Proofs Go.Proofs.YtbimikjajohflaaDoor
variable {M:Mac} [MK M] {H:AHeap} {Q:AEnd->AHeap->Prop} {a0 a1 a2 a3:AV}
def qcf:AFunc:=funcAt Tryd.prog qa3
def qcg:Kp:=⟨[0,2,3,4,5,6,7,8,12,13],false,[0,4,9,11,19]⟩
def wq (k:Nat):Kp × ACode:=(qcg,part qcf.body k)
def qbv:ALoop:=loopAt qcf 0
def qkt (k:Nat):Kp × ACode:=(⟨qcg.keep,qcg.pan,[0]⟩,part qbv.assign k)
def qku (k:Nat):Kp × ACode:=(⟨qcg.keep,qcg.pan,[0]⟩,part qbv.body k)
theorem qjk:nth qcf.loops 0=some qbv/\qbv.params=[13]:=⟨by kernel_rfl,by kernel_rfl⟩
theorem qm2 (M:Mac) (c:Ctx):(∀ Q E D H,W M c (wq 0) true Q E D H =
 B3 true ((Op.build [.nils,(.int .i64 0),.nils,(.int .i64 0),(.bool false),(.bool false)] []) []) fun g t9=>A3 g vw (AV.cells t9) H fun g t10 H1=>A3 g ya [.nilp] H1 fun g t6 H2=>B32 g ((Op.store 1) [t6,t10] H2) fun g u H3=>W M c (wq 4) g Q ((6,t6)::(5,(.int .i64 0))::(4,(.int .i64 0))::(3,(.int .i64 0))::(2,.nils)::E) D H3) /\
 (∀ Q E D H,W M c (qkt 0) true Q E D H =
  A3 true wh [(.str []),(.int .i64 0),(.int .i64 0)] H fun g t7 H1=>Ly g E 13 fun g t13=>B32 g ((Op.store 3) [t7,t13] H1) fun g u H2=>GO3 g Q .normal ((7,t7)::E) D H2) /\
 (∀ Q E D H,W M c (qku 0) true Q E D H =
  Lz E 6 fun g t6=>B3 g (Op.load1 [t6] H) fun g t14=>B3 g (Op.load1 [t6] H) fun g t15=>Nf g 0 t15 H fun g t18=>Ly g E 7 fun g t7=>B3 g ((Op.loadN 3) [t7] H) fun g t19=>B32 g ((Op.buildSlice wh 1 [(.str []),(.int .i64 0),(.int .i64 0)] [(0,3)]) [t19]) fun g o1 k1=>B32 g ((Op.append wh 3 32) [t18,(k1 H.next)] (H.alloc o1)) fun g t21 H2=>CK3 g (Op.load1 [t6] H2) (some t14) fun g=>Ns g 0 t14 t21 H2 fun g u H3=>GO3 g (BLK3 1 Q) .normal E D H3) /\
 (∀ Q E D H,W M c (wq 4) true Q E D H =
  Lz E 0 fun g t0=>C3 M g (.func qcp) [t0] H fun g t12 H1=>RNG3 M qcg.keep c 0 ((12,t12)::E) D H1 (BLK3 0 (SEQ3 (W M c (wq 9)) Q)) t12) /\
 (∀ Q E D H,W M c (wq 9) true Q E D H =
  Lz E 6 fun g t6=>B3 g (Op.load1 [t6] H) fun g t24=>C3 M g (.func zb) [t24,(.str [])] H fun g t25 H1=>W M c (wq 11) g Q ((8,t25)::E) D H1) /\
 (∀ Q E D H,W M c (wq 11) true Q E D H =
  Lz E 6 fun g t6=>B3 g (Op.load1 [t6] H) fun g t26=>Nf g 5 t26 H fun g t29=>IF3 g t29 (fun g=>Ly g E 6 fun g t6_1=>B3 g (Op.load1 [t6_1] H) fun g t30=>Nf g 0 t30 H fun g t33=>B3 g (Op.load1 [t6_1] H) fun g t34=>Nf g 1 t34 H fun g t37=>B3 g ((Op.indexSl 3) [t33,t37]) fun g t38=>Fl g 1 t38 H fun g t40=>B3 g (Op.load1 [t6_1] H) fun g t41=>Nf g 0 t41 H fun g t44=>B3 g (Op.load1 [t6_1] H) fun g t45=>Nf g 1 t45 H fun g t48=>B3 g ((Op.indexSl 3) [t44,t48]) fun g t49=>Fl g 2 t49 H fun g t51=>GO3 g (SEQ3 (W M c (wq 19)) Q) .ret ((5,(.int .i64 180))::(4,t51)::(3,t40)::(2,.nils)::E) D H) (fun g=>Gt g M c (wq 19) Q E D H)) /\
 (∀ Q E D H,W M c (wq 19) true Q E D H =
  Lz E 6 fun g t6=>B3 g (Op.load1 [t6] H) fun g t52=>Ly g E 8 fun g t8=>C3 M g (.func zf) [t52,(.int .i64 20),(.int .u64 0),t8] H fun g t54 H1=>Ly g E 6 fun g t6_1=>B3 g (Op.load1 [t6_1] H1) fun g t55=>Nf g 2 t55 H1 fun g t58=>GO3 g Q .ret ((5,(.int .i64 0))::(4,(.int .i64 0))::(3,(.int .i64 0))::(2,t58)::E) D H1):=by (repeat' apply And.intro)<;>(intro _ _ _ _;refine W_unf ?_;kernel_rfl)
theorem qm1:(cProg Tryd.prog).func qa3=some qcf/\qcf.results=[.tmp 2,.tmp 3,.tmp 4,.tmp 5]:=zz (by kernel_rfl)
theorem qri:M.func qa3=some qcf:=MK.at (by decide) qm1.1
theorem qtb (h:W M ⟨none,qa3⟩ (wq 0) true (FIN3 M [.tmp 2,.tmp 3,.tmp 4,.tmp 5] Q) [(0,a0)] [] H):wu M qa3 [a0] H Q:=callf (by decide) qm1 (ks:=qcg) (by kernel_rfl) h
def qhz:AFunc:=funcAt Tryd.prog qcp
def qlc:Kp:=⟨[0,1,2],false,[0]⟩
def qld (k:Nat):Kp × ACode:=(qlc,part qhz.body k)
theorem qro (M:Mac) (c:Ctx):(∀ Q E D H,W M c (qld 0) true Q E D H =
 Lz E 0 fun g t0=>A3 g qcq (AV.cells t0) H fun g t1 H1=>B3 g ((Op.mkFunc kz 0) [t1]) fun g t3=>GO3 g Q .ret ((2,t3)::(2,.nilf)::(1,t1)::E) D H1):=by intro _ _ _ _;refine W_unf ?_;kernel_rfl
theorem qrm:(cProg Tryd.prog).func qcp=some qhz/\qhz.results=[.tmp 2]:=zz (by kernel_rfl)
theorem qrn (h:W M ⟨none,qcp⟩ (qld 0) true (FIN3 M [.tmp 2] Q) [(0,a0)] [] H):wu M qcp [a0] H Q:=callf (by decide) qrm (ks:=qlc) (by kernel_rfl) h
def qbj:AFunc:=funcAt Tryd.prog zb
def qdq:Kp:=⟨[0,1,4,5],false,[0,4,7,13,15]⟩
def zd (k:Nat):Kp × ACode:=(qdq,part qbj.body k)
theorem qab (M:Mac) (c:Ctx):(∀ Q E D H,W M c (zd 0) true Q E D H =
 W M c (zd 4) true Q ((5,.nils)::(4,.nils)::E) D H) /\
 (∀ Q E D H,W M c (zd 4) true Q E D H =
  LOOP3 (W M c (zd 7)) (BLK3 0 (SEQ3 (W M c (zd 15)) Q)) E D H) /\
 (∀ Q E D H,W M c (zd 15) true Q E D H =
  Lz E 5 fun g t5=>GO3 g Q .ret ((4,t5)::E) D H) /\
 (∀ Q E D H,W M c (zd 7) true Q E D H =
  Lz E 0 fun g t0=>Nf g 5 t0 H fun g t9=>B3 g ((Op.un .not) [t9]) fun g t10=>JN (fun (k:Bool->AV->AV->AV->AV->AHeap->Prop)=>B3 g (wantV true (some t10)) fun g w=>IG3 g w (fun g=>C3 M g (.func jx) [t0] H fun g t13 H1=>Ly g E 1 fun g t1=>Bn g .neq t13 t1 fun g t15=>k g t15 t1 t13 t0 H1) (fun g=>k g uu uu uu uu H)) (fun g t15_1 t14_1 t13_1 t12_1 H2=>B3 g (Op.pick [t10,t15_1,(.bool false)]) fun g t16=>IF3 g t16 (fun g=>Gt g M c (zd 13) Q E D H2) (fun g=>GO3 g (SEQ3 (W M c (zd 13)) Q) (.exit 0) E D H2))) /\
 (∀ Q E D H,W M c (zd 13) true Q E D H =
  Lz E 5 fun g t5=>Ly g E 0 fun g t0=>C3 M g (.func qm) [t0] H fun g t19 H1=>B32 g ((Op.buildSlice T_int 1 [(.int .i64 0)] [(0,1)]) [t19]) fun g o2 k2=>B32 g ((Op.append T_int 1 8) [t5,(k2 H1.next)] (H1.alloc o2)) fun g t21 H3=>GO3 g (BLK3 1 Q) .normal ((5,t21)::E) D H3):=by (repeat' apply And.intro)<;>(intro _ _ _ _;refine W_unf ?_;kernel_rfl)
theorem qhh:(cProg Tryd.prog).func zb=some qbj/\qbj.results=[.tmp 4]:=zz (by kernel_rfl)
theorem qhi (h:W M ⟨none,zb⟩ (zd 0) true (FIN3 M [.tmp 4] Q) [(0,a0),(1,a1)] [] H):wu M zb [a0,a1] H Q:=callf (by decide) qhh (ks:=qdq) (by kernel_rfl) h
def qd0:AFunc:=funcAt Tryd.prog zf
def qgr:Kp:=⟨[0,1,2,3,8],false,[0]⟩
def qgs (k:Nat):Kp × ACode:=(qgr,part qd0.body k)
theorem qk4 (M:Mac) (c:Ctx):(∀ Q E D H,W M c (qgs 0) true Q E D H =
 Lz E 0 fun g t0=>B3 g (Op.nilCheck [t0]) fun g t11=>B3 g ((Op.fieldAddr 2) [t11]) fun g t12=>B3 g (Op.load1 [t12] H) fun g t13=>Ly g E 1 fun g t1=>Ly g E 2 fun g t2=>Ly g E 3 fun g t3=>C3 M g (.func wy) [t3] H fun g t17 H1=>CK3 g (Op.load1 [t12] H1) (some t13) fun g=>B3 g ((Op.build [(.int .i64 0),(.int .u64 0),.nils] [(0,1),(1,1),(2,1)]) [t1,t2,t17]) fun g t18=>B32 g ((Op.buildSlice qdn 1 [(.int .i64 0),(.int .u64 0),.nils] [(0,3)]) [t18]) fun g o2 k2=>B32 g ((Op.append qdn 3 40) [t13,(k2 H1.next)] (H1.alloc o2)) fun g t20 H3=>Ns g 2 t0 t20 H3 fun g u H4=>Ly g E 0 fun g t0_1=>Nf g 2 t0_1 H4 fun g t26=>B3 g (Op.lenSl [t26]) fun g t27=>Bn g .sub t27 (.int .i64 1) fun g t28=>GO3 g Q .ret ((8,t28)::(8,(.int .i64 0))::E) D H4):=by intro _ _ _ _;refine W_unf ?_;kernel_rfl
theorem qk2:(cProg Tryd.prog).func zf=some qd0/\qd0.results=[.tmp 8]:=zz (by kernel_rfl)
theorem qk3 (h:W M ⟨none,zf⟩ (qgs 0) true (FIN3 M [.tmp 8] Q) [(0,a0),(1,a1),(2,a2),(3,a3)] [] H):wu M zf [a0,a1,a2,a3] H Q:=callf (by decide) qk2 (ks:=qgr) (by kernel_rfl) h
def qf4:AFunc:=funcAt Tryd.prog kz
def qil:Kp:=⟨[0,1,3,4,5,6,13,16],false,[0,2,7,13,25,31,38,41,46,47,50,54,55,59,65,67,68,69,71,77,78]⟩
def qr (k:Nat):Kp × ACode:=(qil,part qf4.body k)
theorem qot (M:Mac) (c:Ctx):(∀ Q E D H,W M c (qr 0) true Q E D H =
 W M c (qr 2) true Q ((4,(.int .i64 0))::(3,(.int .i64 1))::E) D H) /\
 (∀ Q E D H,W M c (qr 2) true Q E D H =
  LOOP3 (W M c (qr 7)) (BLK3 0 (SEQ3 (W M c (qr 78)) Q)) ((5,(.int .i64 0))::E) D H) /\
 (∀ Q E D H,W M c (qr 78) true Q E D H =
  Lz E 0 fun g t0=>Ly g E 3 fun g t3=>Ly g E 1 fun g t1=>B3 g (Op.load1 [t1] H) fun g t63=>B3 g (Op.lenStr [t63]) fun g t64=>Ly g E 4 fun g t4=>Bn g .sub t64 t4 fun g t66=>Bn g .add t66 (.int .i64 1) fun g t67=>B3 g ((Op.build [(.str []),(.int .i64 0),(.int .i64 0)] [(1,1),(2,1)]) [t3,t67]) fun g t68=>V3 g [t0,t68] fun g f vs=>C3 M g f vs H fun g t69 H1=>GO3 g Q .normal E D H1) /\
 (∀ Q E D H,W M c (qr 7) true Q E D H =
  Lz E 5 fun g t5=>Ly g E 1 fun g t1=>B3 g (Op.load1 [t1] H) fun g t8=>B3 g (Op.lenStr [t8]) fun g t9=>Cb g .lss t5 t9 (fun g=>Gt g M c (qr 13) Q E D H) (fun g=>GO3 g (SEQ3 (W M c (qr 13)) Q) (.exit 0) E D H)) /\
 (∀ Q E D H,W M c (qr 13) true Q E D H =
  Lz E 1 fun g t1=>B3 g (Op.load1 [t1] H) fun g t11=>Ly g E 5 fun g t5=>B3 g (Op.indexStr [t11,t5]) fun g t13=>W M c (qr 25) g (SEQ3 (W M c (qr 46)) (BLK3 3 (SEQ3 (W M c (qr 47)) (BLK3 4 (SEQ3 (W M c (qr 50)) (BLK3 5 (SEQ3 (W M c (qr 55)) (BLK3 2 (SEQ3 (W M c (qr 69)) (BLK3 1 Q)))))))))) ((13,t13)::E) D H) /\
 (∀ Q E D H,W M c (qr 69) true Q E D H =
  Lz E 1 fun g t1=>B3 g (Op.load1 [t1] H) fun g t39=>Ly g E 5 fun g t5=>B3 g ((Op.sliceStr [(some 0),none]) [t39,t5]) fun g t41=>C3 M g (.func qdb) [t41] H fun g t42 H1=>W M c (qr 71) g Q ((6,t42)::E) D H1) /\
 (∀ Q E D H,W M c (qr 55) true Q E D H =
  LOOP3 (W M c (qr 59)) (BLK3 6 (SEQ3 (W M c (qr 67)) (SEQ3 (W M c (qr 68)) Q))) E D H) /\
 (∀ Q E D H,W M c (qr 50) true Q E D H =
  Lz E 5 fun g t5=>Bn g .add t5 (.int .i64 1) fun g t26=>GO3 g (SEQ3 (W M c (qr 54)) Q) (.exit 1) ((5,t26)::E) D H) /\
 (∀ Q E D H,W M c (qr 47) true Q E D H =
  Lz E 3 fun g t3=>Bn g .add t3 (.int .i64 1) fun g t22=>Ly g E 5 fun g t5=>Bn g .add t5 (.int .i64 1) fun g t24=>GO3 g Q .normal ((4,t24)::(3,t22)::E) D H) /\
 (∀ Q E D H,W M c (qr 46) true Q E D H =
  GO3 true Q (.exit 2) E D H) /\
 (∀ Q E D H,W M c (qr 25) true Q E D H =
  Lz E 13 fun g t13=>Cb g .eql t13 (.int .u8 10) (fun g=>GO3 g (SEQ3 (W M c (qr 31)) Q) (.exit 3) E D H) (fun g=>Gt g M c (qr 31) Q E D H)) /\
 (∀ Q E D H,W M c (qr 71) true Q E D H =
  Lz E 0 fun g t0=>Ly g E 1 fun g t1=>B3 g (Op.load1 [t1] H) fun g t44=>Ly g E 5 fun g t5=>Ly g E 6 fun g t6=>Bn g .add t5 t6 fun g t48=>B3 g ((Op.sliceStr [(some 0),(some 1)]) [t44,t5,t48]) fun g t49=>Ly g E 3 fun g t3=>Ly g E 4 fun g t4=>Bn g .sub t5 t4 fun g t53=>Bn g .add t53 (.int .i64 1) fun g t54=>B3 g ((Op.build [(.str []),(.int .i64 0),(.int .i64 0)] [(0,1),(1,1),(2,1)]) [t49,t3,t54]) fun g t55=>V3 g [t0,t55] fun g f vs=>C3 M g f vs H fun g t56 H1=>B3 g ((Op.un .not) [t56]) fun g t57=>IF3 g t57 (fun g=>GO3 g (SEQ3 (W M c (qr 77)) Q) .ret E D H1) (fun g=>Gt g M c (qr 77) Q E D H1)) /\
 (∀ Q E D H,W M c (qr 68) true Q E D H =
  GO3 true Q (.exit 2) E D H) /\
 (∀ Q E D H,W M c (qr 67) true Q E D H =
  GO3 true Q (.exit 1) E D H) /\
 (∀ Q E D H,W M c (qr 59) true Q E D H =
  Lz E 5 fun g t5=>Ly g E 1 fun g t1=>B3 g (Op.load1 [t1] H) fun g t28=>B3 g (Op.lenStr [t28]) fun g t29=>Bn g .lss t5 t29 fun g t30=>JN (fun (k:Bool->AV->AV->AV->AV->AHeap->Prop)=>B3 g (wantV true (some t30)) fun g w=>IG3 g w (fun g=>B3 g (Op.load1 [t1] H) fun g t32=>B3 g (Op.indexStr [t32,t5]) fun g t34=>Bn g .neq t34 (.int .u8 10) fun g t35=>k g t35 t34 t5 t32 H) (fun g=>k g uu uu uu uu H)) (fun g t35_1 t34_1 t33_1 t32_1 H1=>B3 g (Op.pick [t30,t35_1,(.bool false)]) fun g t36=>IF3 g t36 (fun g=>Gt g M c (qr 65) Q E D H1) (fun g=>GO3 g (SEQ3 (W M c (qr 65)) Q) (.exit 6) E D H1))) /\
 (∀ Q E D H,W M c (qr 54) true Q E D H =
  GO3 true Q (.exit 2) E D H) /\
 (∀ Q E D H,W M c (qr 31) true Q E D H =
  Lz E 13 fun g t13=>Bn g .eql t13 (.int .u8 32) fun g t17=>IF3 g t17 (fun g=>Gt g M c (qr 38) (SEQ3 (W M c (qr 41)) Q) ((16,t17)::E) D H) (fun g=>Ly g E 13 fun g t13_1=>Bn g .eql t13_1 (.int .u8 9) fun g t18=>Gt g M c (qr 38) (SEQ3 (W M c (qr 41)) Q) ((16,t18)::(16,t17)::E) D H)) /\
 (∀ Q E D H,W M c (qr 77) true Q E D H =
  Lz E 5 fun g t5=>Ly g E 6 fun g t6=>Bn g .add t5 t6 fun g t60=>GO3 g Q .normal ((5,t60)::E) D H) /\
 (∀ Q E D H,W M c (qr 65) true Q E D H =
  Lz E 5 fun g t5=>Bn g .add t5 (.int .i64 1) fun g t38=>GO3 g (BLK3 7 Q) .normal ((5,t38)::E) D H) /\
 (∀ Q E D H,W M c (qr 41) true Q E D H =
  Lz E 13 fun g t13=>Cb g .eql t13 (.int .u8 35) (fun g=>GO3 g Q (.exit 5) E D H) (fun g=>GO3 g Q .normal E D H)) /\
 (∀ Q E D H,W M c (qr 38) true Q E D H =
  Lz E 16 fun g t16=>IF3 g t16 (fun g=>GO3 g Q (.exit 4) E D H) (fun g=>GO3 g Q .normal E D H)):=by (repeat' apply And.intro)<;>(intro _ _ _ _;refine W_unf ?_;kernel_rfl)
theorem qor:(cProg Tryd.prog).func kz=some qf4/\qf4.results=[]:=zz (by kernel_rfl)
theorem qos (h:W M ⟨none,kz⟩ (qr 0) true (FIN3 M [] Q) [(0,a0),(1,a1)] [] H):wu M kz [a0,a1] H Q:=callf (by decide) qor (ks:=qil) (by kernel_rfl) h
def qen:AFunc:=funcAt Tryd.prog jx
def qhe:Kp:=⟨[0,2],false,[0]⟩
def qhf (k:Nat):Kp × ACode:=(qhe,part qen.body k)
theorem qma (M:Mac) (c:Ctx):(∀ Q E D H,W M c (qhf 0) true Q E D H =
 Lz E 0 fun g t0=>Nf g 0 t0 H fun g t6=>Nf g 1 t0 H fun g t10=>B3 g ((Op.indexSl 3) [t6,t10]) fun g t11=>Fl g 0 t11 H fun g t13=>GO3 g Q .ret ((2,t13)::(2,(.str []))::E) D H):=by intro _ _ _ _;refine W_unf ?_;kernel_rfl
theorem ql8:(cProg Tryd.prog).func jx=some qen/\qen.results=[.tmp 2]:=zz (by kernel_rfl)
theorem ql9 (h:W M ⟨none,jx⟩ (qhf 0) true (FIN3 M [.tmp 2] Q) [(0,a0)] [] H):wu M jx [a0] H Q:=callf (by decide) ql8 (ks:=qhe) (by kernel_rfl) h
def qbw:AFunc:=funcAt Tryd.prog qm
def qd1:Kp:=⟨[0,2,3,4,5,6,7,8,9,10,11,42],false,[0,2,10,12,30,57,61,69,72,85,93,104,115]⟩
def ql (k:Nat):Kp × ACode:=(qd1,part qbw.body k)
theorem zh (M:Mac) (c:Ctx):(∀ Q E D H,W M c (ql 0) true Q E D H =
 W M c (ql 2) true Q ((2,(.int .i64 0))::E) D H) /\
 (∀ Q E D H,W M c (ql 2) true Q E D H =
  Lz E 0 fun g t0=>Nf g 5 t0 H fun g t15=>IF3 g t15 (fun g=>GO3 g (SEQ3 (W M c (ql 10)) Q) .ret ((2,(.int .i64 0))::E) D H) (fun g=>Gt g M c (ql 10) Q E D H)) /\
 (∀ Q E D H,W M c (ql 10) true Q E D H =
  Lz E 0 fun g t0=>C3 M g (.func jx) [t0] H fun g t17 H1=>W M c (ql 12) g Q ((3,t17)::E) D H1) /\
 (∀ Q E D H,W M c (ql 12) true Q E D H =
  Lz E 3 fun g t3=>C3 M g (.func qas) [t3] H fun g t20 H1=>B3 g ((Op.extract 0) [t20]) fun g t21=>B3 g ((Op.extract 1) [t20]) fun g t22=>IF3 g t22 (fun g=>Ly g E 0 fun g t0=>Nf g 1 t0 H1 fun g t27=>Bn g .add t27 (.int .i64 1) fun g t28=>Ns g 1 t0 t28 H1 fun g u H2=>Ly g E 0 fun g t0_1=>C3 M g (.func za) [t0_1,(.str [61])] H2 fun g t32 H3=>Ly g E 0 fun g t0_2=>C3 M g (.func xe) [t0_2] H3 fun g t34 H4=>Ly g E 0 fun g t0_3=>C3 M g (.func za) [t0_3,(.str [59])] H4 fun g t36 H5=>Ly g E 0 fun g t0_4=>B32 g ((Op.buildSlice T_int 1 [(.int .i64 0)] [(0,1)]) [t34]) fun g o6 k6=>C3 M g (.func zf) [t0_4,(.int .i64 14),t21,(k6 H5.next)] (H5.alloc o6) fun g t41 H7=>GO3 g (SEQ3 (W M c (ql 30)) Q) .ret ((2,t41)::(6,t34)::(5,t22)::(4,t21)::E) D H7) (fun g=>Gt g M c (ql 30) Q ((5,t22)::(4,t21)::E) D H1)) /\
 (∀ Q E D H,W M c (ql 30) true Q E D H =
  Lz E 3 fun g t3=>Cb g .eql t3 (.str [115,116,111,114,101]) (fun g=>Ly g E 0 fun g t0=>Nf g 1 t0 H fun g t48=>Bn g .add t48 (.int .i64 1) fun g t49=>Ns g 1 t0 t49 H fun g u H1=>Ly g E 0 fun g t0_1=>C3 M g (.func za) [t0_1,(.str [40])] H1 fun g t53 H2=>Ly g E 0 fun g t0_2=>C3 M g (.func xe) [t0_2] H2 fun g t55 H3=>Ly g E 0 fun g t0_3=>C3 M g (.func za) [t0_3,(.str [44])] H3 fun g t57 H4=>Ly g E 0 fun g t0_4=>C3 M g (.func xe) [t0_4] H4 fun g t59 H5=>Ly g E 0 fun g t0_5=>C3 M g (.func za) [t0_5,(.str [41])] H5 fun g t61 H6=>Ly g E 0 fun g t0_6=>C3 M g (.func za) [t0_6,(.str [59])] H6 fun g t63 H7=>Ly g E 0 fun g t0_7=>B32 g ((Op.buildSlice T_int 2 [(.int .i64 0)] [(0,1),(1,1)]) [t55,t59]) fun g o8 k8=>C3 M g (.func zf) [t0_7,(.int .i64 15),(.int .u64 0),(k8 H7.next)] (H7.alloc o8) fun g t68 H9=>GO3 g (BLK3 0 (SEQ3 (W M c (ql 115)) Q)) .ret ((2,t68)::(8,t59)::(7,t55)::(42,t3)::E) D H9) (fun g=>Cb g .eql t3 (.str [105,102]) (fun g=>W M c (ql 57) g (BLK3 0 (SEQ3 (W M c (ql 115)) Q)) ((42,t3)::E) D H) (fun g=>W M c (ql 72) g (BLK3 0 (SEQ3 (W M c (ql 115)) Q)) ((42,t3)::E) D H))) /\
 (∀ Q E D H,W M c (ql 115) true Q E D H =
  Lz E 0 fun g t0=>C3 M g (.func z7) [t0] H fun g t170 H1=>GO3 g Q .ret ((2,t170)::E) D H1) /\
 (∀ Q E D H,W M c (ql 57) true Q E D H =
  Lz E 0 fun g t0=>Nf g 1 t0 H fun g t74=>Bn g .add t74 (.int .i64 1) fun g t75=>Ns g 1 t0 t75 H fun g u H1=>Ly g E 0 fun g t0_1=>B3 g ((Op.mkFunc xh 1) [t0_1]) fun g t80=>C3 M g (.func j6) [t0_1,t80] H1 fun g t81 H2=>C3 M g (.func x6) [t0_1] H2 fun g t83 H3=>B32 g ((Op.buildSlice T_int 2 [(.int .i64 0)] [(0,1),(1,1)]) [t81,t83]) fun g o4 k4=>W M c (ql 61) g Q ((9,(k4 H3.next))::E) D (H3.alloc o4)) /\
 (∀ Q E D H,W M c (ql 72) true Q E D H =
  Lz E 42 fun g t42=>Cb g .eql t42 (.str [119,104,105,108,101]) (fun g=>Ly g E 0 fun g t0=>Nf g 1 t0 H fun g t115=>Bn g .add t115 (.int .i64 1) fun g t116=>Ns g 1 t0 t116 H fun g u H1=>Ly g E 0 fun g t0_1=>B3 g ((Op.mkFunc xh 1) [t0_1]) fun g t121=>C3 M g (.func j6) [t0_1,t121] H1 fun g t122 H2=>Ly g E 0 fun g t0_2=>C3 M g (.func x6) [t0_2] H2 fun g t126 H3=>B32 g ((Op.buildSlice T_int 2 [(.int .i64 0)] [(0,1),(1,1)]) [t122,t126]) fun g o4 k4=>C3 M g (.func zf) [t0_2,(.int .i64 17),(.int .u64 0),(k4 H3.next)] (H3.alloc o4) fun g t128 H5=>GO3 g Q .ret ((2,t128)::(10,t122)::E) D H5) (fun g=>Ly g E 42 fun g t42_1=>Cb g .eql t42_1 (.str [97,116,111,109,105,99]) (fun g=>W M c (ql 85) g Q E D H) (fun g=>W M c (ql 104) g Q E D H))) /\
 (∀ Q E D H,W M c (ql 61) true Q E D H =
  Lz E 0 fun g t0=>Nf g 5 t0 H fun g t88=>B3 g ((Op.un .not) [t88]) fun g t89=>JN (fun (k:Bool->AV->AV->AV->AHeap->Prop)=>B3 g (wantV true (some t89)) fun g w=>IG3 g w (fun g=>C3 M g (.func jx) [t0] H fun g t92 H1=>Bn g .eql t92 (.str [101,108,115,101]) fun g t93=>k g t93 t92 t0 H1) (fun g=>k g uu uu uu H)) (fun g t93_1 t92_1 t91_1 H2=>B3 g (Op.pick [t89,t93_1,(.bool false)]) fun g t94=>IF3 g t94 (fun g=>Ly g E 0 fun g t0_1=>Nf g 1 t0_1 H2 fun g t98=>Bn g .add t98 (.int .i64 1) fun g t99=>Ns g 1 t0_1 t99 H2 fun g u H3=>Ly g E 9 fun g t9=>Ly g E 0 fun g t0_2=>C3 M g (.func x6) [t0_2] H3 fun g t104 H4=>B32 g ((Op.buildSlice T_int 1 [(.int .i64 0)] [(0,1)]) [t104]) fun g o5 k5=>B32 g ((Op.append T_int 1 8) [t9,(k5 H4.next)] (H4.alloc o5)) fun g t106 H6=>Gt g M c (ql 69) Q ((9,t106)::E) D H6) (fun g=>Gt g M c (ql 69) Q E D H2))) /\
 (∀ Q E D H,W M c (ql 85) true Q E D H =
  Lz E 0 fun g t0=>Nf g 4 t0 H fun g t134=>IF3 g t134 (fun g=>Ly g E 0 fun g t0_1=>C3 M g (.func z7) [t0_1] H fun g t136 H1=>GO3 g (SEQ3 (W M c (ql 93)) Q) .ret ((2,t136)::E) D H1) (fun g=>Gt g M c (ql 93) Q E D H)) /\
 (∀ Q E D H,W M c (ql 104) true Q E D H =
  Lz E 42 fun g t42=>Cb g .eql t42 (.str [104,97,108,116]) (fun g=>Ly g E 0 fun g t0=>Nf g 1 t0 H fun g t161=>Bn g .add t161 (.int .i64 1) fun g t162=>Ns g 1 t0 t162 H fun g u H1=>Ly g E 0 fun g t0_1=>C3 M g (.func za) [t0_1,(.str [59])] H1 fun g t166 H2=>Ly g E 0 fun g t0_2=>C3 M g (.func zf) [t0_2,(.int .i64 19),(.int .u64 0),.nils] H2 fun g t168 H3=>GO3 g Q .ret ((2,t168)::E) D H3) (fun g=>GO3 g Q .normal E D H)) /\
 (∀ Q E D H,W M c (ql 69) true Q E D H =
  Lz E 0 fun g t0=>Ly g E 9 fun g t9=>C3 M g (.func zf) [t0,(.int .i64 16),(.int .u64 0),t9] H fun g t109 H1=>GO3 g Q .ret ((2,t109)::E) D H1) /\
 (∀ Q E D H,W M c (ql 93) true Q E D H =
  Lz E 0 fun g t0=>Nf g 1 t0 H fun g t140=>Bn g .add t140 (.int .i64 1) fun g t141=>Ns g 1 t0 t141 H fun g u H1=>Ly g E 0 fun g t0_1=>Ns g 4 t0_1 (.bool true) H1 fun g u_1 H2=>Ly g E 0 fun g t0_2=>C3 M g (.func x6) [t0_2] H2 fun g t148 H3=>Ly g E 0 fun g t0_3=>Ns g 4 t0_3 (.bool false) H3 fun g u_2 H4=>Ly g E 0 fun g t0_4=>B32 g ((Op.buildSlice T_int 1 [(.int .i64 0)] [(0,1)]) [t148]) fun g o5 k5=>C3 M g (.func zf) [t0_4,(.int .i64 18),(.int .u64 0),(k5 H4.next)] (H4.alloc o5) fun g t155 H6=>GO3 g Q .ret ((2,t155)::(11,t148)::E) D H6):=by (repeat' apply And.intro)<;>(intro _ _ _ _;refine W_unf ?_;kernel_rfl)
theorem qhx:(cProg Tryd.prog).func qm=some qbw/\qbw.results=[.tmp 2]:=zz (by kernel_rfl)
theorem qbx (h:W M ⟨none,qm⟩ (ql 0) true (FIN3 M [.tmp 2] Q) [(0,a0)] [] H):wu M qm [a0] H Q:=callf (by decide) qhx (ks:=qd1) (by kernel_rfl) h
def qec:AFunc:=funcAt Tryd.prog wy
def qg1:Kp:=⟨[0,2],false,[0,2,10]⟩
def vf (k:Nat):Kp × ACode:=(qg1,part qec.body k)
theorem qed (M:Mac) (c:Ctx):(∀ Q E D H,W M c (vf 0) true Q E D H =
 W M c (vf 2) true Q ((2,.nils)::E) D H) /\
 (∀ Q E D H,W M c (vf 2) true Q E D H =
  Lz E 0 fun g t0=>B3 g ((Op.eq .slice false) [t0,.nils] H) fun g t4=>IF3 g t4 (fun g=>GO3 g (SEQ3 (W M c (vf 10)) Q) .ret ((2,.nils)::E) D H) (fun g=>Gt g M c (vf 10) Q E D H)) /\
 (∀ Q E D H,W M c (vf 10) true Q E D H =
  B32 true ((Op.buildSlice T_int 0 [(.int .i64 0)] []) []) fun g o1 k1=>Ly g E 0 fun g t0=>B32 g ((Op.append T_int 1 8) [(k1 H.next),t0] (H.alloc o1)) fun g t7 H2=>GO3 g Q .ret ((2,t7)::E) D H2):=by (repeat' apply And.intro)<;>(intro _ _ _ _;refine W_unf ?_;kernel_rfl)
theorem qlu:(cProg Tryd.prog).func wy=some qec/\qec.results=[.tmp 2]:=zz (by kernel_rfl)
theorem qlv (h:W M ⟨none,wy⟩ (vf 0) true (FIN3 M [.tmp 2] Q) [(0,a0)] [] H):wu M wy [a0] H Q:=callf (by decide) qlu (ks:=qg1) (by kernel_rfl) h
def qjx:AFunc:=funcAt Tryd.prog qdb
def qoq:Kp:=⟨[0,1,2,3,5,7,8,9],false,[0,4,9,15,26,27]⟩
def vd (k:Nat):Kp × ACode:=(qoq,part qjx.body k)
theorem qu0 (M:Mac) (c:Ctx):(∀ Q E D H,W M c (vd 0) true Q E D H =
 Lz E 0 fun g t0=>A3 g qcq (AV.cells t0) H fun g t1 H1=>B3 g ((Op.mkFunc qaj 0) [t1]) fun g t6=>W M c (vd 4) g Q ((3,t6)::(2,(.int .i64 0))::(1,t1)::E) D H1) /\
 (∀ Q E D H,W M c (vd 4) true Q E D H =
  B32 true ((Op.buildSlice qcq 4 [(.str [])] [(0,1),(1,1),(2,1),(3,1)]) [(.str [61,61]),(.str [33,61]),(.str [60,60]),(.str [62,62])]) fun g o1 k1=>B3 g (Op.lenSl [(k1 H.next)]) fun g t8=>LOOP3 (W M c (vd 9)) (BLK3 0 (SEQ3 (W M c (vd 27)) Q)) ((9,(.int .i64 0))::(8,t8)::(7,(k1 H.next))::E) D (H.alloc o1)) /\
 (∀ Q E D H,W M c (vd 27) true Q E D H =
  Lz E 3 fun g t3=>V3 g [t3,(.int .u8 97),(.int .u8 122)] fun g f vs=>C3 M g f vs H fun g t18 H1=>V3 g [t3,(.int .u8 48),(.int .u8 57)] fun g f vs=>C3 M g f vs H1 fun g t20 H2=>B3 g ((Op.minmax true) [(.int .i64 1),t18,t20]) fun g t21=>GO3 g Q .ret ((2,t21)::E) D H2) /\
 (∀ Q E D H,W M c (vd 9) true Q E D H =
  Lz E 9 fun g t9=>Ly g E 8 fun g t8=>Cb g .lss t9 t8 (fun g=>Gt g M c (vd 15) Q E D H) (fun g=>GO3 g (SEQ3 (W M c (vd 15)) Q) (.exit 0) E D H)) /\
 (∀ Q E D H,W M c (vd 15) true Q E D H =
  Lz E 7 fun g t7=>Ly g E 9 fun g t9=>Xl g t7 t9 H fun g t12=>Ly g E 1 fun g t1=>B3 g (Op.load1 [t1] H) fun g t13=>C3 M g (.func vp) [t13,t12] H fun g t15 H1=>IF3 g t15 (fun g=>GO3 g (BLK3 1 (SEQ3 (W M c (vd 26)) Q)) .ret ((2,(.int .i64 2))::(5,t12)::E) D H1) (fun g=>GO3 g (BLK3 1 (SEQ3 (W M c (vd 26)) Q)) .normal ((5,t12)::E) D H1)) /\
 (∀ Q E D H,W M c (vd 26) true Q E D H =
  Lz E 9 fun g t9=>Bn g .add t9 (.int .i64 1) fun g t16=>GO3 g Q .normal ((9,t16)::E) D H):=by (repeat' apply And.intro)<;>(intro _ _ _ _;refine W_unf ?_;kernel_rfl)
theorem quy:(cProg Tryd.prog).func qdb=some qjx/\qjx.results=[.tmp 2]:=zz (by kernel_rfl)
theorem quz (h:W M ⟨none,qdb⟩ (vd 0) true (FIN3 M [.tmp 2] Q) [(0,a0)] [] H):wu M qdb [a0] H Q:=callf (by decide) quy (ks:=qoq) (by kernel_rfl) h
def qf5:AFunc:=funcAt Tryd.prog qas
def qim:Kp:=⟨[0,2,3],false,[0,2,10]⟩
def qau (k:Nat):Kp × ACode:=(qim,part qf5.body k)
theorem qci (M:Mac) (c:Ctx):(∀ Q E D H,W M c (qau 0) true Q E D H =
 W M c (qau 2) true Q ((3,(.bool false))::(2,(.int .u64 0))::E) D H) /\
 (∀ Q E D H,W M c (qau 2) true Q E D H =
  Lz E 0 fun g t0=>B3 g (Op.lenStr [t0]) fun g t5=>Bn g .neq t5 (.int .i64 1) fun g t6=>JN (fun (k:Bool->AV->AV->AV->AHeap->Prop)=>B3 g (wantV false (some t6)) fun g w=>IG3 g w (fun g=>B3 g (Op.indexStr [t0,(.int .i64 0)]) fun g t9=>Bn g .lss t9 (.int .u8 97) fun g t10=>k g t10 t9 t0 H) (fun g=>k g uu uu uu H)) (fun g t10_1 t9_1 t8_1 H1=>B3 g (Op.pick [t6,(.bool true),t10_1]) fun g t11=>JN (fun (k:Bool->AV->AV->AV->AHeap->Prop)=>B3 g (wantV false (some t11)) fun g w=>IG3 g w (fun g=>B3 g (Op.indexStr [t0,(.int .i64 0)]) fun g t14=>Bn g .gtr t14 (.int .u8 104) fun g t15=>k g t15 t14 t0 H1) (fun g=>k g uu uu uu H1)) (fun g t15_1 t14_1 t13_1 H2=>B3 g (Op.pick [t11,(.bool true),t15_1]) fun g t16=>IF3 g t16 (fun g=>GO3 g (SEQ3 (W M c (qau 10)) Q) .ret ((3,(.bool false))::(2,(.int .u64 0))::E) D H2) (fun g=>Gt g M c (qau 10) Q E D H2)))) /\
 (∀ Q E D H,W M c (qau 10) true Q E D H =
  Lz E 0 fun g t0=>B3 g (Op.indexStr [t0,(.int .i64 0)]) fun g t18=>Bn g .sub t18 (.int .u8 97) fun g t19=>B3 g ((Op.wrap .u64) [t19]) fun g t20=>GO3 g Q .ret ((3,(.bool true))::(2,t20)::E) D H):=by (repeat' apply And.intro)<;>(intro _ _ _ _;refine W_unf ?_;kernel_rfl)
theorem qou:(cProg Tryd.prog).func qas=some qf5/\qf5.results=[.tmp 2,.tmp 3]:=zz (by kernel_rfl)
theorem qov (h:W M ⟨none,qas⟩ (qau 0) true (FIN3 M [.tmp 2,.tmp 3] Q) [(0,a0)] [] H):wu M qas [a0] H Q:=callf (by decide) qou (ks:=qim) (by kernel_rfl) h
def qd2:AFunc:=funcAt Tryd.prog za
def qgt:Kp:=⟨[0,1,31,32,42],false,[0,8,18,20,26,29]⟩
def zm (k:Nat):Kp × ACode:=(qgt,part qd2.body k)
theorem qk7 (M:Mac) (c:Ctx):(∀ Q E D H,W M c (zm 0) true Q E D H =
 Lz E 0 fun g t0=>Nf g 5 t0 H fun g t7=>JN (fun (k:Bool->AV->AV->AV->AV->AHeap->Prop)=>B3 g (wantV false (some t7)) fun g w=>IG3 g w (fun g=>C3 M g (.func jx) [t0] H fun g t10 H1=>Ly g E 1 fun g t1=>Bn g .neq t10 t1 fun g t12=>k g t12 t1 t10 t0 H1) (fun g=>k g uu uu uu uu H)) (fun g t12_1 t11_1 t10_1 t9_1 H2=>B3 g (Op.pick [t7,(.bool true),t12_1]) fun g t13=>JN (fun (k:Bool->AV->AV->AV->AHeap->Prop)=>B3 g (wantV false (some t13)) fun g w=>IG3 g w (fun g=>Ly g E 1 fun g t1_1=>Bn g .eql t1_1 (.str [40]) fun g t16=>k g t16 t16 t1_1 H2) (fun g=>k g uu uu uu H2)) (fun g t17_1 t16_1 t15_1 H3=>JN (fun (k:Bool->AV->AV->AHeap->Prop)=>B3 g (wantV false (some t17_1)) fun g w=>IG3 g w (fun g=>Ly g E 1 fun g t1_2=>Bn g .eql t1_2 (.str [123]) fun g t19=>k g t19 t1_2 H3) (fun g=>k g uu uu H3)) (fun g t19_1 t18_1 H4=>JN (fun (k:Bool->AV->AV->AHeap->Prop)=>B3 g (wantV false (some t13)) fun g w=>IG3 g w (fun g=>B3 g (Op.pick [t17_1,(.bool true),t19_1]) fun g t20=>k g t20 t20 H4) (fun g=>k g uu uu H4)) (fun g t21_1 t20_1 H5=>JN (fun (k:Bool->AV->AV->AV->AV->AV->AHeap->Prop)=>B3 g (wantV true (some t21_1)) fun g w=>IG3 g w (fun g=>B3 g (Op.nilCheck [t0]) fun g t23=>B3 g ((Op.fieldAddr 3) [t23]) fun g t24=>B3 g (Op.load1 [t24] H5) fun g t25=>Bn g .geq t25 (.int .i64 50) fun g t26=>k g t26 t25 t24 t23 t0 H5) (fun g=>k g uu uu uu uu uu H5)) (fun g t26_1 t25_1 t24_1 t23_1 t22_1 H6=>JN (fun (k:Bool->AV->AHeap->Prop)=>B3 g (wantV false (some t13)) fun g w=>IG3 g w (fun g=>B3 g (Op.pick [t21_1,t26_1,(.bool false)]) fun g t27=>k g t27 H6) (fun g=>k g uu H6)) (fun g t27_1 H7=>B3 g (Op.pick [t13,(.bool true),t27_1]) fun g t28=>IF3 g t28 (fun g=>Ly g E 0 fun g t0_1=>C3 M g (.func z7) [t0_1] H7 fun g t30 H8=>GO3 g (SEQ3 (W M c (zm 8)) Q) .ret E D H8) (fun g=>Gt g M c (zm 8) Q E D H7)))))))) /\
 (∀ Q E D H,W M c (zm 8) true Q E D H =
  Lz E 1 fun g t1=>Bn g .eql t1 (.str [40]) fun g t33=>IF3 g t33 (fun g=>Gt g M c (zm 18) (BLK3 0 (SEQ3 (W M c (zm 29)) Q)) ((32,t33)::(31,t1)::E) D H) (fun g=>Bn g .eql t1 (.str [123]) fun g t34=>Gt g M c (zm 18) (BLK3 0 (SEQ3 (W M c (zm 29)) Q)) ((32,t34)::(32,t33)::(31,t1)::E) D H)) /\
 (∀ Q E D H,W M c (zm 29) true Q E D H =
  Lz E 0 fun g t0=>Nf g 1 t0 H fun g t55=>Bn g .add t55 (.int .i64 1) fun g t56=>Ns g 1 t0 t56 H fun g u H1=>GO3 g Q .normal E D H1) /\
 (∀ Q E D H,W M c (zm 18) true Q E D H =
  Lz E 32 fun g t32=>IF3 g t32 (fun g=>Ly g E 0 fun g t0=>Nf g 3 t0 H fun g t38=>Bn g .add t38 (.int .i64 1) fun g t39=>Ns g 3 t0 t39 H fun g u H1=>GO3 g Q .normal E D H1) (fun g=>W M c (zm 20) g Q E D H)) /\
 (∀ Q E D H,W M c (zm 20) true Q E D H =
  Lz E 31 fun g t31=>Bn g .eql t31 (.str [41]) fun g t43=>IF3 g t43 (fun g=>Gt g M c (zm 26) Q ((42,t43)::E) D H) (fun g=>Ly g E 31 fun g t31_1=>Bn g .eql t31_1 (.str [125]) fun g t44=>Gt g M c (zm 26) Q ((42,t44)::(42,t43)::E) D H)) /\
 (∀ Q E D H,W M c (zm 26) true Q E D H =
  Lz E 42 fun g t42=>IF3 g t42 (fun g=>Ly g E 0 fun g t0=>Nf g 3 t0 H fun g t48=>Bn g .sub t48 (.int .i64 1) fun g t49=>Ns g 3 t0 t49 H fun g u H1=>GO3 g Q .normal E D H1) (fun g=>GO3 g Q .normal E D H)):=by (repeat' apply And.intro)<;>(intro _ _ _ _;refine W_unf ?_;kernel_rfl)
theorem qk5:(cProg Tryd.prog).func za=some qd2/\qd2.results=[]:=zz (by kernel_rfl)
theorem qk6 (h:W M ⟨none,za⟩ (zm 0) true (FIN3 M [] Q) [(0,a0),(1,a1)] [] H):wu M za [a0,a1] H Q:=callf (by decide) qk5 (ks:=qgt) (by kernel_rfl) h
def qdy:AFunc:=funcAt Tryd.prog xe
def qgn:Kp:=⟨[0,2],false,[0]⟩
def qgo (k:Nat):Kp × ACode:=(qgn,part qdy.body k)
theorem qky (M:Mac) (c:Ctx):(∀ Q E D H,W M c (qgo 0) true Q E D H =
 Lz E 0 fun g t0=>B3 g ((Op.mkFunc jr 1) [t0]) fun g t5=>C3 M g (.func z9) [t0,(.int .i64 1),t5] H fun g t6 H1=>GO3 g Q .ret ((2,t6)::(2,(.int .i64 0))::E) D H1):=by intro _ _ _ _;refine W_unf ?_;kernel_rfl
theorem qkw:(cProg Tryd.prog).func xe=some qdy/\qdy.results=[.tmp 2]:=zz (by kernel_rfl)
theorem qkx (h:W M ⟨none,xe⟩ (qgo 0) true (FIN3 M [.tmp 2] Q) [(0,a0)] [] H):wu M xe [a0] H Q:=callf (by decide) qkw (ks:=qgn) (by kernel_rfl) h
def qcx:AFunc:=funcAt Tryd.prog j6
def qe9:Kp:=⟨[0,1,4,5],false,[0]⟩
def qfa (k:Nat):Kp × ACode:=(qe9,part qcx.body k)
theorem qjc (M:Mac) (c:Ctx):(∀ Q E D H,W M c (qfa 0) true Q E D H =
 Lz E 0 fun g t0=>C3 M g (.func za) [t0,(.str [40])] H fun g t7 H1=>Ly g E 1 fun g t1=>V3 g [t1] fun g f vs=>C3 M g f vs H1 fun g t9 H2=>Ly g E 0 fun g t0_1=>C3 M g (.func za) [t0_1,(.str [41])] H2 fun g t11 H3=>GO3 g Q .ret ((4,t9)::(5,t9)::(4,(.int .i64 0))::E) D H3):=by intro _ _ _ _;refine W_unf ?_;kernel_rfl
theorem qja:(cProg Tryd.prog).func j6=some qcx/\qcx.results=[.tmp 4]:=zz (by kernel_rfl)
theorem qjb (h:W M ⟨none,j6⟩ (qfa 0) true (FIN3 M [.tmp 4] Q) [(0,a0),(1,a1)] [] H):wu M j6 [a0,a1] H Q:=callf (by decide) qja (ks:=qe9) (by kernel_rfl) h
def qdx:AFunc:=funcAt Tryd.prog xh
def qgm:Kp:=⟨[0,2,3,4,5,13],false,[0,4,12,14,26,33]⟩
def zt (k:Nat):Kp × ACode:=(qgm,part qdx.body k)
theorem qcb (M:Mac) (c:Ctx):(∀ Q E D H,W M c (zt 0) true Q E D H =
 Lz E 0 fun g t0=>C3 M g (.func xe) [t0] H fun g t7 H1=>W M c (zt 4) g Q ((3,t7)::(2,(.int .i64 0))::E) D H1) /\
 (∀ Q E D H,W M c (zt 4) true Q E D H =
  Lz E 0 fun g t0=>Nf g 5 t0 H fun g t11=>IF3 g t11 (fun g=>GO3 g (SEQ3 (W M c (zt 12)) Q) .ret ((2,(.int .i64 0))::E) D H) (fun g=>Gt g M c (zt 12) Q E D H)) /\
 (∀ Q E D H,W M c (zt 12) true Q E D H =
  W M c (zt 14) true Q ((4,(.int .i64 0))::E) D H) /\
 (∀ Q E D H,W M c (zt 14) true Q E D H =
  Lz E 0 fun g t0=>C3 M g (.func jx) [t0] H fun g t13 H1=>Cb g .eql t13 (.str [61,61]) (fun g=>GO3 g (BLK3 0 (SEQ3 (W M c (zt 33)) Q)) .normal ((4,(.int .i64 11))::(13,t13)::E) D H1) (fun g=>Cb g .eql t13 (.str [33,61]) (fun g=>GO3 g (BLK3 0 (SEQ3 (W M c (zt 33)) Q)) .normal ((4,(.int .i64 12))::(13,t13)::E) D H1) (fun g=>W M c (zt 26) g (BLK3 0 (SEQ3 (W M c (zt 33)) Q)) ((13,t13)::E) D H1))) /\
 (∀ Q E D H,W M c (zt 33) true Q E D H =
  Lz E 0 fun g t0=>Nf g 1 t0 H fun g t25=>Bn g .add t25 (.int .i64 1) fun g t26=>Ns g 1 t0 t26 H fun g u H1=>Ly g E 0 fun g t0_1=>C3 M g (.func xe) [t0_1] H1 fun g t30 H2=>Ly g E 0 fun g t0_2=>Ly g E 4 fun g t4=>Ly g E 3 fun g t3=>B32 g ((Op.buildSlice T_int 2 [(.int .i64 0)] [(0,1),(1,1)]) [t3,t30]) fun g o3 k3=>C3 M g (.func zf) [t0_2,t4,(.int .u64 0),(k3 H2.next)] (H2.alloc o3) fun g t36 H4=>GO3 g Q .ret ((2,t36)::(5,t30)::E) D H4) /\
 (∀ Q E D H,W M c (zt 26) true Q E D H =
  Lz E 13 fun g t13=>Cb g .eql t13 (.str [60]) (fun g=>GO3 g Q .normal ((4,(.int .i64 13))::E) D H) (fun g=>Ly g E 0 fun g t0=>C3 M g (.func z7) [t0] H fun g t15 H1=>GO3 g Q .ret ((2,t15)::E) D H1)):=by (repeat' apply And.intro)<;>(intro _ _ _ _;refine W_unf ?_;kernel_rfl)
theorem qkv:(cProg Tryd.prog).func xh=some qdx/\qdx.results=[.tmp 2]:=zz (by kernel_rfl)
theorem qca (h:W M ⟨none,xh⟩ (zt 0) true (FIN3 M [.tmp 2] Q) [(0,a0)] [] H):wu M xh [a0] H Q:=callf (by decide) qkv (ks:=qgm) (by kernel_rfl) h
def qdc:AFunc:=funcAt Tryd.prog x6
def qf1:Kp:=⟨[0,2,3],false,[0,4,8,16]⟩
def ki (k:Nat):Kp × ACode:=(qf1,part qdc.body k)
theorem qf3 (M:Mac) (c:Ctx):(∀ Q E D H,W M c (ki 0) true Q E D H =
 Lz E 0 fun g t0=>C3 M g (.func za) [t0,(.str [123])] H fun g t5 H1=>W M c (ki 4) g Q ((2,(.int .i64 0))::E) D H1) /\
 (∀ Q E D H,W M c (ki 4) true Q E D H =
  Lz E 0 fun g t0=>C3 M g (.func zb) [t0,(.str [125])] H fun g t7 H1=>Ly g E 0 fun g t0_1=>C3 M g (.func za) [t0_1,(.str [125])] H1 fun g t9 H2=>W M c (ki 8) g Q ((3,t7)::E) D H2) /\
 (∀ Q E D H,W M c (ki 8) true Q E D H =
  Lz E 0 fun g t0=>Nf g 5 t0 H fun g t13=>IF3 g t13 (fun g=>GO3 g (SEQ3 (W M c (ki 16)) Q) .ret ((2,(.int .i64 0))::E) D H) (fun g=>Gt g M c (ki 16) Q E D H)) /\
 (∀ Q E D H,W M c (ki 16) true Q E D H =
  Lz E 0 fun g t0=>Ly g E 3 fun g t3=>C3 M g (.func zf) [t0,(.int .i64 20),(.int .u64 0),t3] H fun g t16 H1=>GO3 g Q .ret ((2,t16)::E) D H1):=by (repeat' apply And.intro)<;>(intro _ _ _ _;refine W_unf ?_;kernel_rfl)
theorem qjv:(cProg Tryd.prog).func x6=some qdc/\qdc.results=[.tmp 2]:=zz (by kernel_rfl)
theorem qf2 (h:W M ⟨none,x6⟩ (ki 0) true (FIN3 M [.tmp 2] Q) [(0,a0)] [] H):wu M x6 [a0] H Q:=callf (by decide) qjv (ks:=qf1) (by kernel_rfl) h
def qdz:AFunc:=funcAt Tryd.prog z7
def qgp:Kp:=⟨[0,2],false,[0]⟩
def qgq (k:Nat):Kp × ACode:=(qgp,part qdz.body k)
theorem qk1 (M:Mac) (c:Ctx):(∀ Q E D H,W M c (qgq 0) true Q E D H =
 Lz E 0 fun g t0=>Ns g 5 t0 (.bool true) H fun g u H1=>GO3 g Q .ret ((2,(.int .i64 0))::(2,(.int .i64 0))::E) D H1):=by intro _ _ _ _;refine W_unf ?_;kernel_rfl
theorem qkz:(cProg Tryd.prog).func z7=some qdz/\qdz.results=[.tmp 2]:=zz (by kernel_rfl)
theorem qk0 (h:W M ⟨none,z7⟩ (qgq 0) true (FIN3 M [.tmp 2] Q) [(0,a0)] [] H):wu M z7 [a0] H Q:=callf (by decide) qkz (ks:=qgp) (by kernel_rfl) h
def qhy:AFunc:=funcAt Tryd.prog qaj
def qlb:Kp:=⟨[0,1,2,5,6],false,[0,4,7,13,15]⟩
def vc (k:Nat):Kp × ACode:=(qlb,part qhy.body k)
theorem qrl (M:Mac) (c:Ctx):(∀ Q E D H,W M c (vc 0) true Q E D H =
 W M c (vc 4) true Q ((6,(.int .i64 0))::(5,(.int .i64 0))::E) D H) /\
 (∀ Q E D H,W M c (vc 4) true Q E D H =
  LOOP3 (W M c (vc 7)) (BLK3 0 (SEQ3 (W M c (vc 15)) Q)) E D H) /\
 (∀ Q E D H,W M c (vc 15) true Q E D H =
  Lz E 6 fun g t6=>GO3 g Q .ret ((5,t6)::E) D H) /\
 (∀ Q E D H,W M c (vc 7) true Q E D H =
  Lz E 6 fun g t6=>Ly g E 2 fun g t2=>B3 g (Op.load1 [t2] H) fun g t8=>B3 g (Op.lenStr [t8]) fun g t9=>Bn g .lss t6 t9 fun g t10=>JN (fun (k:Bool->AV->AV->AV->AV->AV->AHeap->Prop)=>B3 g (wantV true (some t10)) fun g w=>IG3 g w (fun g=>B3 g (Op.load1 [t2] H) fun g t12=>B3 g (Op.indexStr [t12,t6]) fun g t14=>Ly g E 0 fun g t0=>Bn g .geq t14 t0 fun g t16=>k g t16 t0 t14 t6 t12 H) (fun g=>k g uu uu uu uu uu H)) (fun g t16_1 t15_1 t14_1 t13_1 t12_1 H1=>B3 g (Op.pick [t10,t16_1,(.bool false)]) fun g t17=>JN (fun (k:Bool->AV->AV->AV->AV->AV->AHeap->Prop)=>B3 g (wantV true (some t17)) fun g w=>IG3 g w (fun g=>B3 g (Op.load1 [t2] H1) fun g t19=>B3 g (Op.indexStr [t19,t6]) fun g t21=>Ly g E 1 fun g t1=>Bn g .leq t21 t1 fun g t23=>k g t23 t1 t21 t6 t19 H1) (fun g=>k g uu uu uu uu uu H1)) (fun g t23_1 t22_1 t21_1 t20_1 t19_1 H2=>B3 g (Op.pick [t17,t23_1,(.bool false)]) fun g t24=>IF3 g t24 (fun g=>Gt g M c (vc 13) Q E D H2) (fun g=>GO3 g (SEQ3 (W M c (vc 13)) Q) (.exit 0) E D H2)))) /\
 (∀ Q E D H,W M c (vc 13) true Q E D H =
  Lz E 6 fun g t6=>Bn g .add t6 (.int .i64 1) fun g t26=>GO3 g (BLK3 1 Q) .normal ((6,t26)::E) D H):=by (repeat' apply And.intro)<;>(intro _ _ _ _;refine W_unf ?_;kernel_rfl)
theorem qrj:(cProg Tryd.prog).func qaj=some qhy/\qhy.results=[.tmp 5]:=zz (by kernel_rfl)
theorem qrk (h:W M ⟨none,qaj⟩ (vc 0) true (FIN3 M [.tmp 5] Q) [(0,a0),(1,a1),(2,a2)] [] H):wu M qaj [a0,a1,a2] H Q:=callf (by decide) qrj (ks:=qlb) (by kernel_rfl) h
def qeo:AFunc:=funcAt Tryd.prog z9
def qhg:Kp:=⟨[0,1,2,6,7,8,9,10],false,[0,4,7,13,16,22,27]⟩
def zn (k:Nat):Kp × ACode:=(qhg,part qeo.body k)
theorem qcr (M:Mac) (c:Ctx):(∀ Q E D H,W M c (zn 0) true Q E D H =
 Lz E 2 fun g t2=>V3 g [t2] fun g f vs=>C3 M g f vs H fun g t12 H1=>W M c (zn 4) g Q ((7,t12)::(6,(.int .i64 0))::E) D H1) /\
 (∀ Q E D H,W M c (zn 4) true Q E D H =
  LOOP3 (W M c (zn 7)) (BLK3 0 (SEQ3 (W M c (zn 27)) Q)) E D H) /\
 (∀ Q E D H,W M c (zn 27) true Q E D H =
  Lz E 7 fun g t7=>GO3 g Q .ret ((6,t7)::E) D H) /\
 (∀ Q E D H,W M c (zn 7) true Q E D H =
  Lz E 0 fun g t0=>Nf g 5 t0 H fun g t16=>B3 g ((Op.un .not) [t16]) fun g t17=>IF3 g t17 (fun g=>Gt g M c (zn 13) Q E D H) (fun g=>GO3 g (SEQ3 (W M c (zn 13)) Q) (.exit 0) E D H)) /\
 (∀ Q E D H,W M c (zn 13) true Q E D H =
  Lz E 0 fun g t0=>C3 M g (.func jx) [t0] H fun g t20 H1=>C3 M g (.func qel) [t20] H1 fun g t21 H2=>B3 g ((Op.extract 0) [t21]) fun g t22=>B3 g ((Op.extract 1) [t21]) fun g t23=>W M c (zn 16) g (BLK3 1 Q) ((9,t23)::(8,t22)::E) D H2) /\
 (∀ Q E D H,W M c (zn 16) true Q E D H =
  Lz E 9 fun g t9=>Ly g E 1 fun g t1=>Cb g .neq t9 t1 (fun g=>GO3 g (SEQ3 (W M c (zn 22)) Q) (.exit 0) E D H) (fun g=>Gt g M c (zn 22) Q E D H)) /\
 (∀ Q E D H,W M c (zn 22) true Q E D H =
  Lz E 0 fun g t0=>Nf g 1 t0 H fun g t30=>Bn g .add t30 (.int .i64 1) fun g t31=>Ns g 1 t0 t31 H fun g u H1=>Ly g E 2 fun g t2=>V3 g [t2] fun g f vs=>C3 M g f vs H1 fun g t35 H2=>Ly g E 0 fun g t0_1=>Ly g E 8 fun g t8=>Ly g E 7 fun g t7=>B32 g ((Op.buildSlice T_int 2 [(.int .i64 0)] [(0,1),(1,1)]) [t7,t35]) fun g o3 k3=>C3 M g (.func zf) [t0_1,t8,(.int .u64 0),(k3 H2.next)] (H2.alloc o3) fun g t41 H4=>GO3 g Q .normal ((7,t41)::(10,t35)::E) D H4):=by (repeat' apply And.intro)<;>(intro _ _ _ _;refine W_unf ?_;kernel_rfl)
theorem qmb:(cProg Tryd.prog).func z9=some qeo/\qeo.results=[.tmp 6]:=zz (by kernel_rfl)
theorem qmc (h:W M ⟨none,z9⟩ (zn 0) true (FIN3 M [.tmp 6] Q) [(0,a0),(1,a1),(2,a2)] [] H):wu M z9 [a0,a1,a2] H Q:=callf (by decide) qmb (ks:=qhg) (by kernel_rfl) h
def qd3:AFunc:=funcAt Tryd.prog jr
def qgu:Kp:=⟨[0,2],false,[0]⟩
def qgv (k:Nat):Kp × ACode:=(qgu,part qd3.body k)
theorem qla (M:Mac) (c:Ctx):(∀ Q E D H,W M c (qgv 0) true Q E D H =
 Lz E 0 fun g t0=>B3 g ((Op.mkFunc xc 1) [t0]) fun g t5=>C3 M g (.func z9) [t0,(.int .i64 2),t5] H fun g t6 H1=>GO3 g Q .ret ((2,t6)::(2,(.int .i64 0))::E) D H1):=by intro _ _ _ _;refine W_unf ?_;kernel_rfl
theorem qk8:(cProg Tryd.prog).func jr=some qd3/\qd3.results=[.tmp 2]:=zz (by kernel_rfl)
theorem qk9 (h:W M ⟨none,jr⟩ (qgv 0) true (FIN3 M [.tmp 2] Q) [(0,a0)] [] H):wu M jr [a0] H Q:=callf (by decide) qk8 (ks:=qgu) (by kernel_rfl) h
def qcv:AFunc:=funcAt Tryd.prog xc
def qe8:Kp:=⟨[0,2,3,4,5,6,7,8],false,[0,2,10,12,24,42,49,51,59]⟩
def xd (k:Nat):Kp × ACode:=(qe8,part qcv.body k)
theorem yh (M:Mac) (c:Ctx):(∀ Q E D H,W M c (xd 0) true Q E D H =
 W M c (xd 2) true Q ((2,(.int .i64 0))::E) D H) /\
 (∀ Q E D H,W M c (xd 2) true Q E D H =
  Lz E 0 fun g t0=>Nf g 5 t0 H fun g t12=>IF3 g t12 (fun g=>GO3 g (SEQ3 (W M c (xd 10)) Q) .ret ((2,(.int .i64 0))::E) D H) (fun g=>Gt g M c (xd 10) Q E D H)) /\
 (∀ Q E D H,W M c (xd 10) true Q E D H =
  Lz E 0 fun g t0=>C3 M g (.func jx) [t0] H fun g t14 H1=>W M c (xd 12) g Q ((3,t14)::E) D H1) /\
 (∀ Q E D H,W M c (xd 12) true Q E D H =
  Lz E 3 fun g t3=>C3 M g (.func qas) [t3] H fun g t17 H1=>B3 g ((Op.extract 0) [t17]) fun g t18=>B3 g ((Op.extract 1) [t17]) fun g t19=>IF3 g t19 (fun g=>Ly g E 0 fun g t0=>Nf g 1 t0 H1 fun g t24=>Bn g .add t24 (.int .i64 1) fun g t25=>Ns g 1 t0 t25 H1 fun g u H2=>Ly g E 0 fun g t0_1=>C3 M g (.func zf) [t0_1,(.int .i64 2),t18,.nils] H2 fun g t30 H3=>GO3 g (SEQ3 (W M c (xd 24)) Q) .ret ((2,t30)::(5,t19)::(4,t18)::E) D H3) (fun g=>Gt g M c (xd 24) Q ((5,t19)::(4,t18)::E) D H1)) /\
 (∀ Q E D H,W M c (xd 24) true Q E D H =
  Lz E 3 fun g t3=>Cb g .eql t3 (.str [108,111,97,100]) (fun g=>Ly g E 0 fun g t0=>Nf g 1 t0 H fun g t37=>Bn g .add t37 (.int .i64 1) fun g t38=>Ns g 1 t0 t38 H fun g u H1=>Ly g E 0 fun g t0_1=>B3 g ((Op.mkFunc xe 1) [t0_1]) fun g t43=>C3 M g (.func j6) [t0_1,t43] H1 fun g t44 H2=>Ly g E 0 fun g t0_2=>B32 g ((Op.buildSlice T_int 1 [(.int .i64 0)] [(0,1)]) [t44]) fun g o3 k3=>C3 M g (.func zf) [t0_2,(.int .i64 3),(.int .u64 0),(k3 H2.next)] (H2.alloc o3) fun g t48 H4=>GO3 g (BLK3 0 (SEQ3 (W M c (xd 49)) Q)) .ret ((2,t48)::(6,t44)::E) D H4) (fun g=>Ly g E 3 fun g t3_1=>Cb g .eql t3_1 (.str [40]) (fun g=>Ly g E 0 fun g t0=>B3 g ((Op.mkFunc xe 1) [t0]) fun g t54=>C3 M g (.func j6) [t0,t54] H fun g t55 H1=>GO3 g (BLK3 0 (SEQ3 (W M c (xd 49)) Q)) .ret ((2,t55)::E) D H1) (fun g=>W M c (xd 42) g (BLK3 0 (SEQ3 (W M c (xd 49)) Q)) E D H))) /\
 (∀ Q E D H,W M c (xd 49) true Q E D H =
  Lz E 3 fun g t3=>C3 M g (.func vo) [t3,(.int .i64 10),(.int .i64 64)] H fun g t83 H1=>B3 g ((Op.extract 0) [t83]) fun g t84=>B3 g ((Op.extract 1) [t83]) fun g t85=>W M c (xd 51) g Q ((8,t85)::(7,t84)::E) D H1) /\
 (∀ Q E D H,W M c (xd 42) true Q E D H =
  Lz E 3 fun g t3=>Bn g .eql t3 (.str []) fun g t58=>JN (fun (k:Bool->AV->AV->AV->AHeap->Prop)=>B3 g (wantV false (some t58)) fun g w=>IG3 g w (fun g=>B3 g (Op.indexStr [t3,(.int .i64 0)]) fun g t61=>Bn g .lss t61 (.int .u8 48) fun g t62=>k g t62 t61 t3 H) (fun g=>k g uu uu uu H)) (fun g t62_1 t61_1 t60_1 H1=>B3 g (Op.pick [t58,(.bool true),t62_1]) fun g t63=>JN (fun (k:Bool->AV->AV->AV->AHeap->Prop)=>B3 g (wantV false (some t63)) fun g w=>IG3 g w (fun g=>B3 g (Op.indexStr [t3,(.int .i64 0)]) fun g t66=>Bn g .gtr t66 (.int .u8 57) fun g t67=>k g t67 t66 t3 H1) (fun g=>k g uu uu uu H1)) (fun g t67_1 t66_1 t65_1 H2=>B3 g (Op.pick [t63,(.bool true),t67_1]) fun g t68=>JN (fun (k:Bool->AV->AV->AV->AV->AHeap->Prop)=>B3 g (wantV false (some t68)) fun g w=>IG3 g w (fun g=>B3 g (Op.lenStr [t3]) fun g t71=>Bn g .gtr t71 (.int .i64 1) fun g t72=>k g t72 t72 t71 t3 H2) (fun g=>k g uu uu uu uu H2)) (fun g t73_1 t72_1 t71_1 t70_1 H3=>JN (fun (k:Bool->AV->AV->AV->AHeap->Prop)=>B3 g (wantV true (some t73_1)) fun g w=>IG3 g w (fun g=>B3 g (Op.indexStr [t3,(.int .i64 0)]) fun g t75=>Bn g .eql t75 (.int .u8 48) fun g t76=>k g t76 t75 t3 H3) (fun g=>k g uu uu uu H3)) (fun g t76_1 t75_1 t74_1 H4=>JN (fun (k:Bool->AV->AHeap->Prop)=>B3 g (wantV false (some t68)) fun g w=>IG3 g w (fun g=>B3 g (Op.pick [t73_1,t76_1,(.bool false)]) fun g t77=>k g t77 H4) (fun g=>k g uu H4)) (fun g t77_1 H5=>B3 g (Op.pick [t68,(.bool true),t77_1]) fun g t78=>IF3 g t78 (fun g=>Ly g E 0 fun g t0=>C3 M g (.func z7) [t0] H5 fun g t80 H6=>GO3 g Q .ret ((2,t80)::E) D H6) (fun g=>GO3 g Q .normal E D H5))))))) /\
 (∀ Q E D H,W M c (xd 51) true Q E D H =
  Lz E 8 fun g t8=>B3 g ((Op.eq .iface true) [t8,.nili] H) fun g t87=>IF3 g t87 (fun g=>Ly g E 0 fun g t0=>C3 M g (.func z7) [t0] H fun g t89 H1=>GO3 g (SEQ3 (W M c (xd 59)) Q) .ret ((2,t89)::E) D H1) (fun g=>Gt g M c (xd 59) Q E D H)) /\
 (∀ Q E D H,W M c (xd 59) true Q E D H =
  Lz E 0 fun g t0=>Nf g 1 t0 H fun g t93=>Bn g .add t93 (.int .i64 1) fun g t94=>Ns g 1 t0 t94 H fun g u H1=>Ly g E 0 fun g t0_1=>Ly g E 7 fun g t7=>C3 M g (.func zf) [t0_1,(.int .i64 1),t7,.nils] H1 fun g t99 H2=>GO3 g Q .ret ((2,t99)::E) D H2):=by (repeat' apply And.intro)<;>(intro _ _ _ _;refine W_unf ?_;kernel_rfl)
theorem qi9:(cProg Tryd.prog).func xc=some qcv/\qcv.results=[.tmp 2]:=zz (by kernel_rfl)
theorem qcw (h:W M ⟨none,xc⟩ (xd 0) true (FIN3 M [.tmp 2] Q) [(0,a0)] [] H):wu M xc [a0] H Q:=callf (by decide) qi9 (ks:=qe8) (by kernel_rfl) h
end
end Go.Am
