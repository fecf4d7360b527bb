/- CodeQc: CodePB CodePC. -/
import Derived.Test.YtbimikjajohflaaDoorAmQB4
import Derived.Test.YtbimikjajohflaaDoorAmQB1
import Derived.KernelRfl
import Derived.Test.YtbimikjajohflaaDoorAmQCodeQ
import Derived.Test.YtbimikjajohflaaDoorAmQCodeQb
import Derived.Test.YtbimikjajohflaaDoorRows
set_option linter.unusedVariables false
set_option maxRecDepth 100000
namespace Go.Am
abbrev qbt:Nat:=19
abbrev xq:Nat:=118
abbrev x7:Nat:=117
abbrev xf:Nat:=138
abbrev z4:Nat:=48
abbrev xr:Nat:=79
abbrev jg:Nat:=77
abbrev xx:Nat:=132
abbrev yp:Nat:=112
abbrev qv:Nat:=78
abbrev xi:Nat:=116
abbrev xa:Nat:=115
abbrev qbb:Nat:=133
abbrev qao:Nat:=144
abbrev qcd:Nat:=113
abbrev qad:Nat:=114
abbrev qbu:Nat:=97
noncomputable section
open Go.Proofs Go.Proofs.YtbimikjajohflaaDoor
variable {M:Mac} [MK M] {H:AHeap} {Q:AEnd->AHeap->Prop} {a0 a1 a2 a3:AV}
def qh4:AFunc:=funcAt Tryd.prog qbt
def qln:Kp:=⟨[0,2,3,4,5,6,7,8,9],false,[0,4,6,14,18,23,29,40,41]⟩
def jc (k:Nat):Kp × ACode:=(qln,part qh4.body k)
theorem qsb (M:Mac) (c:Ctx):(∀ Q E D H,W M c (jc 0) true Q E D H =
 Lz E 0 fun g t0=>B3 g ((Op.build [(.str []),(.int .i64 0),.nils,(.int .i64 0),(.bool false),(.bool false)] [(0,1)]) [t0]) fun g t11=>A3 g qbu (AV.cells t11) H fun g t12 H1=>W M c (jc 4) g Q ((6,t12)::(5,(.int .i64 0))::(4,(.int .i64 0))::(3,(.int .i64 0))::(2,.nils)::E) D H1) /\
 (∀ Q E D H,W M c (jc 4) true Q E D H =
  Lz E 6 fun g t6=>C3 M g (.func z4) [t6,(.str [])] H fun g t14 H1=>W M c (jc 6) g Q E D H1) /\
 (∀ Q E D H,W M c (jc 6) true Q E D H =
  Lz E 6 fun g t6=>Nf g 5 t6 H fun g t18=>B3 g ((Op.un .not) [t18]) fun g t19=>IF3 g t19 (fun g=>Ly g E 6 fun g t6_1=>Nf g 2 t6_1 H fun g t23=>GO3 g (SEQ3 (W M c (jc 14)) Q) .ret ((5,(.int .i64 0))::(4,(.int .i64 0))::(3,(.int .i64 0))::(2,t23)::E) D H) (fun g=>Gt g M c (jc 14) Q E D H)) /\
 (∀ Q E D H,W M c (jc 14) true Q E D H =
  W M c (jc 18) true Q ((8,(.int .i64 1))::(7,(.int .i64 1))::E) D H) /\
 (∀ Q E D H,W M c (jc 18) true Q E D H =
  LOOP3 (W M c (jc 23)) (BLK3 0 (SEQ3 (W M c (jc 41)) Q)) ((9,(.int .i64 0))::E) D H) /\
 (∀ Q E D H,W M c (jc 41) true Q E D H =
  Lz E 7 fun g t7=>Ly g E 8 fun g t8=>GO3 g Q .ret ((5,(.int .i64 180))::(4,t8)::(3,t7)::(2,.nils)::E) D H) /\
 (∀ Q E D H,W M c (jc 23) true Q E D H =
  Lz E 9 fun g t9=>Ly g E 6 fun g t6=>Nf g 1 t6 H fun g t28=>Cb g .lss t9 t28 (fun g=>Gt g M c (jc 29) Q E D H) (fun g=>GO3 g (SEQ3 (W M c (jc 29)) Q) (.exit 0) E D H)) /\
 (∀ Q E D H,W M c (jc 29) true Q E D H =
  Lz E 8 fun g t8=>Bn g .add t8 (.int .i64 1) fun g t33=>Ly g E 0 fun g t0=>Ly g E 9 fun g t9=>B3 g (Op.indexStr [t0,t9]) fun g t36=>Cb g .eql t36 (.int .u8 10) (fun g=>Ly g E 7 fun g t7=>Bn g .add t7 (.int .i64 1) fun g t39=>GO3 g (BLK3 1 (SEQ3 (W M c (jc 40)) Q)) .normal ((8,(.int .i64 1))::(7,t39)::(8,t33)::E) D H) (fun g=>GO3 g (BLK3 1 (SEQ3 (W M c (jc 40)) Q)) .normal ((8,t33)::E) D H)) /\
 (∀ Q E D H,W M c (jc 40) true Q E D H =
  Lz E 9 fun g t9=>Bn g .add t9 (.int .i64 1) fun g t31=>GO3 g Q .normal ((9,t31)::E) D H):=by (repeat' apply And.intro)<;>(intro _ _ _ _;refine W_unf ?_;kernel_rfl)
theorem qr9:(cProg Tryd.prog).func qbt=some qh4/\qh4.results=[.tmp 2,.tmp 3,.tmp 4,.tmp 5]:=zz (by kernel_rfl)
theorem qsa (h:W M ⟨none,qbt⟩ (jc 0) true (FIN3 M [.tmp 2,.tmp 3,.tmp 4,.tmp 5] Q) [(0,a0)] [] H):wu M qbt [a0] H Q:=callf (by decide) qr9 (ks:=qln) (by kernel_rfl) h
def qdg:AFunc:=funcAt Tryd.prog z4
def qf8:Kp:=⟨[0,1,4,5,6,7],false,[0,4,7,10,16,19]⟩
def zl (k:Nat):Kp × ACode:=(qf8,part qdg.body k)
theorem qby (M:Mac) (c:Ctx):(∀ Q E D H,W M c (zl 0) true Q E D H =
 W M c (zl 4) true Q ((5,.nils)::(4,(.int .i64 0))::E) D H) /\
 (∀ Q E D H,W M c (zl 4) true Q E D H =
  LOOP3 (W M c (zl 7)) (BLK3 0 (SEQ3 (W M c (zl 19)) Q)) E D H) /\
 (∀ Q E D H,W M c (zl 19) true Q E D H =
  Lz E 0 fun g t0=>Ly g E 5 fun g t5=>C3 M g (.func xr) [t0,(.int .i64 20),(.int .u64 0),t5] H fun g t28 H1=>GO3 g Q .ret ((4,t28)::E) D H1) /\
 (∀ Q E D H,W M c (zl 7) true Q E D H =
  Lz E 0 fun g t0=>C3 M g (.func jg) [t0] H fun g t9 H1=>W M c (zl 10) g (BLK3 1 Q) ((6,t9)::E) D H1) /\
 (∀ Q E D H,W M c (zl 10) true Q E D H =
  Lz E 0 fun g t0=>Nf g 5 t0 H fun g t13=>JN (fun (k:Bool->AV->AV->AV->AHeap->Prop)=>B3 g (wantV false (some t13)) fun g w=>IG3 g w (fun g=>Ly g E 6 fun g t6=>Ly g E 1 fun g t1=>Bn g .eql t6 t1 fun g t17=>k g t17 t1 t6 H) (fun g=>k g uu uu uu H)) (fun g t17_1 t16_1 t15_1 H1=>B3 g (Op.pick [t13,(.bool true),t17_1]) fun g t18=>IF3 g t18 (fun g=>GO3 g (SEQ3 (W M c (zl 16)) Q) (.exit 0) E D H1) (fun g=>Gt g M c (zl 16) Q E D H1))) /\
 (∀ Q E D H,W M c (zl 16) true Q E D H =
  Lz E 0 fun g t0=>Ly g E 6 fun g t6=>C3 M g (.func qv) [t0,t6] H fun g t21 H1=>Ly g E 5 fun g t5=>B32 g ((Op.buildSlice T_int 1 [(.int .i64 0)] [(0,1)]) [t21]) fun g o2 k2=>B32 g ((Op.append T_int 1 8) [t5,(k2 H1.next)] (H1.alloc o2)) fun g t25 H3=>GO3 g Q .normal ((5,t25)::(7,t21)::E) D H3):=by (repeat' apply And.intro)<;>(intro _ _ _ _;refine W_unf ?_;kernel_rfl)
theorem qjz:(cProg Tryd.prog).func z4=some qdg/\qdg.results=[.tmp 4]:=zz (by kernel_rfl)
theorem qj0 (h:W M ⟨none,z4⟩ (zl 0) true (FIN3 M [.tmp 4] Q) [(0,a0),(1,a1)] [] H):wu M z4 [a0,a1] H Q:=callf (by decide) qjz (ks:=qf8) (by kernel_rfl) h
def qd8:AFunc:=funcAt Tryd.prog jg
def qgy:Kp:=⟨[0,2,3,4,5],false,[0,4,12,16,24,32,38,46]⟩
def x9 (k:Nat):Kp × ACode:=(qgy,part qd8.body k)
theorem qlq (M:Mac) (c:Ctx):(∀ Q E D H,W M c (x9 0) true Q E D H =
 Lz E 0 fun g t0=>C3 M g (.func yp) [t0] H fun g t7 H1=>W M c (x9 4) g Q ((2,(.str []))::E) D H1) /\
 (∀ Q E D H,W M c (x9 4) true Q E D H =
  Lz E 0 fun g t0=>Nf g 1 t0 H fun g t11=>Nf g 0 t0 H fun g t15=>B3 g (Op.lenStr [t15]) fun g t16=>Cb g .geq t11 t16 (fun g=>GO3 g (SEQ3 (W M c (x9 12)) Q) .ret ((2,(.str []))::E) D H) (fun g=>Gt g M c (x9 12) Q E D H)) /\
 (∀ Q E D H,W M c (x9 12) true Q E D H =
  Lz E 0 fun g t0=>Nf g 0 t0 H fun g t21=>Nf g 1 t0 H fun g t25=>C3 M g (.func qcd) [t21,t25,(.int .u8 97),(.int .u8 122)] H fun g t26 H1=>Ly g E 0 fun g t0_1=>Nf g 0 t0_1 H1 fun g t30=>Nf g 1 t0_1 H1 fun g t34=>C3 M g (.func qcd) [t30,t34,(.int .u8 48),(.int .u8 57)] H1 fun g t35 H2=>W M c (x9 16) g Q ((4,t35)::(3,t26)::E) D H2) /\
 (∀ Q E D H,W M c (x9 16) true Q E D H =
  Lz E 3 fun g t3=>Ly g E 0 fun g t0=>Nf g 1 t0 H fun g t40=>Cb g .gtr t3 t40 (fun g=>Ly g E 0 fun g t0_1=>Nf g 0 t0_1 H fun g t45=>Nf g 1 t0_1 H fun g t49=>Ly g E 3 fun g t3_1=>B3 g ((Op.sliceStr [(some 0),(some 1)]) [t45,t49,t3_1]) fun g t51=>GO3 g (SEQ3 (W M c (x9 24)) Q) .ret ((2,t51)::E) D H) (fun g=>Gt g M c (x9 24) Q E D H)) /\
 (∀ Q E D H,W M c (x9 24) true Q E D H =
  Lz E 4 fun g t4=>Ly g E 0 fun g t0=>Nf g 1 t0 H fun g t56=>Cb g .gtr t4 t56 (fun g=>Ly g E 0 fun g t0_1=>Nf g 0 t0_1 H fun g t61=>Nf g 1 t0_1 H fun g t65=>Ly g E 4 fun g t4_1=>B3 g ((Op.sliceStr [(some 0),(some 1)]) [t61,t65,t4_1]) fun g t67=>GO3 g (SEQ3 (W M c (x9 32)) Q) .ret ((2,t67)::E) D H) (fun g=>Gt g M c (x9 32) Q E D H)) /\
 (∀ Q E D H,W M c (x9 32) true Q E D H =
  Lz E 0 fun g t0=>Nf g 1 t0 H fun g t71=>Bn g .add t71 (.int .i64 1) fun g t72=>Nf g 0 t0 H fun g t76=>B3 g (Op.lenStr [t76]) fun g t77=>Cb g .lss t72 t77 (fun g=>Ly g E 0 fun g t0_1=>Nf g 0 t0_1 H fun g t82=>Nf g 1 t0_1 H fun g t86=>Nf g 1 t0_1 H fun g t90=>Bn g .add t90 (.int .i64 2) fun g t91=>B3 g ((Op.sliceStr [(some 0),(some 1)]) [t82,t86,t91]) fun g t92=>W M c (x9 38) g (SEQ3 (W M c (x9 46)) Q) ((5,t92)::E) D H) (fun g=>Gt g M c (x9 46) Q E D H)) /\
 (∀ Q E D H,W M c (x9 46) true Q E D H =
  Lz E 0 fun g t0=>Nf g 0 t0 H fun g t111=>Nf g 1 t0 H fun g t115=>Nf g 1 t0 H fun g t119=>Bn g .add t119 (.int .i64 1) fun g t120=>B3 g ((Op.sliceStr [(some 0),(some 1)]) [t111,t115,t120]) fun g t121=>GO3 g Q .ret ((2,t121)::E) D H) /\
 (∀ Q E D H,W M c (x9 38) true Q E D H =
  Lz E 5 fun g t5=>Bn g .eql t5 (.str [61,61]) fun g t94=>JN (fun (k:Bool->AV->AV->AHeap->Prop)=>B3 g (wantV false (some t94)) fun g w=>IG3 g w (fun g=>Bn g .eql t5 (.str [33,61]) fun g t97=>k g t97 t5 H) (fun g=>k g uu uu H)) (fun g t97_1 t96_1 H1=>B3 g (Op.pick [t94,(.bool true),t97_1]) fun g t98=>JN (fun (k:Bool->AV->AV->AHeap->Prop)=>B3 g (wantV false (some t98)) fun g w=>IG3 g w (fun g=>Bn g .eql t5 (.str [60,60]) fun g t101=>k g t101 t5 H1) (fun g=>k g uu uu H1)) (fun g t101_1 t100_1 H2=>B3 g (Op.pick [t98,(.bool true),t101_1]) fun g t102=>JN (fun (k:Bool->AV->AV->AHeap->Prop)=>B3 g (wantV false (some t102)) fun g w=>IG3 g w (fun g=>Bn g .eql t5 (.str [62,62]) fun g t105=>k g t105 t5 H2) (fun g=>k g uu uu H2)) (fun g t105_1 t104_1 H3=>B3 g (Op.pick [t102,(.bool true),t105_1]) fun g t106=>IF3 g t106 (fun g=>Ly g E 5 fun g t5_1=>GO3 g Q .ret ((2,t5_1)::E) D H3) (fun g=>GO3 g Q .normal E D H3))))):=by (repeat' apply And.intro)<;>(intro _ _ _ _;refine W_unf ?_;kernel_rfl)
theorem qlo:(cProg Tryd.prog).func jg=some qd8/\qd8.results=[.tmp 2]:=zz (by kernel_rfl)
theorem qlp (h:W M ⟨none,jg⟩ (x9 0) true (FIN3 M [.tmp 2] Q) [(0,a0)] [] H):wu M jg [a0] H Q:=callf (by decide) qlo (ks:=qgy) (by kernel_rfl) h
def qbl:AFunc:=funcAt Tryd.prog qv
def qdr:Kp:=⟨[0,1,4,5,6,7,8,9,10,11,12,13,14,15],false,[0,4,20,42,48,52,54,66,70,84,100,112]⟩
def qk (k:Nat):Kp × ACode:=(qdr,part qbl.body k)
theorem zk (M:Mac) (c:Ctx):(∀ Q E D H,W M c (qk 0) true Q E D H =
 Lz E 1 fun g t1=>C3 M g (.func qad) [t1] H fun g t17 H1=>W M c (qk 4) g Q ((5,t17)::(4,(.int .i64 0))::E) D H1) /\
 (∀ Q E D H,W M c (qk 4) true Q E D H =
  Lz E 5 fun g t5=>Cb g .geq t5 (.int .i64 0) (fun g=>Ly g E 0 fun g t0=>Nf g 1 t0 H fun g t23=>Bn g .add t23 (.int .i64 1) fun g t24=>Ns g 1 t0 t24 H fun g u H1=>Ly g E 0 fun g t0_1=>C3 M g (.func xa) [t0_1,(.str [61])] H1 fun g t28 H2=>Ly g E 0 fun g t0_2=>C3 M g (.func xi) [t0_2] H2 fun g t30 H3=>Ly g E 0 fun g t0_3=>C3 M g (.func xa) [t0_3,(.str [59])] H3 fun g t32 H4=>Ly g E 0 fun g t0_4=>Ly g E 5 fun g t5_1=>B3 g ((Op.wrap .u64) [t5_1]) fun g t35=>B32 g ((Op.buildSlice T_int 1 [(.int .i64 0)] [(0,1)]) [t30]) fun g o5 k5=>C3 M g (.func xr) [t0_4,(.int .i64 14),t35,(k5 H4.next)] (H4.alloc o5) fun g t38 H6=>GO3 g (SEQ3 (W M c (qk 20)) Q) .ret ((4,t38)::(6,t30)::E) D H6) (fun g=>Gt g M c (qk 20) Q E D H)) /\
 (∀ Q E D H,W M c (qk 20) true Q E D H =
  Lz E 1 fun g t1=>Cb g .eql t1 (.str [115,116,111,114,101]) (fun g=>Ly g E 0 fun g t0=>Ly g E 1 fun g t1_1=>C3 M g (.func xa) [t0,t1_1] H fun g t43 H1=>Ly g E 0 fun g t0_1=>C3 M g (.func xa) [t0_1,(.str [40])] H1 fun g t45 H2=>Ly g E 0 fun g t0_2=>C3 M g (.func xi) [t0_2] H2 fun g t47 H3=>Ly g E 0 fun g t0_3=>C3 M g (.func xa) [t0_3,(.str [44])] H3 fun g t49 H4=>Ly g E 0 fun g t0_4=>C3 M g (.func xi) [t0_4] H4 fun g t51 H5=>Ly g E 0 fun g t0_5=>C3 M g (.func xa) [t0_5,(.str [41])] H5 fun g t53 H6=>Ly g E 0 fun g t0_6=>C3 M g (.func xa) [t0_6,(.str [59])] H6 fun g t55 H7=>Ly g E 0 fun g t0_7=>B32 g ((Op.buildSlice T_int 2 [(.int .i64 0)] [(0,1),(1,1)]) [t47,t51]) fun g o8 k8=>C3 M g (.func xr) [t0_7,(.int .i64 15),(.int .u64 0),(k8 H7.next)] (H7.alloc o8) fun g t60 H9=>GO3 g (SEQ3 (W M c (qk 42)) Q) .ret ((4,t60)::(8,t51)::(7,t47)::E) D H9) (fun g=>Gt g M c (qk 42) Q E D H)) /\
 (∀ Q E D H,W M c (qk 42) true Q E D H =
  Lz E 1 fun g t1=>Cb g .eql t1 (.str [105,102]) (fun g=>Ly g E 0 fun g t0=>Ly g E 1 fun g t1_1=>C3 M g (.func xa) [t0,t1_1] H fun g t65 H1=>W M c (qk 48) g (SEQ3 (W M c (qk 70)) Q) E D H1) (fun g=>Gt g M c (qk 70) Q E D H)) /\
 (∀ Q E D H,W M c (qk 70) true Q E D H =
  Lz E 1 fun g t1=>Cb g .eql t1 (.str [119,104,105,108,101]) (fun g=>Ly g E 0 fun g t0=>Ly g E 1 fun g t1_1=>C3 M g (.func xa) [t0,t1_1] H fun g t101 H1=>Ly g E 0 fun g t0_1=>C3 M g (.func x7) [t0_1] H1 fun g t103 H2=>Ly g E 0 fun g t0_2=>C3 M g (.func xq) [t0_2] H2 fun g t105 H3=>Ly g E 0 fun g t0_3=>B32 g ((Op.buildSlice T_int 2 [(.int .i64 0)] [(0,1),(1,1)]) [t103,t105]) fun g o4 k4=>C3 M g (.func xr) [t0_3,(.int .i64 17),(.int .u64 0),(k4 H3.next)] (H3.alloc o4) fun g t110 H5=>GO3 g (SEQ3 (W M c (qk 84)) Q) .ret ((4,t110)::(14,t105)::(13,t103)::E) D H5) (fun g=>Gt g M c (qk 84) Q E D H)) /\
 (∀ Q E D H,W M c (qk 48) true Q E D H =
  Lz E 0 fun g t0=>C3 M g (.func x7) [t0] H fun g t67 H1=>Ly g E 0 fun g t0_1=>C3 M g (.func xq) [t0_1] H1 fun g t69 H2=>W M c (qk 52) g Q ((10,t69)::(9,t67)::E) D H2) /\
 (∀ Q E D H,W M c (qk 84) true Q E D H =
  Lz E 1 fun g t1=>Bn g .eql t1 (.str [97,116,111,109,105,99]) fun g t112=>JN (fun (k:Bool->AV->AV->AV->AV->AV->AHeap->Prop)=>B3 g (wantV true (some t112)) fun g w=>IG3 g w (fun g=>Ly g E 0 fun g t0=>B3 g (Op.nilCheck [t0]) fun g t115=>B3 g ((Op.fieldAddr 4) [t115]) fun g t116=>B3 g (Op.load1 [t116] H) fun g t117=>B3 g ((Op.un .not) [t117]) fun g t118=>k g t118 t117 t116 t115 t0 H) (fun g=>k g uu uu uu uu uu H)) (fun g t118_1 t117_1 t116_1 t115_1 t114_1 H1=>B3 g (Op.pick [t112,t118_1,(.bool false)]) fun g t119=>IF3 g t119 (fun g=>Ly g E 0 fun g t0_1=>Ly g E 1 fun g t1_1=>C3 M g (.func xa) [t0_1,t1_1] H1 fun g t122 H2=>Ly g E 0 fun g t0_2=>Ns g 4 t0_2 (.bool true) H2 fun g u H3=>Ly g E 0 fun g t0_3=>C3 M g (.func xq) [t0_3] H3 fun g t127 H4=>Ly g E 0 fun g t0_4=>Ns g 4 t0_4 (.bool false) H4 fun g u_1 H5=>Ly g E 0 fun g t0_5=>B32 g ((Op.buildSlice T_int 1 [(.int .i64 0)] [(0,1)]) [t127]) fun g o6 k6=>C3 M g (.func xr) [t0_5,(.int .i64 18),(.int .u64 0),(k6 H5.next)] (H5.alloc o6) fun g t134 H7=>GO3 g (SEQ3 (W M c (qk 100)) Q) .ret ((4,t134)::(15,t127)::E) D H7) (fun g=>Gt g M c (qk 100) Q E D H1))) /\
 (∀ Q E D H,W M c (qk 52) true Q E D H =
  Lz E 0 fun g t0=>C3 M g (.func jg) [t0] H fun g t71 H1=>W M c (qk 54) g Q ((11,t71)::E) D H1) /\
 (∀ Q E D H,W M c (qk 100) true Q E D H =
  Lz E 1 fun g t1=>Cb g .eql t1 (.str [104,97,108,116]) (fun g=>Ly g E 0 fun g t0=>Ly g E 1 fun g t1_1=>C3 M g (.func xa) [t0,t1_1] H fun g t139 H1=>Ly g E 0 fun g t0_1=>C3 M g (.func xa) [t0_1,(.str [59])] H1 fun g t141 H2=>Ly g E 0 fun g t0_2=>C3 M g (.func xr) [t0_2,(.int .i64 19),(.int .u64 0),.nils] H2 fun g t143 H3=>GO3 g (SEQ3 (W M c (qk 112)) Q) .ret ((4,t143)::E) D H3) (fun g=>Gt g M c (qk 112) Q E D H)) /\
 (∀ Q E D H,W M c (qk 54) true Q E D H =
  Lz E 0 fun g t0=>Nf g 5 t0 H fun g t75=>B3 g ((Op.un .not) [t75]) fun g t76=>JN (fun (k:Bool->AV->AV->AHeap->Prop)=>B3 g (wantV true (some t76)) fun g w=>IG3 g w (fun g=>Ly g E 11 fun g t11=>Bn g .eql t11 (.str [101,108,115,101]) fun g t79=>k g t79 t11 H) (fun g=>k g uu uu H)) (fun g t79_1 t78_1 H1=>B3 g (Op.pick [t76,t79_1,(.bool false)]) fun g t80=>IF3 g t80 (fun g=>Ly g E 0 fun g t0_1=>Ly g E 11 fun g t11_1=>C3 M g (.func xa) [t0_1,t11_1] H1 fun g t83 H2=>Ly g E 0 fun g t0_2=>C3 M g (.func xq) [t0_2] H2 fun g t85 H3=>Ly g E 0 fun g t0_3=>Ly g E 9 fun g t9=>Ly g E 10 fun g t10=>B32 g ((Op.buildSlice T_int 3 [(.int .i64 0)] [(0,1),(1,1),(2,1)]) [t9,t10,t85]) fun g o4 k4=>C3 M g (.func xr) [t0_3,(.int .i64 16),(.int .u64 0),(k4 H3.next)] (H3.alloc o4) fun g t91 H5=>GO3 g (SEQ3 (W M c (qk 66)) Q) .ret ((4,t91)::(12,t85)::E) D H5) (fun g=>Gt g M c (qk 66) Q E D H1))) /\
 (∀ Q E D H,W M c (qk 112) true Q E D H =
  Lz E 0 fun g t0=>Ns g 5 t0 (.bool true) H fun g u H1=>GO3 g Q .ret ((4,(.int .i64 0))::E) D H1) /\
 (∀ Q E D H,W M c (qk 66) true Q E D H =
  Lz E 0 fun g t0=>Ly g E 9 fun g t9=>Ly g E 10 fun g t10=>B32 g ((Op.buildSlice T_int 2 [(.int .i64 0)] [(0,1),(1,1)]) [t9,t10]) fun g o1 k1=>C3 M g (.func xr) [t0,(.int .i64 16),(.int .u64 0),(k1 H.next)] (H.alloc o1) fun g t96 H2=>GO3 g Q .ret ((4,t96)::E) D H2):=by (repeat' apply And.intro)<;>(intro _ _ _ _;refine W_unf ?_;kernel_rfl)
theorem qhk:(cProg Tryd.prog).func qv=some qbl/\qbl.results=[.tmp 4]:=zz (by kernel_rfl)
theorem qds (h:W M ⟨none,qv⟩ (qk 0) true (FIN3 M [.tmp 4] Q) [(0,a0),(1,a1)] [] H):wu M qv [a0,a1] H Q:=callf (by decide) qhk (ks:=qdr) (by kernel_rfl) h
def qdh:AFunc:=funcAt Tryd.prog xr
def qf9:Kp:=⟨[0,1,2,3,8],false,[0]⟩
def qga (k:Nat):Kp × ACode:=(qf9,part qdh.body k)
theorem qj3 (M:Mac) (c:Ctx):(∀ Q E D H,W M c (qga 0) true Q E D H =
 Lz E 0 fun g t0=>Nf g 2 t0 H fun g t13=>Ly g E 1 fun g t1=>Ly g E 2 fun g t2=>Ly g E 3 fun g t3=>B3 g ((Op.build [(.int .i64 0),(.int .u64 0),.nils] [(0,1),(1,1),(2,1)]) [t1,t2,t3]) fun g t17=>B32 g ((Op.buildSlice qdn 1 [(.int .i64 0),(.int .u64 0),.nils] [(0,3)]) [t17]) fun g o1 k1=>B32 g ((Op.append qdn 3 40) [t13,(k1 H.next)] (H.alloc o1)) fun g t19 H2=>Ns g 2 t0 t19 H2 fun g u H3=>Ly g E 0 fun g t0_1=>Nf g 2 t0_1 H3 fun g t25=>B3 g (Op.lenSl [t25]) fun g t26=>Bn g .sub t26 (.int .i64 1) fun g t27=>GO3 g Q .ret ((8,t27)::(8,(.int .i64 0))::E) D H3):=by intro _ _ _ _;refine W_unf ?_;kernel_rfl
theorem qj1:(cProg Tryd.prog).func xr=some qdh/\qdh.results=[.tmp 8]:=zz (by kernel_rfl)
theorem qj2 (h:W M ⟨none,xr⟩ (qga 0) true (FIN3 M [.tmp 8] Q) [(0,a0),(1,a1),(2,a2),(3,a3)] [] H):wu M xr [a0,a1,a2,a3] H Q:=callf (by decide) qj1 (ks:=qf9) (by kernel_rfl) h
def qdi:AFunc:=funcAt Tryd.prog yp
def qgb:Kp:=⟨[0,2],false,[0,2,8,16,22,24]⟩
def z5 (k:Nat):Kp × ACode:=(qgb,part qdi.body k)
theorem qj6 (M:Mac) (c:Ctx):(∀ Q E D H,W M c (z5 0) true Q E D H =
 LOOP3 (W M c (z5 2)) (BLK3 0 Q) E D H) /\
 (∀ Q E D H,W M c (z5 2) true Q E D H =
  Lz E 0 fun g t0=>Nf g 1 t0 H fun g t6=>Nf g 0 t0 H fun g t10=>B3 g (Op.lenStr [t10]) fun g t11=>Cb g .lss t6 t11 (fun g=>Gt g M c (z5 8) Q E D H) (fun g=>GO3 g (SEQ3 (W M c (z5 8)) Q) (.exit 0) E D H)) /\
 (∀ Q E D H,W M c (z5 8) true Q E D H =
  Lz E 0 fun g t0=>Nf g 0 t0 H fun g t16=>Nf g 1 t0 H fun g t20=>B3 g (Op.indexStr [t16,t20]) fun g t21=>Cb g .eql t21 (.int .u8 35) (fun g=>LOOP3 (W M c (z5 16)) (BLK3 2 (BLK3 1 Q)) ((2,t21)::E) D H) (fun g=>W M c (z5 24) g (BLK3 1 Q) ((2,t21)::E) D H)) /\
 (∀ Q E D H,W M c (z5 16) true Q E D H =
  Lz E 0 fun g t0=>Nf g 1 t0 H fun g t27=>Nf g 0 t0 H fun g t31=>B3 g (Op.lenStr [t31]) fun g t32=>Bn g .lss t27 t32 fun g t33=>JN (fun (k:Bool->AV->AV->AV->AV->AV->AV->AV->AV->AV->AV->AHeap->Prop)=>B3 g (wantV true (some t33)) fun g w=>IG3 g w (fun g=>B3 g (Op.nilCheck [t0]) fun g t36=>B3 g ((Op.fieldAddr 0) [t36]) fun g t37=>B3 g (Op.load1 [t37] H) fun g t38=>B3 g (Op.nilCheck [t0]) fun g t40=>B3 g ((Op.fieldAddr 1) [t40]) fun g t41=>B3 g (Op.load1 [t41] H) fun g t42=>B3 g (Op.indexStr [t38,t42]) fun g t43=>Bn g .neq t43 (.int .u8 10) fun g t44=>k g t44 t43 t42 t41 t40 t0 t38 t37 t36 t0 H) (fun g=>k g uu uu uu uu uu uu uu uu uu uu H)) (fun g t44_1 t43_1 t42_1 t41_1 t40_1 t39_1 t38_1 t37_1 t36_1 t35_1 H1=>B3 g (Op.pick [t33,t44_1,(.bool false)]) fun g t45=>IF3 g t45 (fun g=>Gt g M c (z5 22) Q E D H1) (fun g=>GO3 g (SEQ3 (W M c (z5 22)) Q) (.exit 2) E D H1))) /\
 (∀ Q E D H,W M c (z5 24) true Q E D H =
  Lz E 2 fun g t2=>Bn g .eql t2 (.int .u8 32) fun g t54=>JN (fun (k:Bool->AV->AV->AHeap->Prop)=>B3 g (wantV false (some t54)) fun g w=>IG3 g w (fun g=>Bn g .eql t2 (.int .u8 9) fun g t57=>k g t57 t2 H) (fun g=>k g uu uu H)) (fun g t57_1 t56_1 H1=>B3 g (Op.pick [t54,(.bool true),t57_1]) fun g t58=>JN (fun (k:Bool->AV->AV->AHeap->Prop)=>B3 g (wantV false (some t58)) fun g w=>IG3 g w (fun g=>Bn g .eql t2 (.int .u8 10) fun g t61=>k g t61 t2 H1) (fun g=>k g uu uu H1)) (fun g t61_1 t60_1 H2=>B3 g (Op.pick [t58,(.bool true),t61_1]) fun g t62=>IF3 g t62 (fun g=>Ly g E 0 fun g t0=>Nf g 1 t0 H2 fun g t66=>Bn g .add t66 (.int .i64 1) fun g t67=>Ns g 1 t0 t67 H2 fun g u H3=>GO3 g Q .normal E D H3) (fun g=>GO3 g Q .ret E D H2)))) /\
 (∀ Q E D H,W M c (z5 22) true Q E D H =
  Lz E 0 fun g t0=>Nf g 1 t0 H fun g t49=>Bn g .add t49 (.int .i64 1) fun g t50=>Ns g 1 t0 t50 H fun g u H1=>GO3 g (BLK3 3 Q) .normal E D H1):=by (repeat' apply And.intro)<;>(intro _ _ _ _;refine W_unf ?_;kernel_rfl)
theorem qj4:(cProg Tryd.prog).func yp=some qdi/\qdi.results=[]:=zz (by kernel_rfl)
theorem qj5 (h:W M ⟨none,yp⟩ (z5 0) true (FIN3 M [] Q) [(0,a0)] [] H):wu M yp [a0] H Q:=callf (by decide) qj4 (ks:=qgb) (by kernel_rfl) h
def qka:AFunc:=funcAt Tryd.prog qcd
def qpl:Kp:=⟨[0,1,2,3,8,9],false,[0,4,7,13,15]⟩
def qaw (k:Nat):Kp × ACode:=(qpl,part qka.body k)
theorem qvh (M:Mac) (c:Ctx):(∀ Q E D H,W M c (qaw 0) true Q E D H =
 Lz E 1 fun g t1=>W M c (qaw 4) g Q ((9,t1)::(8,(.int .i64 0))::E) D H) /\
 (∀ Q E D H,W M c (qaw 4) true Q E D H =
  LOOP3 (W M c (qaw 7)) (BLK3 0 (SEQ3 (W M c (qaw 15)) Q)) E D H) /\
 (∀ Q E D H,W M c (qaw 15) true Q E D H =
  Lz E 9 fun g t9=>GO3 g Q .ret ((8,t9)::E) D H) /\
 (∀ Q E D H,W M c (qaw 7) true Q E D H =
  Lz E 9 fun g t9=>Ly g E 0 fun g t0=>B3 g (Op.lenStr [t0]) fun g t13=>Bn g .lss t9 t13 fun g t14=>JN (fun (k:Bool->AV->AV->AV->AV->AV->AHeap->Prop)=>B3 g (wantV true (some t14)) fun g w=>IG3 g w (fun g=>B3 g (Op.indexStr [t0,t9]) fun g t18=>Ly g E 2 fun g t2=>Bn g .geq t18 t2 fun g t20=>k g t20 t2 t18 t9 t0 H) (fun g=>k g uu uu uu uu uu H)) (fun g t20_1 t19_1 t18_1 t17_1 t16_1 H1=>B3 g (Op.pick [t14,t20_1,(.bool false)]) fun g t21=>JN (fun (k:Bool->AV->AV->AV->AV->AV->AHeap->Prop)=>B3 g (wantV true (some t21)) fun g w=>IG3 g w (fun g=>B3 g (Op.indexStr [t0,t9]) fun g t25=>Ly g E 3 fun g t3=>Bn g .leq t25 t3 fun g t27=>k g t27 t3 t25 t9 t0 H1) (fun g=>k g uu uu uu uu uu H1)) (fun g t27_1 t26_1 t25_1 t24_1 t23_1 H2=>B3 g (Op.pick [t21,t27_1,(.bool false)]) fun g t28=>IF3 g t28 (fun g=>Gt g M c (qaw 13) Q E D H2) (fun g=>GO3 g (SEQ3 (W M c (qaw 13)) Q) (.exit 0) E D H2)))) /\
 (∀ Q E D H,W M c (qaw 13) true Q E D H =
  Lz E 9 fun g t9=>Bn g .add t9 (.int .i64 1) fun g t30=>GO3 g (BLK3 1 Q) .normal ((9,t30)::E) D H):=by (repeat' apply And.intro)<;>(intro _ _ _ _;refine W_unf ?_;kernel_rfl)
theorem qvf:(cProg Tryd.prog).func qcd=some qka/\qka.results=[.tmp 8]:=zz (by kernel_rfl)
theorem qvg (h:W M ⟨none,qcd⟩ (qaw 0) true (FIN3 M [.tmp 8] Q) [(0,a0),(1,a1),(2,a2),(3,a3)] [] H):wu M qcd [a0,a1,a2,a3] H Q:=callf (by decide) qvf (ks:=qpl) (by kernel_rfl) h
def qe6:AFunc:=funcAt Tryd.prog qad
def qib:Kp:=⟨[0,2],false,[0,2,10]⟩
def qaf (k:Nat):Kp × ACode:=(qib,part qe6.body k)
theorem qb3 (M:Mac) (c:Ctx):(∀ Q E D H,W M c (qaf 0) true Q E D H =
 W M c (qaf 2) true Q ((2,(.int .i64 0))::E) D H) /\
 (∀ Q E D H,W M c (qaf 2) true Q E D H =
  Lz E 0 fun g t0=>B3 g (Op.lenStr [t0]) fun g t4=>Bn g .eql t4 (.int .i64 1) fun g t5=>JN (fun (k:Bool->AV->AV->AV->AHeap->Prop)=>B3 g (wantV true (some t5)) fun g w=>IG3 g w (fun g=>B3 g (Op.indexStr [t0,(.int .i64 0)]) fun g t8=>Bn g .geq t8 (.int .u8 97) fun g t9=>k g t9 t8 t0 H) (fun g=>k g uu uu uu H)) (fun g t9_1 t8_1 t7_1 H1=>B3 g (Op.pick [t5,t9_1,(.bool false)]) fun g t10=>JN (fun (k:Bool->AV->AV->AV->AHeap->Prop)=>B3 g (wantV true (some t10)) fun g w=>IG3 g w (fun g=>B3 g (Op.indexStr [t0,(.int .i64 0)]) fun g t13=>Bn g .leq t13 (.int .u8 104) fun g t14=>k g t14 t13 t0 H1) (fun g=>k g uu uu uu H1)) (fun g t14_1 t13_1 t12_1 H2=>B3 g (Op.pick [t10,t14_1,(.bool false)]) fun g t15=>IF3 g t15 (fun g=>Ly g E 0 fun g t0_1=>B3 g (Op.indexStr [t0_1,(.int .i64 0)]) fun g t17=>Bn g .sub t17 (.int .u8 97) fun g t18=>B3 g ((Op.wrap .i64) [t18]) fun g t19=>GO3 g (SEQ3 (W M c (qaf 10)) Q) .ret ((2,t19)::E) D H2) (fun g=>Gt g M c (qaf 10) Q E D H2)))) /\
 (∀ Q E D H,W M c (qaf 10) true Q E D H =
  GO3 true Q .ret ((2,(.int .i64 (-1)))::E) D H):=by (repeat' apply And.intro)<;>(intro _ _ _ _;refine W_unf ?_;kernel_rfl)
theorem qne:(cProg Tryd.prog).func qad=some qe6/\qe6.results=[.tmp 2]:=zz (by kernel_rfl)
theorem qnf (h:W M ⟨none,qad⟩ (qaf 0) true (FIN3 M [.tmp 2] Q) [(0,a0)] [] H):wu M qad [a0] H Q:=callf (by decide) qne (ks:=qib) (by kernel_rfl) h
def qdj:AFunc:=funcAt Tryd.prog xa
def qgc:Kp:=⟨[0,1,4],false,[0,2,10,14,22,24,30]⟩
def x8 (k:Nat):Kp × ACode:=(qgc,part qdj.body k)
theorem qj9 (M:Mac) (c:Ctx):(∀ Q E D H,W M c (x8 0) true Q E D H =
 Lz E 0 fun g t0=>C3 M g (.func jg) [t0] H fun g t6 H1=>W M c (x8 2) g Q ((4,t6)::E) D H1) /\
 (∀ Q E D H,W M c (x8 2) true Q E D H =
  Lz E 0 fun g t0=>Nf g 5 t0 H fun g t10=>JN (fun (k:Bool->AV->AV->AV->AHeap->Prop)=>B3 g (wantV false (some t10)) fun g w=>IG3 g w (fun g=>Ly g E 4 fun g t4=>Ly g E 1 fun g t1=>Bn g .neq t4 t1 fun g t14=>k g t14 t1 t4 H) (fun g=>k g uu uu uu H)) (fun g t14_1 t13_1 t12_1 H1=>B3 g (Op.pick [t10,(.bool true),t14_1]) fun g t15=>IF3 g t15 (fun g=>Ly g E 0 fun g t0_1=>Ns g 5 t0_1 (.bool true) H1 fun g u H2=>GO3 g (SEQ3 (W M c (x8 10)) Q) .ret E D H2) (fun g=>Gt g M c (x8 10) Q E D H1))) /\
 (∀ Q E D H,W M c (x8 10) true Q E D H =
  Lz E 1 fun g t1=>Bn g .eql t1 (.str [40]) fun g t20=>JN (fun (k:Bool->AV->AV->AHeap->Prop)=>B3 g (wantV false (some t20)) fun g w=>IG3 g w (fun g=>Bn g .eql t1 (.str [123]) fun g t23=>k g t23 t1 H) (fun g=>k g uu uu H)) (fun g t23_1 t22_1 H1=>B3 g (Op.pick [t20,(.bool true),t23_1]) fun g t24=>IF3 g t24 (fun g=>W M c (x8 14) g (SEQ3 (W M c (x8 24)) Q) E D H1) (fun g=>Gt g M c (x8 24) Q E D H1))) /\
 (∀ Q E D H,W M c (x8 24) true Q E D H =
  Lz E 1 fun g t1=>Bn g .eql t1 (.str [41]) fun g t41=>JN (fun (k:Bool->AV->AV->AHeap->Prop)=>B3 g (wantV false (some t41)) fun g w=>IG3 g w (fun g=>Bn g .eql t1 (.str [125]) fun g t44=>k g t44 t1 H) (fun g=>k g uu uu H)) (fun g t44_1 t43_1 H1=>B3 g (Op.pick [t41,(.bool true),t44_1]) fun g t45=>IF3 g t45 (fun g=>Ly g E 0 fun g t0=>Nf g 3 t0 H1 fun g t49=>Bn g .sub t49 (.int .i64 1) fun g t50=>Ns g 3 t0 t50 H1 fun g u H2=>Gt g M c (x8 30) Q E D H2) (fun g=>Gt g M c (x8 30) Q E D H1))) /\
 (∀ Q E D H,W M c (x8 14) true Q E D H =
  Lz E 0 fun g t0=>Nf g 3 t0 H fun g t28=>Cb g .eql t28 (.int .i64 50) (fun g=>Ly g E 0 fun g t0_1=>Ns g 5 t0_1 (.bool true) H fun g u H1=>GO3 g (SEQ3 (W M c (x8 22)) Q) .ret E D H1) (fun g=>Gt g M c (x8 22) Q E D H)) /\
 (∀ Q E D H,W M c (x8 30) true Q E D H =
  Lz E 0 fun g t0=>Nf g 1 t0 H fun g t57=>Ly g E 1 fun g t1=>B3 g (Op.lenStr [t1]) fun g t59=>Bn g .add t57 t59 fun g t60=>Ns g 1 t0 t60 H fun g u H1=>GO3 g Q .normal E D H1) /\
 (∀ Q E D H,W M c (x8 22) true Q E D H =
  Lz E 0 fun g t0=>Nf g 3 t0 H fun g t36=>Bn g .add t36 (.int .i64 1) fun g t37=>Ns g 3 t0 t37 H fun g u H1=>GO3 g Q .normal E D H1):=by (repeat' apply And.intro)<;>(intro _ _ _ _;refine W_unf ?_;kernel_rfl)
theorem qj7:(cProg Tryd.prog).func xa=some qdj/\qdj.results=[]:=zz (by kernel_rfl)
theorem qj8 (h:W M ⟨none,xa⟩ (x8 0) true (FIN3 M [] Q) [(0,a0),(1,a1)] [] H):wu M xa [a0,a1] H Q:=callf (by decide) qj7 (ks:=qgc) (by kernel_rfl) h
def qd9:AFunc:=funcAt Tryd.prog xi
def qgz:Kp:=⟨[0,2,3,4,5,6],false,[0,4,7,13,18,24,29]⟩
def zg (k:Nat):Kp × ACode:=(qgz,part qd9.body k)
theorem qcc (M:Mac) (c:Ctx):(∀ Q E D H,W M c (zg 0) true Q E D H =
 Lz E 0 fun g t0=>C3 M g (.func xx) [t0] H fun g t8 H1=>W M c (zg 4) g Q ((3,t8)::(2,(.int .i64 0))::E) D H1) /\
 (∀ Q E D H,W M c (zg 4) true Q E D H =
  LOOP3 (W M c (zg 7)) (BLK3 0 (SEQ3 (W M c (zg 29)) Q)) E D H) /\
 (∀ Q E D H,W M c (zg 29) true Q E D H =
  Lz E 3 fun g t3=>GO3 g Q .ret ((2,t3)::E) D H) /\
 (∀ Q E D H,W M c (zg 7) true Q E D H =
  Lz E 0 fun g t0=>Nf g 5 t0 H fun g t12=>B3 g ((Op.un .not) [t12]) fun g t13=>IF3 g t13 (fun g=>Gt g M c (zg 13) Q E D H) (fun g=>GO3 g (SEQ3 (W M c (zg 13)) Q) (.exit 0) E D H)) /\
 (∀ Q E D H,W M c (zg 13) true Q E D H =
  Lz E 0 fun g t0=>C3 M g (.func jg) [t0] H fun g t15 H1=>C3 M g (.func qbb) [t15,(.int .i64 1)] H1 fun g t17 H2=>W M c (zg 18) g (BLK3 1 Q) ((5,t17)::(4,t15)::E) D H2) /\
 (∀ Q E D H,W M c (zg 18) true Q E D H =
  Lz E 5 fun g t5=>Cb g .eql t5 (.int .i64 0) (fun g=>GO3 g (SEQ3 (W M c (zg 24)) Q) (.exit 0) E D H) (fun g=>Gt g M c (zg 24) Q E D H)) /\
 (∀ Q E D H,W M c (zg 24) true Q E D H =
  Lz E 0 fun g t0=>Nf g 1 t0 H fun g t23=>Bn g .add t23 (.int .i64 1) fun g t24=>Ns g 1 t0 t24 H fun g u H1=>Ly g E 0 fun g t0_1=>C3 M g (.func xx) [t0_1] H1 fun g t28 H2=>Ly g E 0 fun g t0_2=>Ly g E 5 fun g t5=>Ly g E 3 fun g t3=>B32 g ((Op.buildSlice T_int 2 [(.int .i64 0)] [(0,1),(1,1)]) [t3,t28]) fun g o3 k3=>C3 M g (.func xr) [t0_2,t5,(.int .u64 0),(k3 H2.next)] (H2.alloc o3) fun g t34 H4=>GO3 g Q .normal ((3,t34)::(6,t28)::E) D H4):=by (repeat' apply And.intro)<;>(intro _ _ _ _;refine W_unf ?_;kernel_rfl)
theorem qlr:(cProg Tryd.prog).func xi=some qd9/\qd9.results=[.tmp 2]:=zz (by kernel_rfl)
theorem qls (h:W M ⟨none,xi⟩ (zg 0) true (FIN3 M [.tmp 2] Q) [(0,a0)] [] H):wu M xi [a0] H Q:=callf (by decide) qlr (ks:=qgz) (by kernel_rfl) h
def qde:AFunc:=funcAt Tryd.prog x7
def qf6:Kp:=⟨[0,2,3,4,5,6,7],false,[0,4,8,10,16,22,28,38]⟩
def xn (k:Nat):Kp × ACode:=(qf6,part qde.body k)
theorem qdf (M:Mac) (c:Ctx):(∀ Q E D H,W M c (xn 0) true Q E D H =
 Lz E 0 fun g t0=>C3 M g (.func xa) [t0,(.str [40])] H fun g t9 H1=>W M c (xn 4) g Q ((2,(.int .i64 0))::E) D H1) /\
 (∀ Q E D H,W M c (xn 4) true Q E D H =
  Lz E 0 fun g t0=>C3 M g (.func xi) [t0] H fun g t11 H1=>Ly g E 0 fun g t0_1=>C3 M g (.func jg) [t0_1] H1 fun g t13 H2=>W M c (xn 8) g Q ((4,t13)::(3,t11)::E) D H2) /\
 (∀ Q E D H,W M c (xn 8) true Q E D H =
  W M c (xn 10) true Q ((5,(.int .i64 0))::E) D H) /\
 (∀ Q E D H,W M c (xn 10) true Q E D H =
  Lz E 4 fun g t4=>Cb g .eql t4 (.str [61,61]) (fun g=>Gt g M c (xn 16) Q ((5,(.int .i64 11))::E) D H) (fun g=>Gt g M c (xn 16) Q E D H)) /\
 (∀ Q E D H,W M c (xn 16) true Q E D H =
  Lz E 4 fun g t4=>Cb g .eql t4 (.str [33,61]) (fun g=>Gt g M c (xn 22) Q ((5,(.int .i64 12))::E) D H) (fun g=>Gt g M c (xn 22) Q E D H)) /\
 (∀ Q E D H,W M c (xn 22) true Q E D H =
  Lz E 4 fun g t4=>Cb g .eql t4 (.str [60]) (fun g=>Gt g M c (xn 28) Q ((5,(.int .i64 13))::E) D H) (fun g=>Gt g M c (xn 28) Q E D H)) /\
 (∀ Q E D H,W M c (xn 28) true Q E D H =
  Lz E 0 fun g t0=>Nf g 5 t0 H fun g t23=>JN (fun (k:Bool->AV->AV->AHeap->Prop)=>B3 g (wantV false (some t23)) fun g w=>IG3 g w (fun g=>Ly g E 5 fun g t5=>Bn g .eql t5 (.int .i64 0) fun g t26=>k g t26 t5 H) (fun g=>k g uu uu H)) (fun g t26_1 t25_1 H1=>B3 g (Op.pick [t23,(.bool true),t26_1]) fun g t27=>IF3 g t27 (fun g=>Ly g E 0 fun g t0_1=>Ns g 5 t0_1 (.bool true) H1 fun g u H2=>GO3 g (SEQ3 (W M c (xn 38)) Q) .ret ((2,(.int .i64 0))::E) D H2) (fun g=>Gt g M c (xn 38) Q E D H1))) /\
 (∀ Q E D H,W M c (xn 38) true Q E D H =
  Lz E 0 fun g t0=>Nf g 1 t0 H fun g t35=>Ly g E 4 fun g t4=>B3 g (Op.lenStr [t4]) fun g t37=>Bn g .add t35 t37 fun g t38=>Ns g 1 t0 t38 H fun g u H1=>Ly g E 0 fun g t0_1=>C3 M g (.func xi) [t0_1] H1 fun g t42 H2=>Ly g E 0 fun g t0_2=>Ly g E 5 fun g t5=>Ly g E 3 fun g t3=>B32 g ((Op.buildSlice T_int 2 [(.int .i64 0)] [(0,1),(1,1)]) [t3,t42]) fun g o3 k3=>C3 M g (.func xr) [t0_2,t5,(.int .u64 0),(k3 H2.next)] (H2.alloc o3) fun g t48 H4=>Ly g E 0 fun g t0_3=>C3 M g (.func xa) [t0_3,(.str [41])] H4 fun g t50 H5=>GO3 g Q .ret ((2,t48)::(7,t48)::(6,t42)::E) D H5):=by (repeat' apply And.intro)<;>(intro _ _ _ _;refine W_unf ?_;kernel_rfl)
theorem qjy:(cProg Tryd.prog).func x7=some qde/\qde.results=[.tmp 2]:=zz (by kernel_rfl)
theorem qf7 (h:W M ⟨none,x7⟩ (xn 0) true (FIN3 M [.tmp 2] Q) [(0,a0)] [] H):wu M x7 [a0] H Q:=callf (by decide) qjy (ks:=qf6) (by kernel_rfl) h
def qcy:AFunc:=funcAt Tryd.prog xq
def qfb:Kp:=⟨[0,2,3],false,[0,4,12]⟩
def yi (k:Nat):Kp × ACode:=(qfb,part qcy.body k)
theorem qfd (M:Mac) (c:Ctx):(∀ Q E D H,W M c (yi 0) true Q E D H =
 Lz E 0 fun g t0=>C3 M g (.func xa) [t0,(.str [123])] H fun g t5 H1=>W M c (yi 4) g Q ((2,(.int .i64 0))::E) D H1) /\
 (∀ Q E D H,W M c (yi 4) true Q E D H =
  Lz E 0 fun g t0=>Nf g 5 t0 H fun g t9=>IF3 g t9 (fun g=>GO3 g (SEQ3 (W M c (yi 12)) Q) .ret ((2,(.int .i64 0))::E) D H) (fun g=>Gt g M c (yi 12) Q E D H)) /\
 (∀ Q E D H,W M c (yi 12) true Q E D H =
  Lz E 0 fun g t0=>C3 M g (.func z4) [t0,(.str [125])] H fun g t11 H1=>Ly g E 0 fun g t0_1=>C3 M g (.func xa) [t0_1,(.str [125])] H1 fun g t13 H2=>GO3 g Q .ret ((2,t11)::(3,t11)::E) D H2):=by (repeat' apply And.intro)<;>(intro _ _ _ _;refine W_unf ?_;kernel_rfl)
theorem qje:(cProg Tryd.prog).func xq=some qcy/\qcy.results=[.tmp 2]:=zz (by kernel_rfl)
theorem qfc (h:W M ⟨none,xq⟩ (yi 0) true (FIN3 M [.tmp 2] Q) [(0,a0)] [] H):wu M xq [a0] H Q:=callf (by decide) qje (ks:=qfb) (by kernel_rfl) h
def qb5:AFunc:=funcAt Tryd.prog xx
def qeh:Kp:=⟨[0,2,3,4,5,6],false,[0,4,7,13,18,24,29]⟩
def xo (k:Nat):Kp × ACode:=(qeh,part qb5.body k)
theorem qaz (M:Mac) (c:Ctx):(∀ Q E D H,W M c (xo 0) true Q E D H =
 Lz E 0 fun g t0=>C3 M g (.func xf) [t0] H fun g t8 H1=>W M c (xo 4) g Q ((3,t8)::(2,(.int .i64 0))::E) D H1) /\
 (∀ Q E D H,W M c (xo 4) true Q E D H =
  LOOP3 (W M c (xo 7)) (BLK3 0 (SEQ3 (W M c (xo 29)) Q)) E D H) /\
 (∀ Q E D H,W M c (xo 29) true Q E D H =
  Lz E 3 fun g t3=>GO3 g Q .ret ((2,t3)::E) D H) /\
 (∀ Q E D H,W M c (xo 7) true Q E D H =
  Lz E 0 fun g t0=>Nf g 5 t0 H fun g t12=>B3 g ((Op.un .not) [t12]) fun g t13=>IF3 g t13 (fun g=>Gt g M c (xo 13) Q E D H) (fun g=>GO3 g (SEQ3 (W M c (xo 13)) Q) (.exit 0) E D H)) /\
 (∀ Q E D H,W M c (xo 13) true Q E D H =
  Lz E 0 fun g t0=>C3 M g (.func jg) [t0] H fun g t15 H1=>C3 M g (.func qbb) [t15,(.int .i64 2)] H1 fun g t17 H2=>W M c (xo 18) g (BLK3 1 Q) ((5,t17)::(4,t15)::E) D H2) /\
 (∀ Q E D H,W M c (xo 18) true Q E D H =
  Lz E 5 fun g t5=>Cb g .eql t5 (.int .i64 0) (fun g=>GO3 g (SEQ3 (W M c (xo 24)) Q) (.exit 0) E D H) (fun g=>Gt g M c (xo 24) Q E D H)) /\
 (∀ Q E D H,W M c (xo 24) true Q E D H =
  Lz E 0 fun g t0=>Nf g 1 t0 H fun g t24=>Ly g E 4 fun g t4=>B3 g (Op.lenStr [t4]) fun g t26=>Bn g .add t24 t26 fun g t27=>Ns g 1 t0 t27 H fun g u H1=>Ly g E 0 fun g t0_1=>C3 M g (.func xf) [t0_1] H1 fun g t31 H2=>Ly g E 0 fun g t0_2=>Ly g E 5 fun g t5=>Ly g E 3 fun g t3=>B32 g ((Op.buildSlice T_int 2 [(.int .i64 0)] [(0,1),(1,1)]) [t3,t31]) fun g o3 k3=>C3 M g (.func xr) [t0_2,t5,(.int .u64 0),(k3 H2.next)] (H2.alloc o3) fun g t37 H4=>GO3 g Q .normal ((3,t37)::(6,t31)::E) D H4):=by (repeat' apply And.intro)<;>(intro _ _ _ _;refine W_unf ?_;kernel_rfl)
theorem qif:(cProg Tryd.prog).func xx=some qb5/\qb5.results=[.tmp 2]:=zz (by kernel_rfl)
theorem qig (h:W M ⟨none,xx⟩ (xo 0) true (FIN3 M [.tmp 2] Q) [(0,a0)] [] H):wu M xx [a0] H Q:=callf (by decide) qif (ks:=qeh) (by kernel_rfl) h
def qg3:AFunc:=funcAt Tryd.prog qbb
def qjm:Kp:=⟨[0,1,4],false,[0,2,6,14,22,30,34,42,50,58,66]⟩
def xy (k:Nat):Kp × ACode:=(qjm,part qg3.body k)
theorem vz (M:Mac) (c:Ctx):(∀ Q E D H,W M c (xy 0) true Q E D H =
 W M c (xy 2) true Q ((4,(.int .i64 0))::E) D H) /\
 (∀ Q E D H,W M c (xy 2) true Q E D H =
  Lz E 1 fun g t1=>Cb g .eql t1 (.int .i64 1) (fun g=>W M c (xy 6) g (SEQ3 (W M c (xy 34)) Q) E D H) (fun g=>Gt g M c (xy 34) Q E D H)) /\
 (∀ Q E D H,W M c (xy 34) true Q E D H =
  Lz E 0 fun g t0=>Cb g .eql t0 (.str [42]) (fun g=>GO3 g (SEQ3 (W M c (xy 42)) Q) .ret ((4,(.int .i64 6))::E) D H) (fun g=>Gt g M c (xy 42) Q E D H)) /\
 (∀ Q E D H,W M c (xy 6) true Q E D H =
  Lz E 0 fun g t0=>Cb g .eql t0 (.str [43]) (fun g=>GO3 g (SEQ3 (W M c (xy 14)) Q) .ret ((4,(.int .i64 4))::E) D H) (fun g=>Gt g M c (xy 14) Q E D H)) /\
 (∀ Q E D H,W M c (xy 42) true Q E D H =
  Lz E 0 fun g t0=>Cb g .eql t0 (.str [38]) (fun g=>GO3 g (SEQ3 (W M c (xy 50)) Q) .ret ((4,(.int .i64 7))::E) D H) (fun g=>Gt g M c (xy 50) Q E D H)) /\
 (∀ Q E D H,W M c (xy 14) true Q E D H =
  Lz E 0 fun g t0=>Cb g .eql t0 (.str [45]) (fun g=>GO3 g (SEQ3 (W M c (xy 22)) Q) .ret ((4,(.int .i64 5))::E) D H) (fun g=>Gt g M c (xy 22) Q E D H)) /\
 (∀ Q E D H,W M c (xy 50) true Q E D H =
  Lz E 0 fun g t0=>Cb g .eql t0 (.str [60,60]) (fun g=>GO3 g (SEQ3 (W M c (xy 58)) Q) .ret ((4,(.int .i64 9))::E) D H) (fun g=>Gt g M c (xy 58) Q E D H)) /\
 (∀ Q E D H,W M c (xy 22) true Q E D H =
  Lz E 0 fun g t0=>Cb g .eql t0 (.str [94]) (fun g=>GO3 g (SEQ3 (W M c (xy 30)) Q) .ret ((4,(.int .i64 8))::E) D H) (fun g=>Gt g M c (xy 30) Q E D H)) /\
 (∀ Q E D H,W M c (xy 58) true Q E D H =
  Lz E 0 fun g t0=>Cb g .eql t0 (.str [62,62]) (fun g=>GO3 g (SEQ3 (W M c (xy 66)) Q) .ret ((4,(.int .i64 10))::E) D H) (fun g=>Gt g M c (xy 66) Q E D H)) /\
 (∀ Q E D H,W M c (xy 30) true Q E D H =
  GO3 true Q .ret ((4,(.int .i64 0))::E) D H) /\
 (∀ Q E D H,W M c (xy 66) true Q E D H =
  GO3 true Q .ret ((4,(.int .i64 0))::E) D H):=by (repeat' apply And.intro)<;>(intro _ _ _ _;refine W_unf ?_;kernel_rfl)
theorem qp4:(cProg Tryd.prog).func qbb=some qg3/\qg3.results=[.tmp 4]:=zz (by kernel_rfl)
theorem qp5 (h:W M ⟨none,qbb⟩ (xy 0) true (FIN3 M [.tmp 4] Q) [(0,a0),(1,a1)] [] H):wu M qbb [a0,a1] H Q:=callf (by decide) qp4 (ks:=qjm) (by kernel_rfl) h
def qcj:AFunc:=funcAt Tryd.prog xf
def qe1:Kp:=⟨[0,2,3,4,5,6,7],false,[0,4,12,14,24,28,34,38,40,48,52,54,64]⟩
def qp (k:Nat):Kp × ACode:=(qe1,part qcj.body k)
theorem yb (M:Mac) (c:Ctx):(∀ Q E D H,W M c (qp 0) true Q E D H =
 Lz E 0 fun g t0=>C3 M g (.func jg) [t0] H fun g t9 H1=>W M c (qp 4) g Q ((3,t9)::(2,(.int .i64 0))::E) D H1) /\
 (∀ Q E D H,W M c (qp 4) true Q E D H =
  Lz E 0 fun g t0=>Nf g 5 t0 H fun g t13=>IF3 g t13 (fun g=>GO3 g (SEQ3 (W M c (qp 12)) Q) .ret ((2,(.int .i64 0))::E) D H) (fun g=>Gt g M c (qp 12) Q E D H)) /\
 (∀ Q E D H,W M c (qp 12) true Q E D H =
  Lz E 3 fun g t3=>C3 M g (.func qad) [t3] H fun g t15 H1=>W M c (qp 14) g Q ((4,t15)::E) D H1) /\
 (∀ Q E D H,W M c (qp 14) true Q E D H =
  Lz E 4 fun g t4=>Cb g .geq t4 (.int .i64 0) (fun g=>Ly g E 0 fun g t0=>Nf g 1 t0 H fun g t21=>Bn g .add t21 (.int .i64 1) fun g t22=>Ns g 1 t0 t22 H fun g u H1=>Ly g E 0 fun g t0_1=>Ly g E 4 fun g t4_1=>B3 g ((Op.wrap .u64) [t4_1]) fun g t27=>C3 M g (.func xr) [t0_1,(.int .i64 2),t27,.nils] H1 fun g t28 H2=>GO3 g (SEQ3 (W M c (qp 24)) Q) .ret ((2,t28)::E) D H2) (fun g=>Gt g M c (qp 24) Q E D H)) /\
 (∀ Q E D H,W M c (qp 24) true Q E D H =
  Lz E 3 fun g t3=>Bn g .eql t3 (.str [108,111,97,100]) fun g t30=>JN (fun (k:Bool->AV->AV->AHeap->Prop)=>B3 g (wantV false (some t30)) fun g w=>IG3 g w (fun g=>Bn g .eql t3 (.str [40]) fun g t33=>k g t33 t3 H) (fun g=>k g uu uu H)) (fun g t33_1 t32_1 H1=>B3 g (Op.pick [t30,(.bool true),t33_1]) fun g t34=>IF3 g t34 (fun g=>W M c (qp 28) g (SEQ3 (W M c (qp 52)) Q) E D H1) (fun g=>Gt g M c (qp 52) Q E D H1))) /\
 (∀ Q E D H,W M c (qp 52) true Q E D H =
  Lz E 3 fun g t3=>C3 M g (.func qao) [t3] H fun g t55 H1=>B3 g ((Op.extract 0) [t55]) fun g t56=>B3 g ((Op.extract 1) [t55]) fun g t57=>W M c (qp 54) g Q ((7,t57)::(6,t56)::E) D H1) /\
 (∀ Q E D H,W M c (qp 28) true Q E D H =
  Lz E 3 fun g t3=>Cb g .eql t3 (.str [108,111,97,100]) (fun g=>Ly g E 0 fun g t0=>Ly g E 3 fun g t3_1=>C3 M g (.func xa) [t0,t3_1] H fun g t39 H1=>Gt g M c (qp 34) Q E D H1) (fun g=>Gt g M c (qp 34) Q E D H)) /\
 (∀ Q E D H,W M c (qp 54) true Q E D H =
  Lz E 7 fun g t7=>B3 g ((Op.un .not) [t7]) fun g t59=>IF3 g t59 (fun g=>Ly g E 0 fun g t0=>Ns g 5 t0 (.bool true) H fun g u H1=>GO3 g (SEQ3 (W M c (qp 64)) Q) .ret ((2,(.int .i64 0))::E) D H1) (fun g=>Gt g M c (qp 64) Q E D H)) /\
 (∀ Q E D H,W M c (qp 34) true Q E D H =
  Lz E 0 fun g t0=>C3 M g (.func xa) [t0,(.str [40])] H fun g t41 H1=>Ly g E 0 fun g t0_1=>C3 M g (.func xi) [t0_1] H1 fun g t43 H2=>W M c (qp 38) g Q ((5,t43)::E) D H2) /\
 (∀ Q E D H,W M c (qp 64) true Q E D H =
  Lz E 0 fun g t0=>Nf g 1 t0 H fun g t67=>Ly g E 3 fun g t3=>B3 g (Op.lenStr [t3]) fun g t69=>Bn g .add t67 t69 fun g t70=>Ns g 1 t0 t70 H fun g u H1=>Ly g E 0 fun g t0_1=>Ly g E 6 fun g t6=>C3 M g (.func xr) [t0_1,(.int .i64 1),t6,.nils] H1 fun g t75 H2=>GO3 g Q .ret ((2,t75)::E) D H2) /\
 (∀ Q E D H,W M c (qp 38) true Q E D H =
  Lz E 0 fun g t0=>C3 M g (.func xa) [t0,(.str [41])] H fun g t45 H1=>W M c (qp 40) g Q E D H1) /\
 (∀ Q E D H,W M c (qp 40) true Q E D H =
  Lz E 3 fun g t3=>Cb g .eql t3 (.str [108,111,97,100]) (fun g=>Ly g E 0 fun g t0=>Ly g E 5 fun g t5=>B32 g ((Op.buildSlice T_int 1 [(.int .i64 0)] [(0,1)]) [t5]) fun g o1 k1=>C3 M g (.func xr) [t0,(.int .i64 3),(.int .u64 0),(k1 H.next)] (H.alloc o1) fun g t51 H2=>GO3 g (SEQ3 (W M c (qp 48)) Q) .ret ((2,t51)::E) D H2) (fun g=>Gt g M c (qp 48) Q E D H)) /\
 (∀ Q E D H,W M c (qp 48) true Q E D H =
  Lz E 5 fun g t5=>GO3 g Q .ret ((2,t5)::E) D H):=by (repeat' apply And.intro)<;>(intro _ _ _ _;refine W_unf ?_;kernel_rfl)
theorem qir:(cProg Tryd.prog).func xf=some qcj/\qcj.results=[.tmp 2]:=zz (by kernel_rfl)
theorem qck (h:W M ⟨none,xf⟩ (qp 0) true (FIN3 M [.tmp 2] Q) [(0,a0)] [] H):wu M xf [a0] H Q:=callf (by decide) qir (ks:=qe1) (by kernel_rfl) h
def qg4:AFunc:=funcAt Tryd.prog qao
def qjn:Kp:=⟨[0,2,3,4,5,6],false,[0,2,10,12,17,23,27,35,36,37]⟩
def zj (k:Nat):Kp × ACode:=(qjn,part qg4.body k)
theorem qp8 (M:Mac) (c:Ctx):(∀ Q E D H,W M c (zj 0) true Q E D H =
 W M c (zj 2) true Q ((3,(.bool false))::(2,(.int .u64 0))::E) D H) /\
 (∀ Q E D H,W M c (zj 2) true Q E D H =
  Lz E 0 fun g t0=>Bn g .eql t0 (.str []) fun g t8=>JN (fun (k:Bool->AV->AV->AV->AHeap->Prop)=>B3 g (wantV false (some t8)) fun g w=>IG3 g w (fun g=>B3 g (Op.indexStr [t0,(.int .i64 0)]) fun g t11=>Bn g .lss t11 (.int .u8 48) fun g t12=>k g t12 t11 t0 H) (fun g=>k g uu uu uu H)) (fun g t12_1 t11_1 t10_1 H1=>B3 g (Op.pick [t8,(.bool true),t12_1]) fun g t13=>JN (fun (k:Bool->AV->AV->AV->AHeap->Prop)=>B3 g (wantV false (some t13)) fun g w=>IG3 g w (fun g=>B3 g (Op.indexStr [t0,(.int .i64 0)]) fun g t16=>Bn g .gtr t16 (.int .u8 57) fun g t17=>k g t17 t16 t0 H1) (fun g=>k g uu uu uu H1)) (fun g t17_1 t16_1 t15_1 H2=>B3 g (Op.pick [t13,(.bool true),t17_1]) fun g t18=>JN (fun (k:Bool->AV->AV->AV->AV->AHeap->Prop)=>B3 g (wantV false (some t18)) fun g w=>IG3 g w (fun g=>B3 g (Op.lenStr [t0]) fun g t21=>Bn g .gtr t21 (.int .i64 1) fun g t22=>k g t22 t22 t21 t0 H2) (fun g=>k g uu uu uu uu H2)) (fun g t23_1 t22_1 t21_1 t20_1 H3=>JN (fun (k:Bool->AV->AV->AV->AHeap->Prop)=>B3 g (wantV true (some t23_1)) fun g w=>IG3 g w (fun g=>B3 g (Op.indexStr [t0,(.int .i64 0)]) fun g t25=>Bn g .eql t25 (.int .u8 48) fun g t26=>k g t26 t25 t0 H3) (fun g=>k g uu uu uu H3)) (fun g t26_1 t25_1 t24_1 H4=>JN (fun (k:Bool->AV->AHeap->Prop)=>B3 g (wantV false (some t18)) fun g w=>IG3 g w (fun g=>B3 g (Op.pick [t23_1,t26_1,(.bool false)]) fun g t27=>k g t27 H4) (fun g=>k g uu H4)) (fun g t27_1 H5=>B3 g (Op.pick [t18,(.bool true),t27_1]) fun g t28=>JN (fun (k:Bool->AV->AV->AV->AHeap->Prop)=>B3 g (wantV false (some t28)) fun g w=>IG3 g w (fun g=>B3 g (Op.lenStr [t0]) fun g t31=>Bn g .gtr t31 (.int .i64 20) fun g t32=>k g t32 t31 t0 H5) (fun g=>k g uu uu uu H5)) (fun g t32_1 t31_1 t30_1 H6=>B3 g (Op.pick [t28,(.bool true),t32_1]) fun g t33=>IF3 g t33 (fun g=>GO3 g (SEQ3 (W M c (zj 10)) Q) .ret ((3,(.bool false))::(2,(.int .u64 0))::E) D H6) (fun g=>Gt g M c (zj 10) Q E D H6)))))))) /\
 (∀ Q E D H,W M c (zj 10) true Q E D H =
  W M c (zj 12) true Q ((4,(.int .u64 0))::E) D H) /\
 (∀ Q E D H,W M c (zj 12) true Q E D H =
  LOOP3 (W M c (zj 17)) (BLK3 0 (SEQ3 (W M c (zj 37)) Q)) ((5,(.int .i64 0))::E) D H) /\
 (∀ Q E D H,W M c (zj 37) true Q E D H =
  Lz E 4 fun g t4=>GO3 g Q .ret ((3,(.bool true))::(2,t4)::E) D H) /\
 (∀ Q E D H,W M c (zj 17) true Q E D H =
  Lz E 5 fun g t5=>Ly g E 0 fun g t0=>B3 g (Op.lenStr [t0]) fun g t36=>Cb g .lss t5 t36 (fun g=>Gt g M c (zj 23) Q E D H) (fun g=>GO3 g (SEQ3 (W M c (zj 23)) Q) (.exit 0) E D H)) /\
 (∀ Q E D H,W M c (zj 23) true Q E D H =
  Lz E 0 fun g t0=>Ly g E 5 fun g t5=>B3 g (Op.indexStr [t0,t5]) fun g t42=>Bn g .sub t42 (.int .u8 48) fun g t43=>B3 g ((Op.wrap .u64) [t43]) fun g t44=>W M c (zj 27) g (BLK3 1 (SEQ3 (W M c (zj 36)) Q)) ((6,t44)::E) D H) /\
 (∀ Q E D H,W M c (zj 36) true Q E D H =
  Lz E 5 fun g t5=>Bn g .add t5 (.int .i64 1) fun g t39=>GO3 g Q .normal ((5,t39)::E) D H) /\
 (∀ Q E D H,W M c (zj 27) true Q E D H =
  Lz E 4 fun g t4=>Bn g .gtr t4 (.int .u64 1844674407370955161) fun g t46=>JN (fun (k:Bool->AV->AV->AV->AHeap->Prop)=>B3 g (wantV false (some t46)) fun g w=>IG3 g w (fun g=>Bn g .eql t4 (.int .u64 1844674407370955161) fun g t49=>k g t49 t49 t4 H) (fun g=>k g uu uu uu H)) (fun g t50_1 t49_1 t48_1 H1=>JN (fun (k:Bool->AV->AV->AHeap->Prop)=>B3 g (wantV true (some t50_1)) fun g w=>IG3 g w (fun g=>Ly g E 6 fun g t6=>Bn g .gtr t6 (.int .u64 5) fun g t52=>k g t52 t6 H1) (fun g=>k g uu uu H1)) (fun g t52_1 t51_1 H2=>JN (fun (k:Bool->AV->AHeap->Prop)=>B3 g (wantV false (some t46)) fun g w=>IG3 g w (fun g=>B3 g (Op.pick [t50_1,t52_1,(.bool false)]) fun g t53=>k g t53 H2) (fun g=>k g uu H2)) (fun g t53_1 H3=>B3 g (Op.pick [t46,(.bool true),t53_1]) fun g t54=>IF3 g t54 (fun g=>GO3 g (SEQ3 (W M c (zj 35)) Q) .ret ((3,(.bool false))::(2,(.int .u64 0))::E) D H3) (fun g=>Gt g M c (zj 35) Q E D H3))))) /\
 (∀ Q E D H,W M c (zj 35) true Q E D H =
  Lz E 4 fun g t4=>Bn g .mul t4 (.int .u64 10) fun g t56=>Ly g E 6 fun g t6=>Bn g .add t56 t6 fun g t58=>GO3 g Q .normal ((4,t58)::E) D H):=by (repeat' apply And.intro)<;>(intro _ _ _ _;refine W_unf ?_;kernel_rfl)
theorem qp6:(cProg Tryd.prog).func qao=some qg4/\qg4.results=[.tmp 2,.tmp 3]:=zz (by kernel_rfl)
theorem qp7 (h:W M ⟨none,qao⟩ (zj 0) true (FIN3 M [.tmp 2,.tmp 3] Q) [(0,a0)] [] H):wu M qao [a0] H Q:=callf (by decide) qp6 (ks:=qjn) (by kernel_rfl) h
end
end Go.Am
namespace Go.Am
abbrev wx:Nat:=4
noncomputable section
open Go.Proofs Go.Proofs.YtbimikjajohflaaDoor
variable {M:Mac} [MK M] {H:AHeap} {Q:AEnd->AHeap->Prop} {a0:AV}
def qd4:AFunc:=funcAt Tryd.prog wx
def qgw:Kp:=⟨[0,2,3,4,5,6,7,8,9,10],false,[0,2,10]⟩
def ve (k:Nat):Kp × ACode:=(qgw,part qd4.body k)
theorem qlh (M:Mac) (c:Ctx):(∀ Q E D H,W M c (ve 0) true Q E D H =
 W M c (ve 2) true Q ((2,(.bool false))::E) D H) /\
 (∀ Q E D H,W M c (ve 2) true Q E D H =
  Lz E 0 fun g t0=>B3 g (Op.lenStr [t0]) fun g t12=>Cb g .gtr t12 (.int .i64 2000) (fun g=>GO3 g (SEQ3 (W M c (ve 10)) Q) .ret ((2,(.bool true))::E) D H) (fun g=>Gt g M c (ve 10) Q E D H)) /\
 (∀ Q E D H,W M c (ve 10) true Q E D H =
  Lz E 0 fun g t0=>C3 M g (.func qa3) [t0] H fun g t16 H1=>B3 g ((Op.extract 0) [t16]) fun g t17=>B3 g ((Op.extract 1) [t16]) fun g t18=>B3 g ((Op.extract 2) [t16]) fun g t19=>B3 g ((Op.extract 3) [t16]) fun g t20=>Ly g E 0 fun g t0_1=>C3 M g (.func qbt) [t0_1] H1 fun g t23 H2=>B3 g ((Op.extract 0) [t23]) fun g t24=>B3 g ((Op.extract 1) [t23]) fun g t25=>B3 g ((Op.extract 2) [t23]) fun g t26=>B3 g ((Op.extract 3) [t23]) fun g t27=>C3 M g (.func qbp) [t17,t24] H2 fun g t30 H3=>JN (fun (k:Bool->AV->AV->AV->AHeap->Prop)=>B3 g (wantV true (some t30)) fun g w=>IG3 g w (fun g=>Bn g .eql t18 t25 fun g t34=>k g t34 t25 t18 H3) (fun g=>k g uu uu uu H3)) (fun g t34_1 t33_1 t32_1 H4=>B3 g (Op.pick [t30,t34_1,(.bool false)]) fun g t35=>JN (fun (k:Bool->AV->AV->AV->AHeap->Prop)=>B3 g (wantV true (some t35)) fun g w=>IG3 g w (fun g=>Bn g .eql t19 t26 fun g t39=>k g t39 t26 t19 H4) (fun g=>k g uu uu uu H4)) (fun g t39_1 t38_1 t37_1 H5=>B3 g (Op.pick [t35,t39_1,(.bool false)]) fun g t40=>JN (fun (k:Bool->AV->AV->AV->AHeap->Prop)=>B3 g (wantV true (some t40)) fun g w=>IG3 g w (fun g=>Bn g .eql t20 t27 fun g t44=>k g t44 t27 t20 H5) (fun g=>k g uu uu uu H5)) (fun g t44_1 t43_1 t42_1 H6=>B3 g (Op.pick [t40,t44_1,(.bool false)]) fun g t45=>GO3 g Q .ret ((2,t45)::(10,t27)::(9,t26)::(8,t25)::(7,t24)::(6,t20)::(5,t19)::(4,t18)::(3,t17)::E) D H6)))):=by (repeat' apply And.intro)<;>(intro _ _ _ _;refine W_unf ?_;kernel_rfl)
theorem qlf:(cProg Tryd.prog).func wx=some qd4/\qd4.results=[.tmp 2]:=zz (by kernel_rfl)
theorem qlg (h:W M ⟨none,wx⟩ (ve 0) true (FIN3 M [.tmp 2] Q) [(0,a0)] [] H):wu M wx [a0] H Q:=callf (by decide) qlf (ks:=qgw) (by kernel_rfl) h
end
end Go.Am
