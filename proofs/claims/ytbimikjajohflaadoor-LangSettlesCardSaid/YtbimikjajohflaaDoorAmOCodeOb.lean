/- CodeOb: CodePA CodePE. -/
import Derived.Test.YtbimikjajohflaaDoorAmOB4
import Derived.Test.YtbimikjajohflaaDoorAmOB1
import Derived.KernelRfl
import Derived.Test.YtbimikjajohflaaDoorAmOCodeO
import Derived.Test.YtbimikjajohflaaDoorRows
set_option linter.unusedVariables false
set_option maxRecDepth 100000
namespace Go.Am
abbrev qbi:Nat:=18
abbrev xy:Nat:=110
abbrev xk:Nat:=109
abbrev xg:Nat:=107
abbrev xd:Nat:=137
abbrev jl:Nat:=111
abbrev zm:Nat:=47
abbrev kj:Nat:=74
abbrev jq:Nat:=130
abbrev qm:Nat:=75
abbrev zd:Nat:=46
abbrev x9:Nat:=106
abbrev j6:Nat:=131
abbrev yc:Nat:=108
abbrev qfe:Nat:=73
abbrev qb0:Nat:=104
abbrev qer:Nat:=45
abbrev vh:Nat:=72
abbrev qcd:Nat:=105
abbrev qbo:Nat:=76
abbrev qbf:Nat:=87
abbrev qbj:Nat:=92
abbrev vi:Nat:=84
noncomputable section
open Go.Proofs Go.Proofs.YtbimikjajohflaaDoor
variable {M:Mac} [MK M] {H:AHeap} {Q:AEnd->AHeap->Prop} {a0 a1 a2 a3:AV}
def qee:AFunc:=funcAt Tryd.prog qbi
def qef:Kp:=⟨[0,2,3,4,5,6,7,8,12,13],false,[0,4,9,11,19]⟩
def qbk (k:Nat):Kp × ACode:=(qef,part qee.body k)
def qdd:ALoop:=loopAt qee 0
def qod (k:Nat):Kp × ACode:=(⟨qef.keep,qef.pan,[0]⟩,part qdd.assign k)
def qoe (k:Nat):Kp × ACode:=(⟨qef.keep,qef.pan,[0]⟩,part qdd.body k)
theorem qm3:nth qee.loops 0=some qdd/\qdd.params=[13]:=⟨by kernel_rfl,by kernel_rfl⟩
theorem qqj (M:Mac) (c:Ctx):(∀ Q E D H,W M c (qbk 0) true Q E D H =
 B3 true ((Op.build [.nils,(.int .i64 0),.nils,(.int .i64 0),(.bool false),(.bool false)] []) []) fun g t9=>A3 g qbf (AV.cells t9) H fun g t10 H1=>A3 g vi [.nilp] H1 fun g t6 H2=>B32 g ((Op.store 1) [t6,t10] H2) fun g u H3=>W M c (qbk 4) g Q ((6,t6)::(5,(.int .i64 0))::(4,(.int .i64 0))::(3,(.int .i64 0))::(2,.nils)::E) D H3) /\
 (∀ Q E D H,W M c (qod 0) true Q E D H =
  A3 true qbj [(.str []),(.int .i64 0),(.int .i64 0)] H fun g t7 H1=>Ly g E 13 fun g t13=>B32 g ((Op.store 3) [t7,t13] H1) fun g u H2=>GO3 g Q .normal ((7,t7)::E) D H2) /\
 (∀ Q E D H,W M c (qoe 0) true Q E D H =
  Lz E 6 fun g t6=>B3 g (Op.load1 [t6] H) fun g t14=>B3 g (Op.load1 [t6] H) fun g t15=>Nf g 0 t15 H fun g t18=>Ly g E 7 fun g t7=>B3 g ((Op.loadN 3) [t7] H) fun g t19=>B32 g ((Op.buildSlice qbj 1 [(.str []),(.int .i64 0),(.int .i64 0)] [(0,3)]) [t19]) fun g o1 k1=>B32 g ((Op.append qbj 3 32) [t18,(k1 H.next)] (H.alloc o1)) fun g t21 H2=>CK3 g (Op.load1 [t6] H2) (some t14) fun g=>Ns g 0 t14 t21 H2 fun g u H3=>GO3 g (BLK3 1 Q) .normal E D H3) /\
 (∀ Q E D H,W M c (qbk 4) true Q E D H =
  Lz E 0 fun g t0=>C3 M g (.func qer) [t0] H fun g t12 H1=>RNG3 M qef.keep c 0 ((12,t12)::E) D H1 (BLK3 0 (SEQ3 (W M c (qbk 9)) Q)) t12) /\
 (∀ Q E D H,W M c (qbk 9) true Q E D H =
  Lz E 6 fun g t6=>B3 g (Op.load1 [t6] H) fun g t24=>C3 M g (.func zd) [t24,(.str [])] H fun g t25 H1=>W M c (qbk 11) g Q ((8,t25)::E) D H1) /\
 (∀ Q E D H,W M c (qbk 11) true Q E D H =
  Lz E 6 fun g t6=>B3 g (Op.load1 [t6] H) fun g t26=>Nf g 5 t26 H fun g t29=>IF3 g t29 (fun g=>Ly g E 6 fun g t6_1=>B3 g (Op.load1 [t6_1] H) fun g t30=>Nf g 0 t30 H fun g t33=>B3 g (Op.load1 [t6_1] H) fun g t34=>Nf g 1 t34 H fun g t37=>B3 g ((Op.indexSl 3) [t33,t37]) fun g t38=>Fl g 1 t38 H fun g t40=>B3 g (Op.load1 [t6_1] H) fun g t41=>Nf g 0 t41 H fun g t44=>B3 g (Op.load1 [t6_1] H) fun g t45=>Nf g 1 t45 H fun g t48=>B3 g ((Op.indexSl 3) [t44,t48]) fun g t49=>Fl g 2 t49 H fun g t51=>GO3 g (SEQ3 (W M c (qbk 19)) Q) .ret ((5,(.int .i64 180))::(4,t51)::(3,t40)::(2,.nils)::E) D H) (fun g=>Gt g M c (qbk 19) Q E D H)) /\
 (∀ Q E D H,W M c (qbk 19) true Q E D H =
  Lz E 6 fun g t6=>B3 g (Op.load1 [t6] H) fun g t52=>Ly g E 8 fun g t8=>C3 M g (.func zm) [t52,(.int .i64 20),(.int .u64 0),t8] H fun g t54 H1=>Ly g E 6 fun g t6_1=>B3 g (Op.load1 [t6_1] H1) fun g t55=>Nf g 2 t55 H1 fun g t58=>GO3 g Q .ret ((5,(.int .i64 0))::(4,(.int .i64 0))::(3,(.int .i64 0))::(2,t58)::E) D H1):=by (repeat' apply And.intro)<;>(intro _ _ _ _;refine W_unf ?_;kernel_rfl)
theorem qqi:(cProg Tryd.prog).func qbi=some qee/\qee.results=[.tmp 2,.tmp 3,.tmp 4,.tmp 5]:=x6 (by kernel_rfl)
theorem qvt:M.func qbi=some qee:=MK.at (by decide) qqi.1
theorem qxr (h:W M ⟨none,qbi⟩ (qbk 0) true (FIN3 M [.tmp 2,.tmp 3,.tmp 4,.tmp 5] Q) [(0,a0)] [] H):wu M qbi [a0] H Q:=callf (by decide) qqi (ks:=qef) (by kernel_rfl) h
def qk0:AFunc:=funcAt Tryd.prog qer
def qow:Kp:=⟨[0,1,2],false,[0]⟩
def qox (k:Nat):Kp × ACode:=(qow,part qk0.body k)
theorem qvz (M:Mac) (c:Ctx):(∀ Q E D H,W M c (qox 0) true Q E D H =
 Lz E 0 fun g t0=>A3 g yp (AV.cells t0) H fun g t1 H1=>B3 g ((Op.mkFunc vh 0) [t1]) fun g t3=>GO3 g Q .ret ((2,t3)::(2,.nilf)::(1,t1)::E) D H1):=by intro _ _ _ _;refine W_unf ?_;kernel_rfl
theorem qvx:(cProg Tryd.prog).func qer=some qk0/\qk0.results=[.tmp 2]:=x6 (by kernel_rfl)
theorem qvy (h:W M ⟨none,qer⟩ (qox 0) true (FIN3 M [.tmp 2] Q) [(0,a0)] [] H):wu M qer [a0] H Q:=callf (by decide) qvx (ks:=qow) (by kernel_rfl) h
def qc7:AFunc:=funcAt Tryd.prog zd
def qfw:Kp:=⟨[0,1,4,5],false,[0,4,7,13,15]⟩
def zf (k:Nat):Kp × ACode:=(qfw,part qc7.body k)
theorem qbp (M:Mac) (c:Ctx):(∀ Q E D H,W M c (zf 0) true Q E D H =
 W M c (zf 4) true Q ((5,.nils)::(4,.nils)::E) D H) /\
 (∀ Q E D H,W M c (zf 4) true Q E D H =
  LOOP3 (W M c (zf 7)) (BLK3 0 (SEQ3 (W M c (zf 15)) Q)) E D H) /\
 (∀ Q E D H,W M c (zf 15) true Q E D H =
  Lz E 5 fun g t5=>GO3 g Q .ret ((4,t5)::E) D H) /\
 (∀ Q E D H,W M c (zf 7) true Q E D H =
  Lz E 0 fun g t0=>Nf g 5 t0 H fun g t9=>B3 g ((Op.un .not) [t9]) fun g t10=>JN (fun (k:Bool->AV->AV->AV->AV->AHeap->Prop)=>B3 g (wantV true (some t10)) fun g w=>IG3 g w (fun g=>C3 M g (.func kj) [t0] H fun g t13 H1=>Ly g E 1 fun g t1=>Bn g .neq t13 t1 fun g t15=>k g t15 t1 t13 t0 H1) (fun g=>k g uu uu uu uu H)) (fun g t15_1 t14_1 t13_1 t12_1 H2=>B3 g (Op.pick [t10,t15_1,(.bool false)]) fun g t16=>IF3 g t16 (fun g=>Gt g M c (zf 13) Q E D H2) (fun g=>GO3 g (SEQ3 (W M c (zf 13)) Q) (.exit 0) E D H2))) /\
 (∀ Q E D H,W M c (zf 13) true Q E D H =
  Lz E 5 fun g t5=>Ly g E 0 fun g t0=>C3 M g (.func qm) [t0] H fun g t19 H1=>B32 g ((Op.buildSlice T_int 1 [(.int .i64 0)] [(0,1)]) [t19]) fun g o2 k2=>B32 g ((Op.append T_int 1 8) [t5,(k2 H1.next)] (H1.alloc o2)) fun g t21 H3=>GO3 g (BLK3 1 Q) .normal ((5,t21)::E) D H3):=by (repeat' apply And.intro)<;>(intro _ _ _ _;refine W_unf ?_;kernel_rfl)
theorem qkh:(cProg Tryd.prog).func zd=some qc7/\qc7.results=[.tmp 4]:=x6 (by kernel_rfl)
theorem qki (h:W M ⟨none,zd⟩ (zf 0) true (FIN3 M [.tmp 4] Q) [(0,a0),(1,a1)] [] H):wu M zd [a0,a1] H Q:=callf (by decide) qkh (ks:=qfw) (by kernel_rfl) h
def qf5:AFunc:=funcAt Tryd.prog zm
def qjj:Kp:=⟨[0,1,2,3,8],false,[0]⟩
def qjk (k:Nat):Kp × ACode:=(qjj,part qf5.body k)
theorem qoo (M:Mac) (c:Ctx):(∀ Q E D H,W M c (qjk 0) true Q E D H =
 Lz E 0 fun g t0=>B3 g (Op.nilCheck [t0]) fun g t11=>B3 g ((Op.fieldAddr 2) [t11]) fun g t12=>B3 g (Op.load1 [t12] H) fun g t13=>Ly g E 1 fun g t1=>Ly g E 2 fun g t2=>Ly g E 3 fun g t3=>C3 M g (.func qbo) [t3] H fun g t17 H1=>CK3 g (Op.load1 [t12] H1) (some t13) fun g=>B3 g ((Op.build [(.int .i64 0),(.int .u64 0),.nils] [(0,1),(1,1),(2,1)]) [t1,t2,t17]) fun g t18=>B32 g ((Op.buildSlice zj 1 [(.int .i64 0),(.int .u64 0),.nils] [(0,3)]) [t18]) fun g o2 k2=>B32 g ((Op.append zj 3 40) [t13,(k2 H1.next)] (H1.alloc o2)) fun g t20 H3=>Ns g 2 t0 t20 H3 fun g u H4=>Ly g E 0 fun g t0_1=>Nf g 2 t0_1 H4 fun g t26=>B3 g (Op.lenSl [t26]) fun g t27=>Bn g .sub t27 (.int .i64 1) fun g t28=>GO3 g Q .ret ((8,t28)::(8,(.int .i64 0))::E) D H4):=by intro _ _ _ _;refine W_unf ?_;kernel_rfl
theorem qom:(cProg Tryd.prog).func zm=some qf5/\qf5.results=[.tmp 8]:=x6 (by kernel_rfl)
theorem qon (h:W M ⟨none,zm⟩ (qjk 0) true (FIN3 M [.tmp 8] Q) [(0,a0),(1,a1),(2,a2),(3,a3)] [] H):wu M zm [a0,a1,a2,a3] H Q:=callf (by decide) qom (ks:=qjj) (by kernel_rfl) h
def qiv:AFunc:=funcAt Tryd.prog vh
def qlx:Kp:=⟨[0,1,3,4,5,6,13,16],false,[0,2,7,13,25,31,38,41,46,47,50,54,55,59,65,67,68,69,71,77,78]⟩
def qv (k:Nat):Kp × ACode:=(qlx,part qiv.body k)
theorem qso (M:Mac) (c:Ctx):(∀ Q E D H,W M c (qv 0) true Q E D H =
 W M c (qv 2) true Q ((4,(.int .i64 0))::(3,(.int .i64 1))::E) D H) /\
 (∀ Q E D H,W M c (qv 2) true Q E D H =
  LOOP3 (W M c (qv 7)) (BLK3 0 (SEQ3 (W M c (qv 78)) Q)) ((5,(.int .i64 0))::E) D H) /\
 (∀ Q E D H,W M c (qv 78) true Q E D H =
  Lz E 0 fun g t0=>Ly g E 3 fun g t3=>Ly g E 1 fun g t1=>B3 g (Op.load1 [t1] H) fun g t63=>B3 g (Op.lenStr [t63]) fun g t64=>Ly g E 4 fun g t4=>Bn g .sub t64 t4 fun g t66=>Bn g .add t66 (.int .i64 1) fun g t67=>B3 g ((Op.build [(.str []),(.int .i64 0),(.int .i64 0)] [(1,1),(2,1)]) [t3,t67]) fun g t68=>V3 g [t0,t68] fun g f vs=>C3 M g f vs H fun g t69 H1=>GO3 g Q .normal E D H1) /\
 (∀ Q E D H,W M c (qv 7) true Q E D H =
  Lz E 5 fun g t5=>Ly g E 1 fun g t1=>B3 g (Op.load1 [t1] H) fun g t8=>B3 g (Op.lenStr [t8]) fun g t9=>Cb g .lss t5 t9 (fun g=>Gt g M c (qv 13) Q E D H) (fun g=>GO3 g (SEQ3 (W M c (qv 13)) Q) (.exit 0) E D H)) /\
 (∀ Q E D H,W M c (qv 13) true Q E D H =
  Lz E 1 fun g t1=>B3 g (Op.load1 [t1] H) fun g t11=>Ly g E 5 fun g t5=>B3 g (Op.indexStr [t11,t5]) fun g t13=>W M c (qv 25) g (SEQ3 (W M c (qv 46)) (BLK3 3 (SEQ3 (W M c (qv 47)) (BLK3 4 (SEQ3 (W M c (qv 50)) (BLK3 5 (SEQ3 (W M c (qv 55)) (BLK3 2 (SEQ3 (W M c (qv 69)) (BLK3 1 Q)))))))))) ((13,t13)::E) D H) /\
 (∀ Q E D H,W M c (qv 69) true Q E D H =
  Lz E 1 fun g t1=>B3 g (Op.load1 [t1] H) fun g t39=>Ly g E 5 fun g t5=>B3 g ((Op.sliceStr [(some 0),none]) [t39,t5]) fun g t41=>C3 M g (.func qfe) [t41] H fun g t42 H1=>W M c (qv 71) g Q ((6,t42)::E) D H1) /\
 (∀ Q E D H,W M c (qv 55) true Q E D H =
  LOOP3 (W M c (qv 59)) (BLK3 6 (SEQ3 (W M c (qv 67)) (SEQ3 (W M c (qv 68)) Q))) E D H) /\
 (∀ Q E D H,W M c (qv 50) true Q E D H =
  Lz E 5 fun g t5=>Bn g .add t5 (.int .i64 1) fun g t26=>GO3 g (SEQ3 (W M c (qv 54)) Q) (.exit 1) ((5,t26)::E) D H) /\
 (∀ Q E D H,W M c (qv 47) true Q E D H =
  Lz E 3 fun g t3=>Bn g .add t3 (.int .i64 1) fun g t22=>Ly g E 5 fun g t5=>Bn g .add t5 (.int .i64 1) fun g t24=>GO3 g Q .normal ((4,t24)::(3,t22)::E) D H) /\
 (∀ Q E D H,W M c (qv 46) true Q E D H =
  GO3 true Q (.exit 2) E D H) /\
 (∀ Q E D H,W M c (qv 25) true Q E D H =
  Lz E 13 fun g t13=>Cb g .eql t13 (.int .u8 10) (fun g=>GO3 g (SEQ3 (W M c (qv 31)) Q) (.exit 3) E D H) (fun g=>Gt g M c (qv 31) Q E D H)) /\
 (∀ Q E D H,W M c (qv 71) true Q E D H =
  Lz E 0 fun g t0=>Ly g E 1 fun g t1=>B3 g (Op.load1 [t1] H) fun g t44=>Ly g E 5 fun g t5=>Ly g E 6 fun g t6=>Bn g .add t5 t6 fun g t48=>B3 g ((Op.sliceStr [(some 0),(some 1)]) [t44,t5,t48]) fun g t49=>Ly g E 3 fun g t3=>Ly g E 4 fun g t4=>Bn g .sub t5 t4 fun g t53=>Bn g .add t53 (.int .i64 1) fun g t54=>B3 g ((Op.build [(.str []),(.int .i64 0),(.int .i64 0)] [(0,1),(1,1),(2,1)]) [t49,t3,t54]) fun g t55=>V3 g [t0,t55] fun g f vs=>C3 M g f vs H fun g t56 H1=>B3 g ((Op.un .not) [t56]) fun g t57=>IF3 g t57 (fun g=>GO3 g (SEQ3 (W M c (qv 77)) Q) .ret E D H1) (fun g=>Gt g M c (qv 77) Q E D H1)) /\
 (∀ Q E D H,W M c (qv 68) true Q E D H =
  GO3 true Q (.exit 2) E D H) /\
 (∀ Q E D H,W M c (qv 67) true Q E D H =
  GO3 true Q (.exit 1) E D H) /\
 (∀ Q E D H,W M c (qv 59) true Q E D H =
  Lz E 5 fun g t5=>Ly g E 1 fun g t1=>B3 g (Op.load1 [t1] H) fun g t28=>B3 g (Op.lenStr [t28]) fun g t29=>Bn g .lss t5 t29 fun g t30=>JN (fun (k:Bool->AV->AV->AV->AV->AHeap->Prop)=>B3 g (wantV true (some t30)) fun g w=>IG3 g w (fun g=>B3 g (Op.load1 [t1] H) fun g t32=>B3 g (Op.indexStr [t32,t5]) fun g t34=>Bn g .neq t34 (.int .u8 10) fun g t35=>k g t35 t34 t5 t32 H) (fun g=>k g uu uu uu uu H)) (fun g t35_1 t34_1 t33_1 t32_1 H1=>B3 g (Op.pick [t30,t35_1,(.bool false)]) fun g t36=>IF3 g t36 (fun g=>Gt g M c (qv 65) Q E D H1) (fun g=>GO3 g (SEQ3 (W M c (qv 65)) Q) (.exit 6) E D H1))) /\
 (∀ Q E D H,W M c (qv 54) true Q E D H =
  GO3 true Q (.exit 2) E D H) /\
 (∀ Q E D H,W M c (qv 31) true Q E D H =
  Lz E 13 fun g t13=>Bn g .eql t13 (.int .u8 32) fun g t17=>IF3 g t17 (fun g=>Gt g M c (qv 38) (SEQ3 (W M c (qv 41)) Q) ((16,t17)::E) D H) (fun g=>Ly g E 13 fun g t13_1=>Bn g .eql t13_1 (.int .u8 9) fun g t18=>Gt g M c (qv 38) (SEQ3 (W M c (qv 41)) Q) ((16,t18)::(16,t17)::E) D H)) /\
 (∀ Q E D H,W M c (qv 77) true Q E D H =
  Lz E 5 fun g t5=>Ly g E 6 fun g t6=>Bn g .add t5 t6 fun g t60=>GO3 g Q .normal ((5,t60)::E) D H) /\
 (∀ Q E D H,W M c (qv 65) true Q E D H =
  Lz E 5 fun g t5=>Bn g .add t5 (.int .i64 1) fun g t38=>GO3 g (BLK3 7 Q) .normal ((5,t38)::E) D H) /\
 (∀ Q E D H,W M c (qv 41) true Q E D H =
  Lz E 13 fun g t13=>Cb g .eql t13 (.int .u8 35) (fun g=>GO3 g Q (.exit 5) E D H) (fun g=>GO3 g Q .normal E D H)) /\
 (∀ Q E D H,W M c (qv 38) true Q E D H =
  Lz E 16 fun g t16=>IF3 g t16 (fun g=>GO3 g Q (.exit 4) E D H) (fun g=>GO3 g Q .normal E D H)):=by (repeat' apply And.intro)<;>(intro _ _ _ _;refine W_unf ?_;kernel_rfl)
theorem qsm:(cProg Tryd.prog).func vh=some qiv/\qiv.results=[]:=x6 (by kernel_rfl)
theorem qsn (h:W M ⟨none,vh⟩ (qv 0) true (FIN3 M [] Q) [(0,a0),(1,a1)] [] H):wu M vh [a0,a1] H Q:=callf (by decide) qsm (ks:=qlx) (by kernel_rfl) h
def qgx:AFunc:=funcAt Tryd.prog kj
def qke:Kp:=⟨[0,2],false,[0]⟩
def qkf (k:Nat):Kp × ACode:=(qke,part qgx.body k)
theorem qps (M:Mac) (c:Ctx):(∀ Q E D H,W M c (qkf 0) true Q E D H =
 Lz E 0 fun g t0=>Nf g 0 t0 H fun g t6=>Nf g 1 t0 H fun g t10=>B3 g ((Op.indexSl 3) [t6,t10]) fun g t11=>Fl g 0 t11 H fun g t13=>GO3 g Q .ret ((2,t13)::(2,(.str []))::E) D H):=by intro _ _ _ _;refine W_unf ?_;kernel_rfl
theorem qpq:(cProg Tryd.prog).func kj=some qgx/\qgx.results=[.tmp 2]:=x6 (by kernel_rfl)
theorem qpr (h:W M ⟨none,kj⟩ (qkf 0) true (FIN3 M [.tmp 2] Q) [(0,a0)] [] H):wu M kj [a0] H Q:=callf (by decide) qpq (ks:=qke) (by kernel_rfl) h
def qde:AFunc:=funcAt Tryd.prog qm
def qf6:Kp:=⟨[0,2,3,4,5,6,7,8,9,10,11,42],false,[0,2,10,12,30,57,61,69,72,85,93,104,115]⟩
def ql (k:Nat):Kp × ACode:=(qf6,part qde.body k)
theorem zn (M:Mac) (c:Ctx):(∀ Q E D H,W M c (ql 0) true Q E D H =
 W M c (ql 2) true Q ((2,(.int .i64 0))::E) D H) /\
 (∀ Q E D H,W M c (ql 2) true Q E D H =
  Lz E 0 fun g t0=>Nf g 5 t0 H fun g t15=>IF3 g t15 (fun g=>GO3 g (SEQ3 (W M c (ql 10)) Q) .ret ((2,(.int .i64 0))::E) D H) (fun g=>Gt g M c (ql 10) Q E D H)) /\
 (∀ Q E D H,W M c (ql 10) true Q E D H =
  Lz E 0 fun g t0=>C3 M g (.func kj) [t0] H fun g t17 H1=>W M c (ql 12) g Q ((3,t17)::E) D H1) /\
 (∀ Q E D H,W M c (ql 12) true Q E D H =
  Lz E 3 fun g t3=>C3 M g (.func qcd) [t3] H fun g t20 H1=>B3 g ((Op.extract 0) [t20]) fun g t21=>B3 g ((Op.extract 1) [t20]) fun g t22=>IF3 g t22 (fun g=>Ly g E 0 fun g t0=>Nf g 1 t0 H1 fun g t27=>Bn g .add t27 (.int .i64 1) fun g t28=>Ns g 1 t0 t28 H1 fun g u H2=>Ly g E 0 fun g t0_1=>C3 M g (.func x9) [t0_1,(.str [61])] H2 fun g t32 H3=>Ly g E 0 fun g t0_2=>C3 M g (.func xg) [t0_2] H3 fun g t34 H4=>Ly g E 0 fun g t0_3=>C3 M g (.func x9) [t0_3,(.str [59])] H4 fun g t36 H5=>Ly g E 0 fun g t0_4=>B32 g ((Op.buildSlice T_int 1 [(.int .i64 0)] [(0,1)]) [t34]) fun g o6 k6=>C3 M g (.func zm) [t0_4,(.int .i64 14),t21,(k6 H5.next)] (H5.alloc o6) fun g t41 H7=>GO3 g (SEQ3 (W M c (ql 30)) Q) .ret ((2,t41)::(6,t34)::(5,t22)::(4,t21)::E) D H7) (fun g=>Gt g M c (ql 30) Q ((5,t22)::(4,t21)::E) D H1)) /\
 (∀ Q E D H,W M c (ql 30) true Q E D H =
  Lz E 3 fun g t3=>Cb g .eql t3 (.str [115,116,111,114,101]) (fun g=>Ly g E 0 fun g t0=>Nf g 1 t0 H fun g t48=>Bn g .add t48 (.int .i64 1) fun g t49=>Ns g 1 t0 t49 H fun g u H1=>Ly g E 0 fun g t0_1=>C3 M g (.func x9) [t0_1,(.str [40])] H1 fun g t53 H2=>Ly g E 0 fun g t0_2=>C3 M g (.func xg) [t0_2] H2 fun g t55 H3=>Ly g E 0 fun g t0_3=>C3 M g (.func x9) [t0_3,(.str [44])] H3 fun g t57 H4=>Ly g E 0 fun g t0_4=>C3 M g (.func xg) [t0_4] H4 fun g t59 H5=>Ly g E 0 fun g t0_5=>C3 M g (.func x9) [t0_5,(.str [41])] H5 fun g t61 H6=>Ly g E 0 fun g t0_6=>C3 M g (.func x9) [t0_6,(.str [59])] H6 fun g t63 H7=>Ly g E 0 fun g t0_7=>B32 g ((Op.buildSlice T_int 2 [(.int .i64 0)] [(0,1),(1,1)]) [t55,t59]) fun g o8 k8=>C3 M g (.func zm) [t0_7,(.int .i64 15),(.int .u64 0),(k8 H7.next)] (H7.alloc o8) fun g t68 H9=>GO3 g (BLK3 0 (SEQ3 (W M c (ql 115)) Q)) .ret ((2,t68)::(8,t59)::(7,t55)::(42,t3)::E) D H9) (fun g=>Cb g .eql t3 (.str [105,102]) (fun g=>W M c (ql 57) g (BLK3 0 (SEQ3 (W M c (ql 115)) Q)) ((42,t3)::E) D H) (fun g=>W M c (ql 72) g (BLK3 0 (SEQ3 (W M c (ql 115)) Q)) ((42,t3)::E) D H))) /\
 (∀ Q E D H,W M c (ql 115) true Q E D H =
  Lz E 0 fun g t0=>C3 M g (.func jl) [t0] H fun g t170 H1=>GO3 g Q .ret ((2,t170)::E) D H1) /\
 (∀ Q E D H,W M c (ql 57) true Q E D H =
  Lz E 0 fun g t0=>Nf g 1 t0 H fun g t74=>Bn g .add t74 (.int .i64 1) fun g t75=>Ns g 1 t0 t75 H fun g u H1=>Ly g E 0 fun g t0_1=>B3 g ((Op.mkFunc xk 1) [t0_1]) fun g t80=>C3 M g (.func yc) [t0_1,t80] H1 fun g t81 H2=>C3 M g (.func xy) [t0_1] H2 fun g t83 H3=>B32 g ((Op.buildSlice T_int 2 [(.int .i64 0)] [(0,1),(1,1)]) [t81,t83]) fun g o4 k4=>W M c (ql 61) g Q ((9,(k4 H3.next))::E) D (H3.alloc o4)) /\
 (∀ Q E D H,W M c (ql 72) true Q E D H =
  Lz E 42 fun g t42=>Cb g .eql t42 (.str [119,104,105,108,101]) (fun g=>Ly g E 0 fun g t0=>Nf g 1 t0 H fun g t115=>Bn g .add t115 (.int .i64 1) fun g t116=>Ns g 1 t0 t116 H fun g u H1=>Ly g E 0 fun g t0_1=>B3 g ((Op.mkFunc xk 1) [t0_1]) fun g t121=>C3 M g (.func yc) [t0_1,t121] H1 fun g t122 H2=>Ly g E 0 fun g t0_2=>C3 M g (.func xy) [t0_2] H2 fun g t126 H3=>B32 g ((Op.buildSlice T_int 2 [(.int .i64 0)] [(0,1),(1,1)]) [t122,t126]) fun g o4 k4=>C3 M g (.func zm) [t0_2,(.int .i64 17),(.int .u64 0),(k4 H3.next)] (H3.alloc o4) fun g t128 H5=>GO3 g Q .ret ((2,t128)::(10,t122)::E) D H5) (fun g=>Ly g E 42 fun g t42_1=>Cb g .eql t42_1 (.str [97,116,111,109,105,99]) (fun g=>W M c (ql 85) g Q E D H) (fun g=>W M c (ql 104) g Q E D H))) /\
 (∀ Q E D H,W M c (ql 61) true Q E D H =
  Lz E 0 fun g t0=>Nf g 5 t0 H fun g t88=>B3 g ((Op.un .not) [t88]) fun g t89=>JN (fun (k:Bool->AV->AV->AV->AHeap->Prop)=>B3 g (wantV true (some t89)) fun g w=>IG3 g w (fun g=>C3 M g (.func kj) [t0] H fun g t92 H1=>Bn g .eql t92 (.str [101,108,115,101]) fun g t93=>k g t93 t92 t0 H1) (fun g=>k g uu uu uu H)) (fun g t93_1 t92_1 t91_1 H2=>B3 g (Op.pick [t89,t93_1,(.bool false)]) fun g t94=>IF3 g t94 (fun g=>Ly g E 0 fun g t0_1=>Nf g 1 t0_1 H2 fun g t98=>Bn g .add t98 (.int .i64 1) fun g t99=>Ns g 1 t0_1 t99 H2 fun g u H3=>Ly g E 9 fun g t9=>Ly g E 0 fun g t0_2=>C3 M g (.func xy) [t0_2] H3 fun g t104 H4=>B32 g ((Op.buildSlice T_int 1 [(.int .i64 0)] [(0,1)]) [t104]) fun g o5 k5=>B32 g ((Op.append T_int 1 8) [t9,(k5 H4.next)] (H4.alloc o5)) fun g t106 H6=>Gt g M c (ql 69) Q ((9,t106)::E) D H6) (fun g=>Gt g M c (ql 69) Q E D H2))) /\
 (∀ Q E D H,W M c (ql 85) true Q E D H =
  Lz E 0 fun g t0=>Nf g 4 t0 H fun g t134=>IF3 g t134 (fun g=>Ly g E 0 fun g t0_1=>C3 M g (.func jl) [t0_1] H fun g t136 H1=>GO3 g (SEQ3 (W M c (ql 93)) Q) .ret ((2,t136)::E) D H1) (fun g=>Gt g M c (ql 93) Q E D H)) /\
 (∀ Q E D H,W M c (ql 104) true Q E D H =
  Lz E 42 fun g t42=>Cb g .eql t42 (.str [104,97,108,116]) (fun g=>Ly g E 0 fun g t0=>Nf g 1 t0 H fun g t161=>Bn g .add t161 (.int .i64 1) fun g t162=>Ns g 1 t0 t162 H fun g u H1=>Ly g E 0 fun g t0_1=>C3 M g (.func x9) [t0_1,(.str [59])] H1 fun g t166 H2=>Ly g E 0 fun g t0_2=>C3 M g (.func zm) [t0_2,(.int .i64 19),(.int .u64 0),.nils] H2 fun g t168 H3=>GO3 g Q .ret ((2,t168)::E) D H3) (fun g=>GO3 g Q .normal E D H)) /\
 (∀ Q E D H,W M c (ql 69) true Q E D H =
  Lz E 0 fun g t0=>Ly g E 9 fun g t9=>C3 M g (.func zm) [t0,(.int .i64 16),(.int .u64 0),t9] H fun g t109 H1=>GO3 g Q .ret ((2,t109)::E) D H1) /\
 (∀ Q E D H,W M c (ql 93) true Q E D H =
  Lz E 0 fun g t0=>Nf g 1 t0 H fun g t140=>Bn g .add t140 (.int .i64 1) fun g t141=>Ns g 1 t0 t141 H fun g u H1=>Ly g E 0 fun g t0_1=>Ns g 4 t0_1 (.bool true) H1 fun g u_1 H2=>Ly g E 0 fun g t0_2=>C3 M g (.func xy) [t0_2] H2 fun g t148 H3=>Ly g E 0 fun g t0_3=>Ns g 4 t0_3 (.bool false) H3 fun g u_2 H4=>Ly g E 0 fun g t0_4=>B32 g ((Op.buildSlice T_int 1 [(.int .i64 0)] [(0,1)]) [t148]) fun g o5 k5=>C3 M g (.func zm) [t0_4,(.int .i64 18),(.int .u64 0),(k5 H4.next)] (H4.alloc o5) fun g t155 H6=>GO3 g Q .ret ((2,t155)::(11,t148)::E) D H6):=by (repeat' apply And.intro)<;>(intro _ _ _ _;refine W_unf ?_;kernel_rfl)
theorem qky:(cProg Tryd.prog).func qm=some qde/\qde.results=[.tmp 2]:=x6 (by kernel_rfl)
theorem qdf (h:W M ⟨none,qm⟩ (ql 0) true (FIN3 M [.tmp 2] Q) [(0,a0)] [] H):wu M qm [a0] H Q:=callf (by decide) qky (ks:=qf6) (by kernel_rfl) h
def qgi:AFunc:=funcAt Tryd.prog qbo
def qjy:Kp:=⟨[0,2],false,[0,2,10]⟩
def qau (k:Nat):Kp × ACode:=(qjy,part qgi.body k)
theorem qgj (M:Mac) (c:Ctx):(∀ Q E D H,W M c (qau 0) true Q E D H =
 W M c (qau 2) true Q ((2,.nils)::E) D H) /\
 (∀ Q E D H,W M c (qau 2) true Q E D H =
  Lz E 0 fun g t0=>B3 g ((Op.eq .slice false) [t0,.nils] H) fun g t4=>IF3 g t4 (fun g=>GO3 g (SEQ3 (W M c (qau 10)) Q) .ret ((2,.nils)::E) D H) (fun g=>Gt g M c (qau 10) Q E D H)) /\
 (∀ Q E D H,W M c (qau 10) true Q E D H =
  B32 true ((Op.buildSlice T_int 0 [(.int .i64 0)] []) []) fun g o1 k1=>Ly g E 0 fun g t0=>B32 g ((Op.append T_int 1 8) [(k1 H.next),t0] (H.alloc o1)) fun g t7 H2=>GO3 g Q .ret ((2,t7)::E) D H2):=by (repeat' apply And.intro)<;>(intro _ _ _ _;refine W_unf ?_;kernel_rfl)
theorem qpf:(cProg Tryd.prog).func qbo=some qgi/\qgi.results=[.tmp 2]:=x6 (by kernel_rfl)
theorem qpg (h:W M ⟨none,qbo⟩ (qau 0) true (FIN3 M [.tmp 2] Q) [(0,a0)] [] H):wu M qbo [a0] H Q:=callf (by decide) qpf (ks:=qjy) (by kernel_rfl) h
def qnj:AFunc:=funcAt Tryd.prog qfe
def qsl:Kp:=⟨[0,1,2,3,5,7,8,9],false,[0,4,9,15,26,27]⟩
def qat (k:Nat):Kp × ACode:=(qsl,part qnj.body k)
theorem qzu (M:Mac) (c:Ctx):(∀ Q E D H,W M c (qat 0) true Q E D H =
 Lz E 0 fun g t0=>A3 g yp (AV.cells t0) H fun g t1 H1=>B3 g ((Op.mkFunc qb0 0) [t1]) fun g t6=>W M c (qat 4) g Q ((3,t6)::(2,(.int .i64 0))::(1,t1)::E) D H1) /\
 (∀ Q E D H,W M c (qat 4) true Q E D H =
  B32 true ((Op.buildSlice yp 4 [(.str [])] [(0,1),(1,1),(2,1),(3,1)]) [(.str [61,61]),(.str [33,61]),(.str [60,60]),(.str [62,62])]) fun g o1 k1=>B3 g (Op.lenSl [(k1 H.next)]) fun g t8=>LOOP3 (W M c (qat 9)) (BLK3 0 (SEQ3 (W M c (qat 27)) Q)) ((9,(.int .i64 0))::(8,t8)::(7,(k1 H.next))::E) D (H.alloc o1)) /\
 (∀ Q E D H,W M c (qat 27) true Q E D H =
  Lz E 3 fun g t3=>V3 g [t3,(.int .u8 97),(.int .u8 122)] fun g f vs=>C3 M g f vs H fun g t18 H1=>V3 g [t3,(.int .u8 48),(.int .u8 57)] fun g f vs=>C3 M g f vs H1 fun g t20 H2=>B3 g ((Op.minmax true) [(.int .i64 1),t18,t20]) fun g t21=>GO3 g Q .ret ((2,t21)::E) D H2) /\
 (∀ Q E D H,W M c (qat 9) true Q E D H =
  Lz E 9 fun g t9=>Ly g E 8 fun g t8=>Cb g .lss t9 t8 (fun g=>Gt g M c (qat 15) Q E D H) (fun g=>GO3 g (SEQ3 (W M c (qat 15)) Q) (.exit 0) E D H)) /\
 (∀ Q E D H,W M c (qat 15) true Q E D H =
  Lz E 7 fun g t7=>Ly g E 9 fun g t9=>Xl g t7 t9 H fun g t12=>Ly g E 1 fun g t1=>B3 g (Op.load1 [t1] H) fun g t13=>C3 M g (.func jy) [t13,t12] H fun g t15 H1=>IF3 g t15 (fun g=>GO3 g (BLK3 1 (SEQ3 (W M c (qat 26)) Q)) .ret ((2,(.int .i64 2))::(5,t12)::E) D H1) (fun g=>GO3 g (BLK3 1 (SEQ3 (W M c (qat 26)) Q)) .normal ((5,t12)::E) D H1)) /\
 (∀ Q E D H,W M c (qat 26) true Q E D H =
  Lz E 9 fun g t9=>Bn g .add t9 (.int .i64 1) fun g t16=>GO3 g Q .normal ((9,t16)::E) D H):=by (repeat' apply And.intro)<;>(intro _ _ _ _;refine W_unf ?_;kernel_rfl)
theorem qzs:(cProg Tryd.prog).func qfe=some qnj/\qnj.results=[.tmp 2]:=x6 (by kernel_rfl)
theorem qzt (h:W M ⟨none,qfe⟩ (qat 0) true (FIN3 M [.tmp 2] Q) [(0,a0)] [] H):wu M qfe [a0] H Q:=callf (by decide) qzs (ks:=qsl) (by kernel_rfl) h
def qiw:AFunc:=funcAt Tryd.prog qcd
def qly:Kp:=⟨[0,2,3],false,[0,2,10]⟩
def qcg (k:Nat):Kp × ACode:=(qly,part qiw.body k)
theorem qeg (M:Mac) (c:Ctx):(∀ Q E D H,W M c (qcg 0) true Q E D H =
 W M c (qcg 2) true Q ((3,(.bool false))::(2,(.int .u64 0))::E) D H) /\
 (∀ Q E D H,W M c (qcg 2) true Q E D H =
  Lz E 0 fun g t0=>B3 g (Op.lenStr [t0]) fun g t5=>Bn g .neq t5 (.int .i64 1) fun g t6=>JN (fun (k:Bool->AV->AV->AV->AHeap->Prop)=>B3 g (wantV false (some t6)) fun g w=>IG3 g w (fun g=>B3 g (Op.indexStr [t0,(.int .i64 0)]) fun g t9=>Bn g .lss t9 (.int .u8 97) fun g t10=>k g t10 t9 t0 H) (fun g=>k g uu uu uu H)) (fun g t10_1 t9_1 t8_1 H1=>B3 g (Op.pick [t6,(.bool true),t10_1]) fun g t11=>JN (fun (k:Bool->AV->AV->AV->AHeap->Prop)=>B3 g (wantV false (some t11)) fun g w=>IG3 g w (fun g=>B3 g (Op.indexStr [t0,(.int .i64 0)]) fun g t14=>Bn g .gtr t14 (.int .u8 104) fun g t15=>k g t15 t14 t0 H1) (fun g=>k g uu uu uu H1)) (fun g t15_1 t14_1 t13_1 H2=>B3 g (Op.pick [t11,(.bool true),t15_1]) fun g t16=>IF3 g t16 (fun g=>GO3 g (SEQ3 (W M c (qcg 10)) Q) .ret ((3,(.bool false))::(2,(.int .u64 0))::E) D H2) (fun g=>Gt g M c (qcg 10) Q E D H2)))) /\
 (∀ Q E D H,W M c (qcg 10) true Q E D H =
  Lz E 0 fun g t0=>B3 g (Op.indexStr [t0,(.int .i64 0)]) fun g t18=>Bn g .sub t18 (.int .u8 97) fun g t19=>B3 g ((Op.wrap .u64) [t19]) fun g t20=>GO3 g Q .ret ((3,(.bool true))::(2,t20)::E) D H):=by (repeat' apply And.intro)<;>(intro _ _ _ _;refine W_unf ?_;kernel_rfl)
theorem qsp:(cProg Tryd.prog).func qcd=some qiw/\qiw.results=[.tmp 2,.tmp 3]:=x6 (by kernel_rfl)
theorem qsq (h:W M ⟨none,qcd⟩ (qcg 0) true (FIN3 M [.tmp 2,.tmp 3] Q) [(0,a0)] [] H):wu M qcd [a0] H Q:=callf (by decide) qsp (ks:=qly) (by kernel_rfl) h
def qf7:AFunc:=funcAt Tryd.prog x9
def qjl:Kp:=⟨[0,1,31,32,42],false,[0,8,18,20,26,29]⟩
def zw (k:Nat):Kp × ACode:=(qjl,part qf7.body k)
theorem qor (M:Mac) (c:Ctx):(∀ Q E D H,W M c (zw 0) true Q E D H =
 Lz E 0 fun g t0=>Nf g 5 t0 H fun g t7=>JN (fun (k:Bool->AV->AV->AV->AV->AHeap->Prop)=>B3 g (wantV false (some t7)) fun g w=>IG3 g w (fun g=>C3 M g (.func kj) [t0] H fun g t10 H1=>Ly g E 1 fun g t1=>Bn g .neq t10 t1 fun g t12=>k g t12 t1 t10 t0 H1) (fun g=>k g uu uu uu uu H)) (fun g t12_1 t11_1 t10_1 t9_1 H2=>B3 g (Op.pick [t7,(.bool true),t12_1]) fun g t13=>JN (fun (k:Bool->AV->AV->AV->AHeap->Prop)=>B3 g (wantV false (some t13)) fun g w=>IG3 g w (fun g=>Ly g E 1 fun g t1_1=>Bn g .eql t1_1 (.str [40]) fun g t16=>k g t16 t16 t1_1 H2) (fun g=>k g uu uu uu H2)) (fun g t17_1 t16_1 t15_1 H3=>JN (fun (k:Bool->AV->AV->AHeap->Prop)=>B3 g (wantV false (some t17_1)) fun g w=>IG3 g w (fun g=>Ly g E 1 fun g t1_2=>Bn g .eql t1_2 (.str [123]) fun g t19=>k g t19 t1_2 H3) (fun g=>k g uu uu H3)) (fun g t19_1 t18_1 H4=>JN (fun (k:Bool->AV->AV->AHeap->Prop)=>B3 g (wantV false (some t13)) fun g w=>IG3 g w (fun g=>B3 g (Op.pick [t17_1,(.bool true),t19_1]) fun g t20=>k g t20 t20 H4) (fun g=>k g uu uu H4)) (fun g t21_1 t20_1 H5=>JN (fun (k:Bool->AV->AV->AV->AV->AV->AHeap->Prop)=>B3 g (wantV true (some t21_1)) fun g w=>IG3 g w (fun g=>B3 g (Op.nilCheck [t0]) fun g t23=>B3 g ((Op.fieldAddr 3) [t23]) fun g t24=>B3 g (Op.load1 [t24] H5) fun g t25=>Bn g .geq t25 (.int .i64 50) fun g t26=>k g t26 t25 t24 t23 t0 H5) (fun g=>k g uu uu uu uu uu H5)) (fun g t26_1 t25_1 t24_1 t23_1 t22_1 H6=>JN (fun (k:Bool->AV->AHeap->Prop)=>B3 g (wantV false (some t13)) fun g w=>IG3 g w (fun g=>B3 g (Op.pick [t21_1,t26_1,(.bool false)]) fun g t27=>k g t27 H6) (fun g=>k g uu H6)) (fun g t27_1 H7=>B3 g (Op.pick [t13,(.bool true),t27_1]) fun g t28=>IF3 g t28 (fun g=>Ly g E 0 fun g t0_1=>C3 M g (.func jl) [t0_1] H7 fun g t30 H8=>GO3 g (SEQ3 (W M c (zw 8)) Q) .ret E D H8) (fun g=>Gt g M c (zw 8) Q E D H7)))))))) /\
 (∀ Q E D H,W M c (zw 8) true Q E D H =
  Lz E 1 fun g t1=>Bn g .eql t1 (.str [40]) fun g t33=>IF3 g t33 (fun g=>Gt g M c (zw 18) (BLK3 0 (SEQ3 (W M c (zw 29)) Q)) ((32,t33)::(31,t1)::E) D H) (fun g=>Bn g .eql t1 (.str [123]) fun g t34=>Gt g M c (zw 18) (BLK3 0 (SEQ3 (W M c (zw 29)) Q)) ((32,t34)::(32,t33)::(31,t1)::E) D H)) /\
 (∀ Q E D H,W M c (zw 29) true Q E D H =
  Lz E 0 fun g t0=>Nf g 1 t0 H fun g t55=>Bn g .add t55 (.int .i64 1) fun g t56=>Ns g 1 t0 t56 H fun g u H1=>GO3 g Q .normal E D H1) /\
 (∀ Q E D H,W M c (zw 18) true Q E D H =
  Lz E 32 fun g t32=>IF3 g t32 (fun g=>Ly g E 0 fun g t0=>Nf g 3 t0 H fun g t38=>Bn g .add t38 (.int .i64 1) fun g t39=>Ns g 3 t0 t39 H fun g u H1=>GO3 g Q .normal E D H1) (fun g=>W M c (zw 20) g Q E D H)) /\
 (∀ Q E D H,W M c (zw 20) true Q E D H =
  Lz E 31 fun g t31=>Bn g .eql t31 (.str [41]) fun g t43=>IF3 g t43 (fun g=>Gt g M c (zw 26) Q ((42,t43)::E) D H) (fun g=>Ly g E 31 fun g t31_1=>Bn g .eql t31_1 (.str [125]) fun g t44=>Gt g M c (zw 26) Q ((42,t44)::(42,t43)::E) D H)) /\
 (∀ Q E D H,W M c (zw 26) true Q E D H =
  Lz E 42 fun g t42=>IF3 g t42 (fun g=>Ly g E 0 fun g t0=>Nf g 3 t0 H fun g t48=>Bn g .sub t48 (.int .i64 1) fun g t49=>Ns g 3 t0 t49 H fun g u H1=>GO3 g Q .normal E D H1) (fun g=>GO3 g Q .normal E D H)):=by (repeat' apply And.intro)<;>(intro _ _ _ _;refine W_unf ?_;kernel_rfl)
theorem qop:(cProg Tryd.prog).func x9=some qf7/\qf7.results=[]:=x6 (by kernel_rfl)
theorem qoq (h:W M ⟨none,x9⟩ (zw 0) true (FIN3 M [] Q) [(0,a0),(1,a1)] [] H):wu M x9 [a0,a1] H Q:=callf (by decide) qop (ks:=qjl) (by kernel_rfl) h
def qf3:AFunc:=funcAt Tryd.prog xg
def qjf:Kp:=⟨[0,2],false,[0]⟩
def qjg (k:Nat):Kp × ACode:=(qjf,part qf3.body k)
theorem qoi (M:Mac) (c:Ctx):(∀ Q E D H,W M c (qjg 0) true Q E D H =
 Lz E 0 fun g t0=>B3 g ((Op.mkFunc j6 1) [t0]) fun g t5=>C3 M g (.func jq) [t0,(.int .i64 1),t5] H fun g t6 H1=>GO3 g Q .ret ((2,t6)::(2,(.int .i64 0))::E) D H1):=by intro _ _ _ _;refine W_unf ?_;kernel_rfl
theorem qog:(cProg Tryd.prog).func xg=some qf3/\qf3.results=[.tmp 2]:=x6 (by kernel_rfl)
theorem qoh (h:W M ⟨none,xg⟩ (qjg 0) true (FIN3 M [.tmp 2] Q) [(0,a0)] [] H):wu M xg [a0] H Q:=callf (by decide) qog (ks:=qjf) (by kernel_rfl) h
def qe1:AFunc:=funcAt Tryd.prog yc
def qho:Kp:=⟨[0,1,4,5],false,[0]⟩
def qhp (k:Nat):Kp × ACode:=(qho,part qe1.body k)
theorem qmt (M:Mac) (c:Ctx):(∀ Q E D H,W M c (qhp 0) true Q E D H =
 Lz E 0 fun g t0=>C3 M g (.func x9) [t0,(.str [40])] H fun g t7 H1=>Ly g E 1 fun g t1=>V3 g [t1] fun g f vs=>C3 M g f vs H1 fun g t9 H2=>Ly g E 0 fun g t0_1=>C3 M g (.func x9) [t0_1,(.str [41])] H2 fun g t11 H3=>GO3 g Q .ret ((4,t9)::(5,t9)::(4,(.int .i64 0))::E) D H3):=by intro _ _ _ _;refine W_unf ?_;kernel_rfl
theorem qmr:(cProg Tryd.prog).func yc=some qe1/\qe1.results=[.tmp 4]:=x6 (by kernel_rfl)
theorem qms (h:W M ⟨none,yc⟩ (qhp 0) true (FIN3 M [.tmp 4] Q) [(0,a0),(1,a1)] [] H):wu M yc [a0,a1] H Q:=callf (by decide) qmr (ks:=qho) (by kernel_rfl) h
def qf2:AFunc:=funcAt Tryd.prog xk
def qje:Kp:=⟨[0,2,3,4,5,13],false,[0,4,12,14,26,33]⟩
def z4 (k:Nat):Kp × ACode:=(qje,part qf2.body k)
theorem qd4 (M:Mac) (c:Ctx):(∀ Q E D H,W M c (z4 0) true Q E D H =
 Lz E 0 fun g t0=>C3 M g (.func xg) [t0] H fun g t7 H1=>W M c (z4 4) g Q ((3,t7)::(2,(.int .i64 0))::E) D H1) /\
 (∀ Q E D H,W M c (z4 4) true Q E D H =
  Lz E 0 fun g t0=>Nf g 5 t0 H fun g t11=>IF3 g t11 (fun g=>GO3 g (SEQ3 (W M c (z4 12)) Q) .ret ((2,(.int .i64 0))::E) D H) (fun g=>Gt g M c (z4 12) Q E D H)) /\
 (∀ Q E D H,W M c (z4 12) true Q E D H =
  W M c (z4 14) true Q ((4,(.int .i64 0))::E) D H) /\
 (∀ Q E D H,W M c (z4 14) true Q E D H =
  Lz E 0 fun g t0=>C3 M g (.func kj) [t0] H fun g t13 H1=>Cb g .eql t13 (.str [61,61]) (fun g=>GO3 g (BLK3 0 (SEQ3 (W M c (z4 33)) Q)) .normal ((4,(.int .i64 11))::(13,t13)::E) D H1) (fun g=>Cb g .eql t13 (.str [33,61]) (fun g=>GO3 g (BLK3 0 (SEQ3 (W M c (z4 33)) Q)) .normal ((4,(.int .i64 12))::(13,t13)::E) D H1) (fun g=>W M c (z4 26) g (BLK3 0 (SEQ3 (W M c (z4 33)) Q)) ((13,t13)::E) D H1))) /\
 (∀ Q E D H,W M c (z4 33) true Q E D H =
  Lz E 0 fun g t0=>Nf g 1 t0 H fun g t25=>Bn g .add t25 (.int .i64 1) fun g t26=>Ns g 1 t0 t26 H fun g u H1=>Ly g E 0 fun g t0_1=>C3 M g (.func xg) [t0_1] H1 fun g t30 H2=>Ly g E 0 fun g t0_2=>Ly g E 4 fun g t4=>Ly g E 3 fun g t3=>B32 g ((Op.buildSlice T_int 2 [(.int .i64 0)] [(0,1),(1,1)]) [t3,t30]) fun g o3 k3=>C3 M g (.func zm) [t0_2,t4,(.int .u64 0),(k3 H2.next)] (H2.alloc o3) fun g t36 H4=>GO3 g Q .ret ((2,t36)::(5,t30)::E) D H4) /\
 (∀ Q E D H,W M c (z4 26) true Q E D H =
  Lz E 13 fun g t13=>Cb g .eql t13 (.str [60]) (fun g=>GO3 g Q .normal ((4,(.int .i64 13))::E) D H) (fun g=>Ly g E 0 fun g t0=>C3 M g (.func jl) [t0] H fun g t15 H1=>GO3 g Q .ret ((2,t15)::E) D H1)):=by (repeat' apply And.intro)<;>(intro _ _ _ _;refine W_unf ?_;kernel_rfl)
theorem qof:(cProg Tryd.prog).func xk=some qf2/\qf2.results=[.tmp 2]:=x6 (by kernel_rfl)
theorem qd3 (h:W M ⟨none,xk⟩ (z4 0) true (FIN3 M [.tmp 2] Q) [(0,a0)] [] H):wu M xk [a0] H Q:=callf (by decide) qof (ks:=qje) (by kernel_rfl) h
def qff:AFunc:=funcAt Tryd.prog xy
def qis:Kp:=⟨[0,2,3],false,[0,4,8,16]⟩
def yk (k:Nat):Kp × ACode:=(qis,part qff.body k)
theorem qiu (M:Mac) (c:Ctx):(∀ Q E D H,W M c (yk 0) true Q E D H =
 Lz E 0 fun g t0=>C3 M g (.func x9) [t0,(.str [123])] H fun g t5 H1=>W M c (yk 4) g Q ((2,(.int .i64 0))::E) D H1) /\
 (∀ Q E D H,W M c (yk 4) true Q E D H =
  Lz E 0 fun g t0=>C3 M g (.func zd) [t0,(.str [125])] H fun g t7 H1=>Ly g E 0 fun g t0_1=>C3 M g (.func x9) [t0_1,(.str [125])] H1 fun g t9 H2=>W M c (yk 8) g Q ((3,t7)::E) D H2) /\
 (∀ Q E D H,W M c (yk 8) true Q E D H =
  Lz E 0 fun g t0=>Nf g 5 t0 H fun g t13=>IF3 g t13 (fun g=>GO3 g (SEQ3 (W M c (yk 16)) Q) .ret ((2,(.int .i64 0))::E) D H) (fun g=>Gt g M c (yk 16) Q E D H)) /\
 (∀ Q E D H,W M c (yk 16) true Q E D H =
  Lz E 0 fun g t0=>Ly g E 3 fun g t3=>C3 M g (.func zm) [t0,(.int .i64 20),(.int .u64 0),t3] H fun g t16 H1=>GO3 g Q .ret ((2,t16)::E) D H1):=by (repeat' apply And.intro)<;>(intro _ _ _ _;refine W_unf ?_;kernel_rfl)
theorem qnh:(cProg Tryd.prog).func xy=some qff/\qff.results=[.tmp 2]:=x6 (by kernel_rfl)
theorem qit (h:W M ⟨none,xy⟩ (yk 0) true (FIN3 M [.tmp 2] Q) [(0,a0)] [] H):wu M xy [a0] H Q:=callf (by decide) qnh (ks:=qis) (by kernel_rfl) h
def qf4:AFunc:=funcAt Tryd.prog jl
def qjh:Kp:=⟨[0,2],false,[0]⟩
def qji (k:Nat):Kp × ACode:=(qjh,part qf4.body k)
theorem qol (M:Mac) (c:Ctx):(∀ Q E D H,W M c (qji 0) true Q E D H =
 Lz E 0 fun g t0=>Ns g 5 t0 (.bool true) H fun g u H1=>GO3 g Q .ret ((2,(.int .i64 0))::(2,(.int .i64 0))::E) D H1):=by intro _ _ _ _;refine W_unf ?_;kernel_rfl
theorem qoj:(cProg Tryd.prog).func jl=some qf4/\qf4.results=[.tmp 2]:=x6 (by kernel_rfl)
theorem qok (h:W M ⟨none,jl⟩ (qji 0) true (FIN3 M [.tmp 2] Q) [(0,a0)] [] H):wu M jl [a0] H Q:=callf (by decide) qoj (ks:=qjh) (by kernel_rfl) h
def qkz:AFunc:=funcAt Tryd.prog qb0
def qov:Kp:=⟨[0,1,2,5,6],false,[0,4,7,13,15]⟩
def qas (k:Nat):Kp × ACode:=(qov,part qkz.body k)
theorem qvw (M:Mac) (c:Ctx):(∀ Q E D H,W M c (qas 0) true Q E D H =
 W M c (qas 4) true Q ((6,(.int .i64 0))::(5,(.int .i64 0))::E) D H) /\
 (∀ Q E D H,W M c (qas 4) true Q E D H =
  LOOP3 (W M c (qas 7)) (BLK3 0 (SEQ3 (W M c (qas 15)) Q)) E D H) /\
 (∀ Q E D H,W M c (qas 15) true Q E D H =
  Lz E 6 fun g t6=>GO3 g Q .ret ((5,t6)::E) D H) /\
 (∀ Q E D H,W M c (qas 7) true Q E D H =
  Lz E 6 fun g t6=>Ly g E 2 fun g t2=>B3 g (Op.load1 [t2] H) fun g t8=>B3 g (Op.lenStr [t8]) fun g t9=>Bn g .lss t6 t9 fun g t10=>JN (fun (k:Bool->AV->AV->AV->AV->AV->AHeap->Prop)=>B3 g (wantV true (some t10)) fun g w=>IG3 g w (fun g=>B3 g (Op.load1 [t2] H) fun g t12=>B3 g (Op.indexStr [t12,t6]) fun g t14=>Ly g E 0 fun g t0=>Bn g .geq t14 t0 fun g t16=>k g t16 t0 t14 t6 t12 H) (fun g=>k g uu uu uu uu uu H)) (fun g t16_1 t15_1 t14_1 t13_1 t12_1 H1=>B3 g (Op.pick [t10,t16_1,(.bool false)]) fun g t17=>JN (fun (k:Bool->AV->AV->AV->AV->AV->AHeap->Prop)=>B3 g (wantV true (some t17)) fun g w=>IG3 g w (fun g=>B3 g (Op.load1 [t2] H1) fun g t19=>B3 g (Op.indexStr [t19,t6]) fun g t21=>Ly g E 1 fun g t1=>Bn g .leq t21 t1 fun g t23=>k g t23 t1 t21 t6 t19 H1) (fun g=>k g uu uu uu uu uu H1)) (fun g t23_1 t22_1 t21_1 t20_1 t19_1 H2=>B3 g (Op.pick [t17,t23_1,(.bool false)]) fun g t24=>IF3 g t24 (fun g=>Gt g M c (qas 13) Q E D H2) (fun g=>GO3 g (SEQ3 (W M c (qas 13)) Q) (.exit 0) E D H2)))) /\
 (∀ Q E D H,W M c (qas 13) true Q E D H =
  Lz E 6 fun g t6=>Bn g .add t6 (.int .i64 1) fun g t26=>GO3 g (BLK3 1 Q) .normal ((6,t26)::E) D H):=by (repeat' apply And.intro)<;>(intro _ _ _ _;refine W_unf ?_;kernel_rfl)
theorem qvu:(cProg Tryd.prog).func qb0=some qkz/\qkz.results=[.tmp 5]:=x6 (by kernel_rfl)
theorem qvv (h:W M ⟨none,qb0⟩ (qas 0) true (FIN3 M [.tmp 5] Q) [(0,a0),(1,a1),(2,a2)] [] H):wu M qb0 [a0,a1,a2] H Q:=callf (by decide) qvu (ks:=qov) (by kernel_rfl) h
def qgy:AFunc:=funcAt Tryd.prog jq
def qkg:Kp:=⟨[0,1,2,6,7,8,9,10],false,[0,4,7,13,16,22,27]⟩
def zx (k:Nat):Kp × ACode:=(qkg,part qgy.body k)
theorem qet (M:Mac) (c:Ctx):(∀ Q E D H,W M c (zx 0) true Q E D H =
 Lz E 2 fun g t2=>V3 g [t2] fun g f vs=>C3 M g f vs H fun g t12 H1=>W M c (zx 4) g Q ((7,t12)::(6,(.int .i64 0))::E) D H1) /\
 (∀ Q E D H,W M c (zx 4) true Q E D H =
  LOOP3 (W M c (zx 7)) (BLK3 0 (SEQ3 (W M c (zx 27)) Q)) E D H) /\
 (∀ Q E D H,W M c (zx 27) true Q E D H =
  Lz E 7 fun g t7=>GO3 g Q .ret ((6,t7)::E) D H) /\
 (∀ Q E D H,W M c (zx 7) true Q E D H =
  Lz E 0 fun g t0=>Nf g 5 t0 H fun g t16=>B3 g ((Op.un .not) [t16]) fun g t17=>IF3 g t17 (fun g=>Gt g M c (zx 13) Q E D H) (fun g=>GO3 g (SEQ3 (W M c (zx 13)) Q) (.exit 0) E D H)) /\
 (∀ Q E D H,W M c (zx 13) true Q E D H =
  Lz E 0 fun g t0=>C3 M g (.func kj) [t0] H fun g t20 H1=>C3 M g (.func qea) [t20] H1 fun g t21 H2=>B3 g ((Op.extract 0) [t21]) fun g t22=>B3 g ((Op.extract 1) [t21]) fun g t23=>W M c (zx 16) g (BLK3 1 Q) ((9,t23)::(8,t22)::E) D H2) /\
 (∀ Q E D H,W M c (zx 16) true Q E D H =
  Lz E 9 fun g t9=>Ly g E 1 fun g t1=>Cb g .neq t9 t1 (fun g=>GO3 g (SEQ3 (W M c (zx 22)) Q) (.exit 0) E D H) (fun g=>Gt g M c (zx 22) Q E D H)) /\
 (∀ Q E D H,W M c (zx 22) true Q E D H =
  Lz E 0 fun g t0=>Nf g 1 t0 H fun g t30=>Bn g .add t30 (.int .i64 1) fun g t31=>Ns g 1 t0 t31 H fun g u H1=>Ly g E 2 fun g t2=>V3 g [t2] fun g f vs=>C3 M g f vs H1 fun g t35 H2=>Ly g E 0 fun g t0_1=>Ly g E 8 fun g t8=>Ly g E 7 fun g t7=>B32 g ((Op.buildSlice T_int 2 [(.int .i64 0)] [(0,1),(1,1)]) [t7,t35]) fun g o3 k3=>C3 M g (.func zm) [t0_1,t8,(.int .u64 0),(k3 H2.next)] (H2.alloc o3) fun g t41 H4=>GO3 g Q .normal ((7,t41)::(10,t35)::E) D H4):=by (repeat' apply And.intro)<;>(intro _ _ _ _;refine W_unf ?_;kernel_rfl)
theorem qpt:(cProg Tryd.prog).func jq=some qgy/\qgy.results=[.tmp 6]:=x6 (by kernel_rfl)
theorem qpu (h:W M ⟨none,jq⟩ (zx 0) true (FIN3 M [.tmp 6] Q) [(0,a0),(1,a1),(2,a2)] [] H):wu M jq [a0,a1,a2] H Q:=callf (by decide) qpt (ks:=qkg) (by kernel_rfl) h
def qf8:AFunc:=funcAt Tryd.prog j6
def qjm:Kp:=⟨[0,2],false,[0]⟩
def qjn (k:Nat):Kp × ACode:=(qjm,part qf8.body k)
theorem qou (M:Mac) (c:Ctx):(∀ Q E D H,W M c (qjn 0) true Q E D H =
 Lz E 0 fun g t0=>B3 g ((Op.mkFunc xd 1) [t0]) fun g t5=>C3 M g (.func jq) [t0,(.int .i64 2),t5] H fun g t6 H1=>GO3 g Q .ret ((2,t6)::(2,(.int .i64 0))::E) D H1):=by intro _ _ _ _;refine W_unf ?_;kernel_rfl
theorem qos:(cProg Tryd.prog).func j6=some qf8/\qf8.results=[.tmp 2]:=x6 (by kernel_rfl)
theorem qot (h:W M ⟨none,j6⟩ (qjn 0) true (FIN3 M [.tmp 2] Q) [(0,a0)] [] H):wu M j6 [a0] H Q:=callf (by decide) qos (ks:=qjm) (by kernel_rfl) h
def qez:AFunc:=funcAt Tryd.prog xd
def qhn:Kp:=⟨[0,2,3,4,5,6,7,8],false,[0,2,10,12,24,42,49,51,59]⟩
def xe (k:Nat):Kp × ACode:=(qhn,part qez.body k)
theorem vy (M:Mac) (c:Ctx):(∀ Q E D H,W M c (xe 0) true Q E D H =
 W M c (xe 2) true Q ((2,(.int .i64 0))::E) D H) /\
 (∀ Q E D H,W M c (xe 2) true Q E D H =
  Lz E 0 fun g t0=>Nf g 5 t0 H fun g t12=>IF3 g t12 (fun g=>GO3 g (SEQ3 (W M c (xe 10)) Q) .ret ((2,(.int .i64 0))::E) D H) (fun g=>Gt g M c (xe 10) Q E D H)) /\
 (∀ Q E D H,W M c (xe 10) true Q E D H =
  Lz E 0 fun g t0=>C3 M g (.func kj) [t0] H fun g t14 H1=>W M c (xe 12) g Q ((3,t14)::E) D H1) /\
 (∀ Q E D H,W M c (xe 12) true Q E D H =
  Lz E 3 fun g t3=>C3 M g (.func qcd) [t3] H fun g t17 H1=>B3 g ((Op.extract 0) [t17]) fun g t18=>B3 g ((Op.extract 1) [t17]) fun g t19=>IF3 g t19 (fun g=>Ly g E 0 fun g t0=>Nf g 1 t0 H1 fun g t24=>Bn g .add t24 (.int .i64 1) fun g t25=>Ns g 1 t0 t25 H1 fun g u H2=>Ly g E 0 fun g t0_1=>C3 M g (.func zm) [t0_1,(.int .i64 2),t18,.nils] H2 fun g t30 H3=>GO3 g (SEQ3 (W M c (xe 24)) Q) .ret ((2,t30)::(5,t19)::(4,t18)::E) D H3) (fun g=>Gt g M c (xe 24) Q ((5,t19)::(4,t18)::E) D H1)) /\
 (∀ Q E D H,W M c (xe 24) true Q E D H =
  Lz E 3 fun g t3=>Cb g .eql t3 (.str [108,111,97,100]) (fun g=>Ly g E 0 fun g t0=>Nf g 1 t0 H fun g t37=>Bn g .add t37 (.int .i64 1) fun g t38=>Ns g 1 t0 t38 H fun g u H1=>Ly g E 0 fun g t0_1=>B3 g ((Op.mkFunc xg 1) [t0_1]) fun g t43=>C3 M g (.func yc) [t0_1,t43] H1 fun g t44 H2=>Ly g E 0 fun g t0_2=>B32 g ((Op.buildSlice T_int 1 [(.int .i64 0)] [(0,1)]) [t44]) fun g o3 k3=>C3 M g (.func zm) [t0_2,(.int .i64 3),(.int .u64 0),(k3 H2.next)] (H2.alloc o3) fun g t48 H4=>GO3 g (BLK3 0 (SEQ3 (W M c (xe 49)) Q)) .ret ((2,t48)::(6,t44)::E) D H4) (fun g=>Ly g E 3 fun g t3_1=>Cb g .eql t3_1 (.str [40]) (fun g=>Ly g E 0 fun g t0=>B3 g ((Op.mkFunc xg 1) [t0]) fun g t54=>C3 M g (.func yc) [t0,t54] H fun g t55 H1=>GO3 g (BLK3 0 (SEQ3 (W M c (xe 49)) Q)) .ret ((2,t55)::E) D H1) (fun g=>W M c (xe 42) g (BLK3 0 (SEQ3 (W M c (xe 49)) Q)) E D H))) /\
 (∀ Q E D H,W M c (xe 49) true Q E D H =
  Lz E 3 fun g t3=>C3 M g (.func qa9) [t3,(.int .i64 10),(.int .i64 64)] H fun g t83 H1=>B3 g ((Op.extract 0) [t83]) fun g t84=>B3 g ((Op.extract 1) [t83]) fun g t85=>W M c (xe 51) g Q ((8,t85)::(7,t84)::E) D H1) /\
 (∀ Q E D H,W M c (xe 42) true Q E D H =
  Lz E 3 fun g t3=>Bn g .eql t3 (.str []) fun g t58=>JN (fun (k:Bool->AV->AV->AV->AHeap->Prop)=>B3 g (wantV false (some t58)) fun g w=>IG3 g w (fun g=>B3 g (Op.indexStr [t3,(.int .i64 0)]) fun g t61=>Bn g .lss t61 (.int .u8 48) fun g t62=>k g t62 t61 t3 H) (fun g=>k g uu uu uu H)) (fun g t62_1 t61_1 t60_1 H1=>B3 g (Op.pick [t58,(.bool true),t62_1]) fun g t63=>JN (fun (k:Bool->AV->AV->AV->AHeap->Prop)=>B3 g (wantV false (some t63)) fun g w=>IG3 g w (fun g=>B3 g (Op.indexStr [t3,(.int .i64 0)]) fun g t66=>Bn g .gtr t66 (.int .u8 57) fun g t67=>k g t67 t66 t3 H1) (fun g=>k g uu uu uu H1)) (fun g t67_1 t66_1 t65_1 H2=>B3 g (Op.pick [t63,(.bool true),t67_1]) fun g t68=>JN (fun (k:Bool->AV->AV->AV->AV->AHeap->Prop)=>B3 g (wantV false (some t68)) fun g w=>IG3 g w (fun g=>B3 g (Op.lenStr [t3]) fun g t71=>Bn g .gtr t71 (.int .i64 1) fun g t72=>k g t72 t72 t71 t3 H2) (fun g=>k g uu uu uu uu H2)) (fun g t73_1 t72_1 t71_1 t70_1 H3=>JN (fun (k:Bool->AV->AV->AV->AHeap->Prop)=>B3 g (wantV true (some t73_1)) fun g w=>IG3 g w (fun g=>B3 g (Op.indexStr [t3,(.int .i64 0)]) fun g t75=>Bn g .eql t75 (.int .u8 48) fun g t76=>k g t76 t75 t3 H3) (fun g=>k g uu uu uu H3)) (fun g t76_1 t75_1 t74_1 H4=>JN (fun (k:Bool->AV->AHeap->Prop)=>B3 g (wantV false (some t68)) fun g w=>IG3 g w (fun g=>B3 g (Op.pick [t73_1,t76_1,(.bool false)]) fun g t77=>k g t77 H4) (fun g=>k g uu H4)) (fun g t77_1 H5=>B3 g (Op.pick [t68,(.bool true),t77_1]) fun g t78=>IF3 g t78 (fun g=>Ly g E 0 fun g t0=>C3 M g (.func jl) [t0] H5 fun g t80 H6=>GO3 g Q .ret ((2,t80)::E) D H6) (fun g=>GO3 g Q .normal E D H5))))))) /\
 (∀ Q E D H,W M c (xe 51) true Q E D H =
  Lz E 8 fun g t8=>B3 g ((Op.eq .iface true) [t8,.nili] H) fun g t87=>IF3 g t87 (fun g=>Ly g E 0 fun g t0=>C3 M g (.func jl) [t0] H fun g t89 H1=>GO3 g (SEQ3 (W M c (xe 59)) Q) .ret ((2,t89)::E) D H1) (fun g=>Gt g M c (xe 59) Q E D H)) /\
 (∀ Q E D H,W M c (xe 59) true Q E D H =
  Lz E 0 fun g t0=>Nf g 1 t0 H fun g t93=>Bn g .add t93 (.int .i64 1) fun g t94=>Ns g 1 t0 t94 H fun g u H1=>Ly g E 0 fun g t0_1=>Ly g E 7 fun g t7=>C3 M g (.func zm) [t0_1,(.int .i64 1),t7,.nils] H1 fun g t99 H2=>GO3 g Q .ret ((2,t99)::E) D H2):=by (repeat' apply And.intro)<;>(intro _ _ _ _;refine W_unf ?_;kernel_rfl)
theorem qmq:(cProg Tryd.prog).func xd=some qez/\qez.results=[.tmp 2]:=x6 (by kernel_rfl)
theorem qe0 (h:W M ⟨none,xd⟩ (xe 0) true (FIN3 M [.tmp 2] Q) [(0,a0)] [] H):wu M xd [a0] H Q:=callf (by decide) qmq (ks:=qhn) (by kernel_rfl) h
end
end Go.Am
namespace Go.Am
abbrev qa7:Nat:=6
noncomputable section
open Go.Proofs Go.Proofs.YtbimikjajohflaaDoor
variable {M:Mac} [MK M] {H:AHeap} {Q:AEnd->AHeap->Prop} {a0:AV}
def qfh:AFunc:=funcAt Tryd.prog qa7
def qiz:Kp:=⟨[0,2,3,4,7,8,9,10,13,14,15],false,[0,4,12,14,22,26]⟩
def je (k:Nat):Kp × ACode:=(qiz,part qfh.body k)
theorem qno (M:Mac) (c:Ctx):(∀ Q E D H,W M c (je 0) true Q E D H =
 C3 M true (.func qn3) [] H fun g t16 H1=>W M c (je 4) g Q ((3,t16)::(2,(.bool false))::E) D H1) /\
 (∀ Q E D H,W M c (je 4) true Q E D H =
  Lz E 0 fun g t0=>B3 g (Op.lenStr [t0]) fun g t18=>Bn g .gtr t18 (.int .i64 1000) fun g t19=>JN (fun (k:Bool->AV->AV->AHeap->Prop)=>B3 g (wantV false (some t19)) fun g w=>IG3 g w (fun g=>Ly g E 3 fun g t3=>B3 g ((Op.un .not) [t3]) fun g t22=>k g t22 t3 H) (fun g=>k g uu uu H)) (fun g t22_1 t21_1 H1=>B3 g (Op.pick [t19,(.bool true),t22_1]) fun g t23=>IF3 g t23 (fun g=>Ly g E 3 fun g t3_1=>GO3 g (SEQ3 (W M c (je 12)) Q) .ret ((2,t3_1)::E) D H1) (fun g=>Gt g M c (je 12) Q E D H1))) /\
 (∀ Q E D H,W M c (je 12) true Q E D H =
  Lz E 0 fun g t0=>C3 M g (.func qbi) [t0] H fun g t27 H1=>B3 g ((Op.extract 0) [t27]) fun g t28=>B3 g ((Op.extract 1) [t27]) fun g t29=>B3 g ((Op.extract 2) [t27]) fun g t30=>B3 g ((Op.extract 3) [t27]) fun g t31=>W M c (je 14) g Q ((7,t31)::(4,t28)::E) D H1) /\
 (∀ Q E D H,W M c (je 14) true Q E D H =
  Lz E 7 fun g t7=>Cb g .neq t7 (.int .i64 0) (fun g=>Ly g E 3 fun g t3=>JN (fun (k:Bool->AV->AV->AV->AHeap->Prop)=>B3 g (wantV true (some t3)) fun g w=>IG3 g w (fun g=>Ly g E 4 fun g t4=>B3 g (Op.lenSl [t4]) fun g t37=>Bn g .eql t37 (.int .i64 0) fun g t38=>k g t38 t37 t4 H) (fun g=>k g uu uu uu H)) (fun g t38_1 t37_1 t36_1 H1=>B3 g (Op.pick [t3,t38_1,(.bool false)]) fun g t39=>GO3 g (SEQ3 (W M c (je 22)) Q) .ret ((2,t39)::E) D H1)) (fun g=>Gt g M c (je 22) Q E D H)) /\
 (∀ Q E D H,W M c (je 22) true Q E D H =
  Lz E 4 fun g t4=>C3 M g (.func qcs) [t4] H fun g t42 H1=>B3 g ((Op.extract 0) [t42]) fun g t43=>B3 g ((Op.extract 1) [t42]) fun g t44=>C3 M g (.func qbi) [t43] H1 fun g t47 H2=>B3 g ((Op.extract 0) [t47]) fun g t48=>B3 g ((Op.extract 1) [t47]) fun g t49=>B3 g ((Op.extract 2) [t47]) fun g t50=>B3 g ((Op.extract 3) [t47]) fun g t51=>W M c (je 26) g Q ((13,t51)::(10,t48)::(9,t44)::(8,t43)::E) D H2) /\
 (∀ Q E D H,W M c (je 26) true Q E D H =
  Lz E 10 fun g t10=>C3 M g (.func qcs) [t10] H fun g t54 H1=>B3 g ((Op.extract 0) [t54]) fun g t55=>B3 g ((Op.extract 1) [t54]) fun g t56=>Ly g E 3 fun g t3=>JN (fun (k:Bool->AV->AV->AHeap->Prop)=>B3 g (wantV true (some t3)) fun g w=>IG3 g w (fun g=>Ly g E 9 fun g t9=>Bn g .eql t9 (.int .i64 0) fun g t60=>k g t60 t9 H1) (fun g=>k g uu uu H1)) (fun g t60_1 t59_1 H2=>B3 g (Op.pick [t3,t60_1,(.bool false)]) fun g t61=>JN (fun (k:Bool->AV->AV->AHeap->Prop)=>B3 g (wantV true (some t61)) fun g w=>IG3 g w (fun g=>Ly g E 13 fun g t13=>Bn g .eql t13 (.int .i64 0) fun g t64=>k g t64 t13 H2) (fun g=>k g uu uu H2)) (fun g t64_1 t63_1 H3=>B3 g (Op.pick [t61,t64_1,(.bool false)]) fun g t65=>JN (fun (k:Bool->AV->AV->AHeap->Prop)=>B3 g (wantV true (some t65)) fun g w=>IG3 g w (fun g=>Bn g .eql t56 (.int .i64 0) fun g t68=>k g t68 t56 H3) (fun g=>k g uu uu H3)) (fun g t68_1 t67_1 H4=>B3 g (Op.pick [t65,t68_1,(.bool false)]) fun g t69=>JN (fun (k:Bool->AV->AV->AV->AHeap->Prop)=>B3 g (wantV true (some t69)) fun g w=>IG3 g w (fun g=>Ly g E 8 fun g t8=>Bn g .eql t8 t55 fun g t73=>k g t73 t55 t8 H4) (fun g=>k g uu uu uu H4)) (fun g t73_1 t72_1 t71_1 H5=>B3 g (Op.pick [t69,t73_1,(.bool false)]) fun g t74=>JN (fun (k:Bool->AV->AV->AV->AHeap->Prop)=>B3 g (wantV true (some t74)) fun g w=>IG3 g w (fun g=>Ly g E 4 fun g t4=>Ly g E 10 fun g t10_1=>C3 M g (.func qeb) [t4,t10_1] H5 fun g t78 H6=>k g t78 t10_1 t4 H6) (fun g=>k g uu uu uu H5)) (fun g t78_1 t77_1 t76_1 H7=>B3 g (Op.pick [t74,t78_1,(.bool false)]) fun g t79=>GO3 g Q .ret ((2,t79)::(15,t56)::(14,t55)::E) D H7)))))):=by (repeat' apply And.intro)<;>(intro _ _ _ _;refine W_unf ?_;kernel_rfl)
theorem qnm:(cProg Tryd.prog).func qa7=some qfh/\qfh.results=[.tmp 2]:=x6 (by kernel_rfl)
theorem qnn (h:W M ⟨none,qa7⟩ (je 0) true (FIN3 M [.tmp 2] Q) [(0,a0)] [] H):wu M qa7 [a0] H Q:=callf (by decide) qnm (ks:=qiz) (by kernel_rfl) h
end
end Go.Am
