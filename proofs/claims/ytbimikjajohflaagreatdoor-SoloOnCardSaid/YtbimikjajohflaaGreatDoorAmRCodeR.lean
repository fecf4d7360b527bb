/- CodeR: CodeS CodeIS CodeSO CodeSL. -/
import Derived.Test.YtbimikjajohflaaGreatDoorAmRB4
import Derived.Test.YtbimikjajohflaaGreatDoorAmRB1
import Derived.KernelRfl
import Derived.Test.YtbimikjajohflaaGreatDoorRows
set_option linter.unusedVariables false
set_option maxRecDepth 100000
namespace Go.Am
abbrev qgo:Nat:=16
noncomputable section
open Go.Proofs Go.Proofs.YtbimikjajohflaaGreatDoor
class MK (M:Mac):Prop where
 ok:∀ n,memN n [7,16]=false->M.func n=(cProg Tryz.prog).func n
theorem MK.at {M:Mac} [h:MK M] {n:Nat} {F:AFunc} (hn:memN n [7,16]=false) (hF:(cProg Tryz.prog).func n=some F):M.func n=some F:=(h.ok n hn).trans hF
theorem callf {M:Mac} [h:MK M] {n:Nat} {F:AFunc} (hn:memN n [7,16]=false) {rs:List ARes} (hF:(cProg Tryz.prog).func n=some F/\F.results=rs) {ks:Kp} {vs:List AV} (hk:keepB 0 vs.length ks.keep=true) {H:AHeap} {Q:AEnd->AHeap->Prop} (hw:W M ⟨none,n⟩ (ks,part F.body 0) true (FIN3 M rs Q) (envA 0 vs) [] H):qas M n vs H Q:=calle (MK.at hn hF.1) hk (hF.2 ▸ hw)
variable {M:Mac} [MK M] {H:AHeap} {Q:AEnd->AHeap->Prop} {a0 a1:AV}
end
end Go.Am
namespace Go.Am
abbrev zo:Nat:=136
abbrev qdz:Nat:=75
abbrev qbf:Nat:=99
abbrev qao:Nat:=100
abbrev qbg:Nat:=101
abbrev qbh:Nat:=102
abbrev qa4:Nat:=98
abbrev qa5:Nat:=119
abbrev kr:Nat:=120
abbrev T__25:Nat:=46
abbrev qn:Nat:=141
abbrev qb1:Nat:=36
abbrev T_int:Nat:=3
abbrev vp:Nat:=1
noncomputable section
open Go.Proofs Go.Proofs.YtbimikjajohflaaGreatDoor
variable {M:Mac} [MK M] {H:AHeap} {Q:AEnd->AHeap->Prop} {a0 a1 a2:AV}
def ql7:AFunc:=funcAt Tryz.prog qdz
def qqx:Kp:=⟨[0,1,2,3,4,5,6,7,8,9,10,11,12,13,14,49],false,[0,2,10,14,18,22,38,50,62,74,86,98,110,122,129]⟩
def zp (k:Nat):Kp × ACode:=(qqx,part ql7.body k)
theorem isa_Do_w (M:Mac) (c:Ctx):(∀ Q E D H,W M c (zp 0) true Q E D H =
 Lz E 0 fun g t0=>A3 g qb1 (AV.cells t0) H fun g t3 H1=>Ly g E 1 fun g t1=>A3 g T__25 (AV.cells t1) H1 fun g t4 H2=>Ly g E 2 fun g t2=>A3 g T_int (AV.cells t2) H2 fun g t5 H3=>A3 g qn [(.int .i64 0),(.int .i64 0),(.int .i64 0),(.int .u64 0),(.int .u64 0)] H3 fun g t6 H4=>W M c (zp 2) g Q ((6,t6)::(5,t5)::(4,t4)::(3,t3)::E) D H4) /\
 (∀ Q E D H,W M c (zp 2) true Q E D H =
  Lz E 3 fun g t3=>B3 g ((Op.loadN 5) [t3] H) fun g t15=>C3 M g (.func qa4) [t15] H fun g t16 H1=>B3 g ((Op.un .not) [t16]) fun g t17=>JN (fun (k:Bool->AV->AV->AHeap->Prop)=>B3 g (wantV false (some t17)) fun g w=>IG3 g w (fun g=>Ly g E 5 fun g t5=>B3 g (Op.load1 [t5] H1) fun g t19=>Bn g .lss t19 (.int .i64 0) fun g t20=>k g t20 t19 H1) (fun g=>k g uu uu H1)) (fun g t20_1 t19_1 H2=>B3 g (Op.pick [t17,(.bool true),t20_1]) fun g t21=>JN (fun (k:Bool->AV->AV->AHeap->Prop)=>B3 g (wantV false (some t21)) fun g w=>IG3 g w (fun g=>Ly g E 5 fun g t5_1=>B3 g (Op.load1 [t5_1] H2) fun g t23=>Bn g .geq t23 (.int .i64 1024) fun g t24=>k g t24 t23 H2) (fun g=>k g uu uu H2)) (fun g t24_1 t23_1 H3=>B3 g (Op.pick [t21,(.bool true),t24_1]) fun g t25=>IF3 g t25 (fun g=>B3 g ((Op.build [(.int .i64 0),(.int .i64 0),(.int .i64 0),(.int .u64 0),(.int .u64 0)] []) []) fun g t26=>Ly g E 6 fun g t6=>B32 g ((Op.store 5) [t6,t26] H3) fun g u H4=>GO3 g (SEQ3 (W M c (zp 10)) Q) .ret E D H4) (fun g=>Gt g M c (zp 10) Q E D H3)))) /\
 (∀ Q E D H,W M c (zp 10) true Q E D H =
  Lz E 5 fun g t5=>Ly g E 3 fun g t3=>B3 g ((Op.mkFunc qbf 0) [t5,t3]) fun g t27=>Ly g E 5 fun g t5_1=>Ly g E 3 fun g t3_1=>B3 g ((Op.mkFunc qao 0) [t5_1,t3_1]) fun g t28=>W M c (zp 14) g Q ((8,t28)::(7,t27)::E) D H) /\
 (∀ Q E D H,W M c (zp 14) true Q E D H =
  Lz E 5 fun g t5=>B3 g ((Op.mkFunc qbg 0) [t5]) fun g t29=>Ly g E 4 fun g t4=>B3 g ((Op.mkFunc qbh 0) [t4]) fun g t30=>W M c (zp 18) g Q ((10,t30)::(9,t29)::E) D H) /\
 (∀ Q E D H,W M c (zp 18) true Q E D H =
  Lz E 10 fun g t10=>Ly g E 3 fun g t3=>Fl g 1 t3 H fun g t33=>B3 g ((Op.fieldAddr 2) [t3]) fun g t36=>B3 g (Op.load1 [t36] H) fun g t37=>B3 g ((Op.fieldAddr 3) [t3]) fun g t40=>B3 g (Op.load1 [t40] H) fun g t41=>V3 g [t10,t33] fun g f vs=>C3 M g f vs H fun g t34 H1=>CK3 g (Op.load1 [t36] H1) (some t37) fun g=>CK3 g (Op.load1 [t40] H1) (some t41) fun g=>V3 g [t10,t37] fun g f vs=>C3 M g f vs H1 fun g t38 H2=>CK3 g (Op.load1 [t40] H2) (some t41) fun g=>V3 g [t10,t41] fun g f vs=>C3 M g f vs H2 fun g t42 H3=>Ly g E 3 fun g t3_1=>Fl g 4 t3_1 H3 fun g t45=>B3 g ((Op.wrap .u64) [t45]) fun g t46=>Bn g .add t38 t46 fun g t47=>W M c (zp 22) g Q ((14,t47)::(13,t42)::(12,t38)::(11,t34)::E) D H3) /\
 (∀ Q E D H,W M c (zp 22) true Q E D H =
  Lz E 3 fun g t3=>Fl g 0 t3 H fun g t49=>Cb g .eql t49 (.int .i64 1) (fun g=>Ly g E 9 fun g t9=>V3 g [t9,(.int .i64 7)] fun g f vs=>C3 M g f vs H fun g t53 H1=>Ly g E 6 fun g t6=>B32 g ((Op.store 5) [t6,t53] H1) fun g u H2=>GO3 g (BLK3 0 (SEQ3 (W M c (zp 129)) Q)) .ret ((49,t49)::E) D H2) (fun g=>Cb g .eql t49 (.int .i64 2) (fun g=>Ly g E 7 fun g t7=>Ly g E 3 fun g t3_1=>Fl g 4 t3_1 H fun g t58=>B3 g ((Op.wrap .u64) [t58]) fun g t59=>V3 g [t7,t59] fun g f vs=>C3 M g f vs H fun g t60 H1=>Ly g E 6 fun g t6=>B32 g ((Op.store 5) [t6,t60] H1) fun g u H2=>GO3 g (BLK3 0 (SEQ3 (W M c (zp 129)) Q)) .ret ((49,t49)::E) D H2) (fun g=>W M c (zp 38) g (BLK3 0 (SEQ3 (W M c (zp 129)) Q)) ((49,t49)::E) D H))) /\
 (∀ Q E D H,W M c (zp 129) true Q E D H =
  Lz E 9 fun g t9=>V3 g [t9,(.int .i64 6)] fun g f vs=>C3 M g f vs H fun g t162 H1=>Ly g E 6 fun g t6=>B32 g ((Op.store 5) [t6,t162] H1) fun g u H2=>GO3 g Q .ret E D H2) /\
 (∀ Q E D H,W M c (zp 38) true Q E D H =
  Lz E 49 fun g t49=>Cb g .eql t49 (.int .i64 3) (fun g=>Ly g E 7 fun g t7=>Ly g E 12 fun g t12=>V3 g [t7,t12] fun g f vs=>C3 M g f vs H fun g t65 H1=>Ly g E 6 fun g t6=>B32 g ((Op.store 5) [t6,t65] H1) fun g u H2=>GO3 g Q .ret E D H2) (fun g=>Ly g E 49 fun g t49_1=>Cb g .eql t49_1 (.int .i64 4) (fun g=>Ly g E 7 fun g t7=>Ly g E 12 fun g t12=>Ly g E 13 fun g t13=>Bn g .add t12 t13 fun g t71=>V3 g [t7,t71] fun g f vs=>C3 M g f vs H fun g t72 H1=>Ly g E 6 fun g t6=>B32 g ((Op.store 5) [t6,t72] H1) fun g u H2=>GO3 g Q .ret E D H2) (fun g=>W M c (zp 50) g Q E D H))) /\
 (∀ Q E D H,W M c (zp 50) true Q E D H =
  Lz E 49 fun g t49=>Cb g .eql t49 (.int .i64 5) (fun g=>Ly g E 7 fun g t7=>Ly g E 12 fun g t12=>Ly g E 13 fun g t13=>Bn g .sub t12 t13 fun g t78=>V3 g [t7,t78] fun g f vs=>C3 M g f vs H fun g t79 H1=>Ly g E 6 fun g t6=>B32 g ((Op.store 5) [t6,t79] H1) fun g u H2=>GO3 g Q .ret E D H2) (fun g=>Ly g E 49 fun g t49_1=>Cb g .eql t49_1 (.int .i64 6) (fun g=>Ly g E 7 fun g t7=>Ly g E 12 fun g t12=>Ly g E 13 fun g t13=>Bn g .mul t12 t13 fun g t85=>V3 g [t7,t85] fun g f vs=>C3 M g f vs H fun g t86 H1=>Ly g E 6 fun g t6=>B32 g ((Op.store 5) [t6,t86] H1) fun g u H2=>GO3 g Q .ret E D H2) (fun g=>W M c (zp 62) g Q E D H))) /\
 (∀ Q E D H,W M c (zp 62) true Q E D H =
  Lz E 49 fun g t49=>Cb g .eql t49 (.int .i64 7) (fun g=>Ly g E 7 fun g t7=>Ly g E 12 fun g t12=>Ly g E 13 fun g t13=>Bn g .and t12 t13 fun g t92=>V3 g [t7,t92] fun g f vs=>C3 M g f vs H fun g t93 H1=>Ly g E 6 fun g t6=>B32 g ((Op.store 5) [t6,t93] H1) fun g u H2=>GO3 g Q .ret E D H2) (fun g=>Ly g E 49 fun g t49_1=>Cb g .eql t49_1 (.int .i64 8) (fun g=>Ly g E 7 fun g t7=>Ly g E 12 fun g t12=>Ly g E 13 fun g t13=>Bn g .xor t12 t13 fun g t99=>V3 g [t7,t99] fun g f vs=>C3 M g f vs H fun g t100 H1=>Ly g E 6 fun g t6=>B32 g ((Op.store 5) [t6,t100] H1) fun g u H2=>GO3 g Q .ret E D H2) (fun g=>W M c (zp 74) g Q E D H))) /\
 (∀ Q E D H,W M c (zp 74) true Q E D H =
  Lz E 49 fun g t49=>Cb g .eql t49 (.int .i64 9) (fun g=>Ly g E 7 fun g t7=>Ly g E 12 fun g t12=>Ly g E 13 fun g t13=>Bn g .rem t13 (.int .u64 64) fun g t106=>Bn g .shl t12 t106 fun g t107=>V3 g [t7,t107] fun g f vs=>C3 M g f vs H fun g t108 H1=>Ly g E 6 fun g t6=>B32 g ((Op.store 5) [t6,t108] H1) fun g u H2=>GO3 g Q .ret E D H2) (fun g=>Ly g E 49 fun g t49_1=>Cb g .eql t49_1 (.int .i64 10) (fun g=>Ly g E 7 fun g t7=>Ly g E 12 fun g t12=>Ly g E 13 fun g t13=>Bn g .rem t13 (.int .u64 64) fun g t114=>Bn g .shr t12 t114 fun g t115=>V3 g [t7,t115] fun g f vs=>C3 M g f vs H fun g t116 H1=>Ly g E 6 fun g t6=>B32 g ((Op.store 5) [t6,t116] H1) fun g u H2=>GO3 g Q .ret E D H2) (fun g=>W M c (zp 86) g Q E D H))) /\
 (∀ Q E D H,W M c (zp 86) true Q E D H =
  Lz E 49 fun g t49=>Cb g .eql t49 (.int .i64 11) (fun g=>Ly g E 5 fun g t5=>B3 g (Op.load1 [t5] H) fun g t119=>Bn g .add t119 (.int .i64 1) fun g t120=>Ly g E 3 fun g t3=>Fl g 1 t3 H fun g t122=>Ly g E 14 fun g t14=>B3 g ((Op.build [(.int .i64 0),(.int .i64 0),(.int .i64 0),(.int .u64 0),(.int .u64 0)] [(0,1),(1,1),(2,1),(4,1)]) [(.int .i64 3),t120,t122,t14]) fun g t124=>Ly g E 6 fun g t6=>B32 g ((Op.store 5) [t6,t124] H) fun g u H1=>GO3 g Q .ret E D H1) (fun g=>Ly g E 49 fun g t49_1=>Cb g .eql t49_1 (.int .i64 12) (fun g=>Ly g E 5 fun g t5=>B3 g (Op.load1 [t5] H) fun g t127=>Bn g .add t127 (.int .i64 1) fun g t128=>Ly g E 11 fun g t11=>Ly g E 14 fun g t14=>B3 g ((Op.build [(.int .i64 0),(.int .i64 0),(.int .i64 0),(.int .u64 0),(.int .u64 0)] [(0,1),(1,1),(3,1),(4,1)]) [(.int .i64 4),t128,t11,t14]) fun g t131=>Ly g E 6 fun g t6=>B32 g ((Op.store 5) [t6,t131] H) fun g u H1=>GO3 g Q .ret E D H1) (fun g=>W M c (zp 98) g Q E D H))) /\
 (∀ Q E D H,W M c (zp 98) true Q E D H =
  Lz E 49 fun g t49=>Cb g .eql t49 (.int .i64 13) (fun g=>Ly g E 8 fun g t8=>V3 g [t8,(.bool true)] fun g f vs=>C3 M g f vs H fun g t135 H1=>Ly g E 6 fun g t6=>B32 g ((Op.store 5) [t6,t135] H1) fun g u H2=>GO3 g Q .ret E D H2) (fun g=>Ly g E 49 fun g t49_1=>Cb g .eql t49_1 (.int .i64 14) (fun g=>Ly g E 8 fun g t8=>Ly g E 11 fun g t11=>Ly g E 12 fun g t12=>Bn g .eql t11 t12 fun g t141=>V3 g [t8,t141] fun g f vs=>C3 M g f vs H fun g t142 H1=>Ly g E 6 fun g t6=>B32 g ((Op.store 5) [t6,t142] H1) fun g u H2=>GO3 g Q .ret E D H2) (fun g=>W M c (zp 110) g Q E D H))) /\
 (∀ Q E D H,W M c (zp 110) true Q E D H =
  Lz E 49 fun g t49=>Cb g .eql t49 (.int .i64 15) (fun g=>Ly g E 8 fun g t8=>Ly g E 11 fun g t11=>Ly g E 12 fun g t12=>Bn g .neq t11 t12 fun g t148=>V3 g [t8,t148] fun g f vs=>C3 M g f vs H fun g t149 H1=>Ly g E 6 fun g t6=>B32 g ((Op.store 5) [t6,t149] H1) fun g u H2=>GO3 g Q .ret E D H2) (fun g=>Ly g E 49 fun g t49_1=>Cb g .eql t49_1 (.int .i64 16) (fun g=>Ly g E 8 fun g t8=>Ly g E 11 fun g t11=>Ly g E 12 fun g t12=>Bn g .lss t11 t12 fun g t155=>V3 g [t8,t155] fun g f vs=>C3 M g f vs H fun g t156 H1=>Ly g E 6 fun g t6=>B32 g ((Op.store 5) [t6,t156] H1) fun g u H2=>GO3 g Q .ret E D H2) (fun g=>W M c (zp 122) g Q E D H))) /\
 (∀ Q E D H,W M c (zp 122) true Q E D H =
  Lz E 49 fun g t49=>Cb g .eql t49 (.int .i64 17) (fun g=>Ly g E 9 fun g t9=>V3 g [t9,(.int .i64 5)] fun g f vs=>C3 M g f vs H fun g t160 H1=>Ly g E 6 fun g t6=>B32 g ((Op.store 5) [t6,t160] H1) fun g u H2=>GO3 g Q .ret E D H2) (fun g=>GO3 g Q .normal E D H)):=by (repeat' apply And.intro)<;>(intro _ _ _ _;refine W_unf ?_;kernel_rfl)
theorem isa_Do_f:(cProg Tryz.prog).func qdz=some ql7/\ql7.results=[.cellN 5 6]:=z9 (by kernel_rfl)
theorem isa_Do_s (h:W M ⟨none,qdz⟩ (zp 0) true (FIN3 M [.cellN 5 6] Q) [(0,a0),(1,a1),(2,a2)] [] H):qas M qdz [a0,a1,a2] H Q:=callf (by decide) isa_Do_f (ks:=qqx) (by kernel_rfl) h
def qf2:AFunc:=funcAt Tryz.prog qa4
def qjj:Kp:=⟨[0,1,2,3,4,5,6,19,20],false,[0,4,9,15,26,27]⟩
def kg (k:Nat):Kp × ACode:=(qjj,part qf2.body k)
theorem qpm (M:Mac) (c:Ctx):(∀ Q E D H,W M c (kg 0) true Q E D H =
 Lz E 0 fun g t0=>A3 g qb1 (AV.cells t0) H fun g t1 H1=>Fl g 0 t1 H1 fun g t9=>C3 M g (.func qa5) [t9] H1 fun g t10 H2=>B3 g ((Op.extract 0) [t10]) fun g t11=>B3 g ((Op.extract 1) [t10]) fun g t12=>W M c (kg 4) g Q ((4,t12)::(3,t11)::(2,(.bool false))::(1,t1)::E) D H2) /\
 (∀ Q E D H,W M c (kg 4) true Q E D H =
  Lz E 1 fun g t1=>Fl g 1 t1 H fun g t14=>Fl g 2 t1 H fun g t16=>Fl g 3 t1 H fun g t18=>B3 g ((Op.build [(.int .i64 0),(.int .i64 0),(.int .i64 0)] [(0,1),(1,1),(2,1)]) [t14,t16,t18]) fun g t19=>LOOP3 (W M c (kg 9)) (BLK3 0 (SEQ3 (W M c (kg 27)) Q)) ((20,(.int .i64 0))::(19,t19)::E) D H) /\
 (∀ Q E D H,W M c (kg 27) true Q E D H =
  Lz E 4 fun g t4=>GO3 g Q .ret ((2,t4)::E) D H) /\
 (∀ Q E D H,W M c (kg 9) true Q E D H =
  Lz E 20 fun g t20=>Cb g .lss t20 (.int .i64 3) (fun g=>Gt g M c (kg 15) Q E D H) (fun g=>GO3 g (SEQ3 (W M c (kg 15)) Q) (.exit 0) E D H)) /\
 (∀ Q E D H,W M c (kg 15) true Q E D H =
  Lz E 20 fun g t20=>Ly g E 19 fun g t19=>B3 g ((Op.indexAgg 3 1 none) [t19,t20]) fun g t23=>Ly g E 3 fun g t3=>B3 g (Op.indexStr [(.str [65,66,67]),t20]) fun g t26=>C3 M g (.func kr) [t3,t26] H fun g t27 H1=>Bn g .geq t27 (.int .i64 0) fun g t28=>JN (fun (k:Bool->AV->AV->AV->AHeap->Prop)=>B3 g (wantV true (some t28)) fun g w=>IG3 g w (fun g=>Bn g .lss t23 (.int .i64 0) fun g t31=>k g t31 t31 t23 H1) (fun g=>k g uu uu uu H1)) (fun g t32_1 t31_1 t30_1 H2=>JN (fun (k:Bool->AV->AV->AHeap->Prop)=>B3 g (wantV false (some t32_1)) fun g w=>IG3 g w (fun g=>Bn g .geq t23 (.int .i64 8) fun g t34=>k g t34 t23 H2) (fun g=>k g uu uu H2)) (fun g t34_1 t33_1 H3=>JN (fun (k:Bool->AV->AHeap->Prop)=>B3 g (wantV true (some t28)) fun g w=>IG3 g w (fun g=>B3 g (Op.pick [t32_1,(.bool true),t34_1]) fun g t35=>k g t35 H3) (fun g=>k g uu H3)) (fun g t35_1 H4=>B3 g (Op.pick [t28,t35_1,(.bool false)]) fun g t36=>IF3 g t36 (fun g=>GO3 g (BLK3 1 (SEQ3 (W M c (kg 26)) Q)) .ret ((2,(.bool false))::(6,t23)::(5,t20)::E) D H4) (fun g=>GO3 g (BLK3 1 (SEQ3 (W M c (kg 26)) Q)) .normal ((6,t23)::(5,t20)::E) D H4))))) /\
 (∀ Q E D H,W M c (kg 26) true Q E D H =
  Lz E 20 fun g t20=>Bn g .add t20 (.int .i64 1) fun g t37=>GO3 g Q .normal ((20,t37)::E) D H):=by (repeat' apply And.intro)<;>(intro _ _ _ _;refine W_unf ?_;kernel_rfl)
theorem qpk:(cProg Tryz.prog).func qa4=some qf2/\qf2.results=[.tmp 2]:=z9 (by kernel_rfl)
theorem qpl (h:W M ⟨none,qa4⟩ (kg 0) true (FIN3 M [.tmp 2] Q) [(0,a0)] [] H):qas M qa4 [a0] H Q:=callf (by decide) qpk (ks:=qjj) (by kernel_rfl) h
def qhk:AFunc:=funcAt Tryz.prog qbf
def qk1:Kp:=⟨[0,1,2,4,5],false,[0]⟩
def qk2 (k:Nat):Kp × ACode:=(qk1,part qhk.body k)
theorem qr2 (M:Mac) (c:Ctx):(∀ Q E D H,W M c (qk2 0) true Q E D H =
 A3 true qn [(.int .i64 0),(.int .i64 0),(.int .i64 0),(.int .u64 0),(.int .u64 0)] H fun g t4 H1=>Ly g E 1 fun g t1=>B3 g (Op.load1 [t1] H1) fun g t5=>Bn g .add t5 (.int .i64 1) fun g t6=>Ly g E 2 fun g t2=>Fl g 1 t2 H1 fun g t8=>Ly g E 0 fun g t0=>B3 g ((Op.build [(.int .i64 0),(.int .i64 0),(.int .i64 0),(.int .u64 0),(.int .u64 0)] [(0,1),(1,1),(2,1),(3,1)]) [(.int .i64 1),t6,t8,t0]) fun g t10=>B32 g ((Op.store 5) [t4,t10] H1) fun g u H2=>GO3 g Q .ret ((5,t5)::(4,t4)::E) D H2):=by intro _ _ _ _;refine W_unf ?_;kernel_rfl
theorem qr0:(cProg Tryz.prog).func qbf=some qhk/\qhk.results=[.cellN 5 4]:=z9 (by kernel_rfl)
theorem qr1 (h:W M ⟨none,qbf⟩ (qk2 0) true (FIN3 M [.cellN 5 4] Q) [(0,a0),(1,a1),(2,a2)] [] H):qas M qbf [a0,a1,a2] H Q:=callf (by decide) qr0 (ks:=qk1) (by kernel_rfl) h
def qhl:AFunc:=funcAt Tryz.prog qao
def qk3:Kp:=⟨[0,1,2,4,5],false,[0,2,10,18]⟩
def wj (k:Nat):Kp × ACode:=(qk3,part qhl.body k)
theorem qr5 (M:Mac) (c:Ctx):(∀ Q E D H,W M c (wj 0) true Q E D H =
 A3 true qn [(.int .i64 0),(.int .i64 0),(.int .i64 0),(.int .u64 0),(.int .u64 0)] H fun g t4 H1=>W M c (wj 2) g Q ((4,t4)::E) D H1) /\
 (∀ Q E D H,W M c (wj 2) true Q E D H =
  Lz E 0 fun g t0=>B3 g ((Op.un .not) [t0]) fun g t6=>IF3 g t6 (fun g=>Ly g E 1 fun g t1=>B3 g (Op.load1 [t1] H) fun g t7=>Bn g .add t7 (.int .i64 1) fun g t8=>B3 g ((Op.build [(.int .i64 0),(.int .i64 0),(.int .i64 0),(.int .u64 0),(.int .u64 0)] [(0,1),(1,1)]) [(.int .i64 2),t8]) fun g t9=>Ly g E 4 fun g t4=>B32 g ((Op.store 5) [t4,t9] H) fun g u H1=>GO3 g (SEQ3 (W M c (wj 10)) Q) .ret ((5,t0)::E) D H1) (fun g=>Gt g M c (wj 10) Q ((5,t0)::E) D H)) /\
 (∀ Q E D H,W M c (wj 10) true Q E D H =
  Lz E 2 fun g t2=>Fl g 4 t2 H fun g t11=>Bn g .lss t11 (.int .i64 0) fun g t12=>JN (fun (k:Bool->AV->AV->AV->AHeap->Prop)=>B3 g (wantV false (some t12)) fun g w=>IG3 g w (fun g=>B3 g ((Op.fieldAddr 4) [t2]) fun g t14=>B3 g (Op.load1 [t14] H) fun g t15=>Bn g .gtr t15 (.int .i64 1024) fun g t16=>k g t16 t15 t14 H) (fun g=>k g uu uu uu H)) (fun g t16_1 t15_1 t14_1 H1=>B3 g (Op.pick [t12,(.bool true),t16_1]) fun g t17=>IF3 g t17 (fun g=>B3 g ((Op.build [(.int .i64 0),(.int .i64 0),(.int .i64 0),(.int .u64 0),(.int .u64 0)] []) []) fun g t18=>Ly g E 4 fun g t4=>B32 g ((Op.store 5) [t4,t18] H1) fun g u H2=>GO3 g (SEQ3 (W M c (wj 18)) Q) .ret E D H2) (fun g=>Gt g M c (wj 18) Q E D H1))) /\
 (∀ Q E D H,W M c (wj 18) true Q E D H =
  Lz E 2 fun g t2=>Fl g 4 t2 H fun g t20=>B3 g ((Op.build [(.int .i64 0),(.int .i64 0),(.int .i64 0),(.int .u64 0),(.int .u64 0)] [(0,1),(1,1)]) [(.int .i64 2),t20]) fun g t21=>Ly g E 4 fun g t4=>B32 g ((Op.store 5) [t4,t21] H) fun g u H1=>GO3 g Q .ret E D H1):=by (repeat' apply And.intro)<;>(intro _ _ _ _;refine W_unf ?_;kernel_rfl)
theorem qr3:(cProg Tryz.prog).func qao=some qhl/\qhl.results=[.cellN 5 4]:=z9 (by kernel_rfl)
theorem qr4 (h:W M ⟨none,qao⟩ (wj 0) true (FIN3 M [.cellN 5 4] Q) [(0,a0),(1,a1),(2,a2)] [] H):qas M qao [a0,a1,a2] H Q:=callf (by decide) qr3 (ks:=qk3) (by kernel_rfl) h
def qhm:AFunc:=funcAt Tryz.prog qbg
def qk4:Kp:=⟨[0,1,3,5],false,[0]⟩
def qk5 (k:Nat):Kp × ACode:=(qk4,part qhm.body k)
theorem qr8 (M:Mac) (c:Ctx):(∀ Q E D H,W M c (qk5 0) true Q E D H =
 A3 true qn [(.int .i64 0),(.int .i64 0),(.int .i64 0),(.int .u64 0),(.int .u64 0)] H fun g t3 H1=>Ly g E 0 fun g t0=>Ly g E 1 fun g t1=>B3 g (Op.load1 [t1] H1) fun g t5=>Bn g .add t5 (.int .i64 1) fun g t6=>B3 g ((Op.build [(.int .i64 0),(.int .i64 0),(.int .i64 0),(.int .u64 0),(.int .u64 0)] [(0,1),(1,1)]) [t0,t6]) fun g t7=>B32 g ((Op.store 5) [t3,t7] H1) fun g u H2=>GO3 g Q .ret ((5,t5)::(3,t3)::E) D H2):=by intro _ _ _ _;refine W_unf ?_;kernel_rfl
theorem qr6:(cProg Tryz.prog).func qbg=some qhm/\qhm.results=[.cellN 5 3]:=z9 (by kernel_rfl)
theorem qr7 (h:W M ⟨none,qbg⟩ (qk5 0) true (FIN3 M [.cellN 5 3] Q) [(0,a0),(1,a1)] [] H):qas M qbg [a0,a1] H Q:=callf (by decide) qr6 (ks:=qk4) (by kernel_rfl) h
def qhn:AFunc:=funcAt Tryz.prog qbh
def qk6:Kp:=⟨[0,1,3],false,[0]⟩
def qk7 (k:Nat):Kp × ACode:=(qk6,part qhn.body k)
theorem qsb (M:Mac) (c:Ctx):(∀ Q E D H,W M c (qk7 0) true Q E D H =
 Lz E 0 fun g t0=>Bn g .and t0 (.int .i64 7) fun g t5=>Ly g E 1 fun g t1=>B3 g ((Op.indexArr 8 1) [t1,t5]) fun g t6=>B3 g (Op.load1 [t6] H) fun g t7=>GO3 g Q .ret ((3,t7)::(3,(.int .u64 0))::E) D H):=by intro _ _ _ _;refine W_unf ?_;kernel_rfl
theorem qr9:(cProg Tryz.prog).func qbh=some qhn/\qhn.results=[.tmp 3]:=z9 (by kernel_rfl)
theorem qsa (h:W M ⟨none,qbh⟩ (qk7 0) true (FIN3 M [.tmp 3] Q) [(0,a0),(1,a1)] [] H):qas M qbh [a0,a1] H Q:=callf (by decide) qr9 (ks:=qk6) (by kernel_rfl) h
def qf3:AFunc:=funcAt Tryz.prog qa5
def qjk:Kp:=⟨[0,2,3],false,[0,2,10]⟩
def qa6 (k:Nat):Kp × ACode:=(qjk,part qf3.body k)
theorem qpp (M:Mac) (c:Ctx):(∀ Q E D H,W M c (qa6 0) true Q E D H =
 W M c (qa6 2) true Q ((3,(.bool false))::(2,(.str []))::E) D H) /\
 (∀ Q E D H,W M c (qa6 2) true Q E D H =
  Lz E 0 fun g t0=>Bn g .lss t0 (.int .i64 1) fun g t5=>JN (fun (k:Bool->AV->AV->AHeap->Prop)=>B3 g (wantV false (some t5)) fun g w=>IG3 g w (fun g=>Bn g .geq t0 (.int .i64 19) fun g t8=>k g t8 t0 H) (fun g=>k g uu uu H)) (fun g t8_1 t7_1 H1=>B3 g (Op.pick [t5,(.bool true),t8_1]) fun g t9=>IF3 g t9 (fun g=>GO3 g (SEQ3 (W M c (qa6 10)) Q) .ret ((3,(.bool false))::(2,(.str []))::E) D H1) (fun g=>Gt g M c (qa6 10) Q E D H1))) /\
 (∀ Q E D H,W M c (qa6 10) true Q E D H =
  Lz E 0 fun g t0=>B3 g ((Op.indexArr 19 2) [(.ptr vp 0),t0]) fun g t11=>Fl g 1 t11 H fun g t13=>GO3 g Q .ret ((3,(.bool true))::(2,t13)::E) D H):=by (repeat' apply And.intro)<;>(intro _ _ _ _;refine W_unf ?_;kernel_rfl)
theorem qpn:(cProg Tryz.prog).func qa5=some qf3/\qf3.results=[.tmp 2,.tmp 3]:=z9 (by kernel_rfl)
theorem qpo (h:W M ⟨none,qa5⟩ (qa6 0) true (FIN3 M [.tmp 2,.tmp 3] Q) [(0,a0)] [] H):qas M qa5 [a0] H Q:=callf (by decide) qpn (ks:=qjk) (by kernel_rfl) h
def qbd:AFunc:=funcAt Tryz.prog kr
def qdb:Kp:=⟨[0,1,4],false,[0]⟩
def qdc (k:Nat):Kp × ACode:=(qdb,part qbd.body k)
theorem qgm (M:Mac) (c:Ctx):(∀ Q E D H,W M c (qdc 0) true Q E D H =
 Lz E 0 fun g t0=>Ly g E 1 fun g t1=>C3 M g (.func zo) [t0,t1] H fun g t7 H1=>GO3 g Q .ret ((4,t7)::(4,(.int .i64 0))::E) D H1):=by intro _ _ _ _;refine W_unf ?_;kernel_rfl
theorem qgk:(cProg Tryz.prog).func kr=some qbd/\qbd.results=[.tmp 4]:=z9 (by kernel_rfl)
theorem qgl (h:W M ⟨none,kr⟩ (qdc 0) true (FIN3 M [.tmp 4] Q) [(0,a0),(1,a1)] [] H):qas M kr [a0,a1] H Q:=callf (by decide) qgk (ks:=qdb) (by kernel_rfl) h
def ko:AFunc:=funcAt Tryz.prog zo
def yx:Kp:=⟨[0,1,4],false,[0]⟩
def yy (k:Nat):Kp × ACode:=(yx,part ko.body k)
theorem yz (M:Mac) (c:Ctx):(∀ Q E D H,W M c (yy 0) true Q E D H =
 Lz E 0 fun g t0=>Ly g E 1 fun g t1=>B3 g (Op.indexByteString [t0,t1]) fun g t7=>GO3 g Q .ret ((4,t7)::(4,(.int .i64 0))::E) D H):=by intro _ _ _ _;refine W_unf ?_;kernel_rfl
theorem qbv:(cProg Tryz.prog).func zo=some ko/\ko.results=[.tmp 4]:=z9 (by kernel_rfl)
theorem qbw (h:W M ⟨none,zo⟩ (yy 0) true (FIN3 M [.tmp 4] Q) [(0,a0),(1,a1)] [] H):qas M zo [a0,a1] H Q:=callf (by decide) qbv (ks:=yx) (by kernel_rfl) h
end
end Go.Am
namespace Go.Am
abbrev zl:Nat:=54
abbrev jf:Nat:=46
abbrev ki:Nat:=33
abbrev vh:Nat:=15
abbrev qaa:Nat:=19
abbrev zb:Nat:=80
abbrev x8:Nat:=51
abbrev x7:Nat:=81
abbrev zj:Nat:=82
abbrev zk:Nat:=78
abbrev xo:Nat:=77
abbrev zq:Nat:=76
abbrev kj:Nat:=31
abbrev xi:Nat:=50
abbrev zd:Nat:=79
abbrev j5:Nat:=52
abbrev vr:Nat:=30
abbrev T__13:Nat:=32
abbrev zf:Nat:=48
abbrev jj:Nat:=81
abbrev xf:Nat:=88
abbrev qbl:Nat:=31
noncomputable section
open Go.Proofs Go.Proofs.YtbimikjajohflaaGreatDoor
variable {M:Mac} [MK M] {H:AHeap} {Q:AEnd->AHeap->Prop} {a0 a1 a2 a3 a4:AV}
def qb4:AFunc:=funcAt Tryz.prog vh
def qb5:Kp:=⟨[0,1,2,3,4,6,10,11,12,13,28,29],false,[0,4,12,17]⟩
def qar (k:Nat):Kp × ACode:=(qb5,part qb4.body k)
def qa8:ALoop:=loopAt qb4 0
def qj9 (k:Nat):Kp × ACode:=(⟨qb5.keep,qb5.pan,[0]⟩,part qa8.assign k)
def qka (k:Nat):Kp × ACode:=(⟨qb5.keep,qb5.pan,[0]⟩,part qa8.body k)
theorem qh8:nth qb4.loops 0=some qa8/\qa8.params=[29]:=⟨by kernel_rfl,by kernel_rfl⟩
theorem qlr (M:Mac) (c:Ctx):(∀ Q E D H,W M c (qar 0) true Q E D H =
 Lz E 1 fun g t1=>A3 g T__25 (AV.cells t1) H fun g t6 H1=>A3 g zf [.nils,(.int .u64 0),(.int .u64 0),(.int .u64 0),(.int .u64 0),(.int .u64 0),(.int .u64 0),(.int .u64 0),(.int .u64 0),(.int .i64 0),(.int .i64 0),(.int .i64 0),(.int .i64 0)] H1 fun g t10 H2=>Ly g E 0 fun g t0=>B3 g ((Op.loadN 8) [t6] H2) fun g t16=>Ly g E 2 fun g t2=>Ly g E 3 fun g t3=>Ly g E 4 fun g t4=>C3 M g (.func vr) [t0,t16,t2,t3,t4] H2 fun g t20 H3=>B3 g ((Op.extract 0) [t20]) fun g t21=>B3 g ((Op.extract 1) [t20]) fun g t22=>W M c (qar 4) g Q ((13,t22)::(12,t21)::(11,(.int .i64 0))::(10,t10)::(6,t6)::E) D H3) /\
 (∀ Q E D H,W M c (qj9 0) true Q E D H =
  GO3 true Q .normal E D H) /\
 (∀ Q E D H,W M c (qka 0) true Q E D H =
  GO3 true (BLK3 1 Q) .normal E D H) /\
 (∀ Q E D H,W M c (qar 4) true Q E D H =
  Lz E 13 fun g t13=>Cb g .neq t13 (.int .i64 0) (fun g=>B3 g ((Op.build [.nils,(.int .u64 0),(.int .u64 0),(.int .u64 0),(.int .u64 0),(.int .u64 0),(.int .u64 0),(.int .u64 0),(.int .u64 0),(.int .i64 0),(.int .i64 0),(.int .i64 0),(.int .i64 0)] []) []) fun g t25=>Ly g E 13 fun g t13_1=>Ly g E 10 fun g t10=>B32 g ((Op.store 13) [t10,t25] H) fun g u H1=>GO3 g (SEQ3 (W M c (qar 12)) Q) .ret ((11,t13_1)::E) D H1) (fun g=>Gt g M c (qar 12) Q E D H)) /\
 (∀ Q E D H,W M c (qar 12) true Q E D H =
  Lz E 12 fun g t12=>C3 M g (.func kj) [t12] H fun g t28 H1=>RNG3 M qb5.keep c 0 ((28,t28)::E) D H1 (BLK3 0 (SEQ3 (W M c (qar 17)) Q)) t28) /\
 (∀ Q E D H,W M c (qar 17) true Q E D H =
  Lz E 12 fun g t12=>B3 g (Op.nilCheck [t12]) fun g t31=>B3 g ((Op.fieldAddr 1) [t31]) fun g t32=>B3 g ((Op.loadN 13) [t32] H) fun g t33=>Ly g E 10 fun g t10=>B32 g ((Op.store 13) [t10,t33] H) fun g u H1=>GO3 g Q .ret ((11,(.int .i64 0))::E) D H1):=by (repeat' apply And.intro)<;>(intro _ _ _ _;refine W_unf ?_;kernel_rfl)
theorem qlq:(cProg Tryz.prog).func vh=some qb4/\qb4.results=[.cellN 13 10,.tmp 11]:=z9 (by kernel_rfl)
theorem qp9:M.func vh=some qb4:=MK.at (by decide) qlq.1
theorem qsr (h:W M ⟨none,vh⟩ (qar 0) true (FIN3 M [.cellN 13 10,.tmp 11] Q) [(0,a0),(1,a1),(2,a2),(3,a3),(4,a4)] [] H):qas M vh [a0,a1,a2,a3,a4] H Q:=callf (by decide) qlq (ks:=qb5) (by kernel_rfl) h
def qex:AFunc:=funcAt Tryz.prog qaa
def qh9:Kp:=⟨[0,1,2,3,4,6,10,11,12,13],false,[0,4,12]⟩
def qaf (k:Nat):Kp × ACode:=(qh9,part qex.body k)
theorem qou (M:Mac) (c:Ctx):(∀ Q E D H,W M c (qaf 0) true Q E D H =
 Lz E 1 fun g t1=>A3 g T__25 (AV.cells t1) H fun g t6 H1=>Ly g E 0 fun g t0=>B3 g ((Op.loadN 8) [t6] H1) fun g t16=>Ly g E 2 fun g t2=>Ly g E 3 fun g t3=>Ly g E 4 fun g t4=>C3 M g (.func vr) [t0,t16,t2,t3,t4] H1 fun g t20 H2=>B3 g ((Op.extract 0) [t20]) fun g t21=>B3 g ((Op.extract 1) [t20]) fun g t22=>W M c (qaf 4) g Q ((13,t22)::(12,t21)::(11,(.int .i64 0))::(10,.nils)::(6,t6)::E) D H2) /\
 (∀ Q E D H,W M c (qaf 4) true Q E D H =
  Lz E 13 fun g t13=>Cb g .neq t13 (.int .i64 0) (fun g=>Ly g E 13 fun g t13_1=>GO3 g (SEQ3 (W M c (qaf 12)) Q) .ret ((11,t13_1)::(10,.nils)::E) D H) (fun g=>Gt g M c (qaf 12) Q E D H)) /\
 (∀ Q E D H,W M c (qaf 12) true Q E D H =
  Lz E 12 fun g t12=>C3 M g (.func kj) [t12] H fun g t27 H1=>C3 M g (.func ki) [t27] H1 fun g t28 H2=>GO3 g Q .ret ((11,(.int .i64 0))::(10,t28)::E) D H2):=by (repeat' apply And.intro)<;>(intro _ _ _ _;refine W_unf ?_;kernel_rfl)
theorem qos:(cProg Tryz.prog).func qaa=some qex/\qex.results=[.tmp 10,.tmp 11]:=z9 (by kernel_rfl)
theorem qot (h:W M ⟨none,qaa⟩ (qaf 0) true (FIN3 M [.tmp 10,.tmp 11] Q) [(0,a0),(1,a1),(2,a2),(3,a3),(4,a4)] [] H):qas M qaa [a0,a1,a2,a3,a4] H Q:=callf (by decide) qos (ks:=qh9) (by kernel_rfl) h
def qe1:AFunc:=funcAt Tryz.prog vr
def qia:Kp:=⟨[0,1,2,3,4,6,10,11],false,[0,2,10]⟩
def qah (k:Nat):Kp × ACode:=(qia,part qe1.body k)
theorem qoy (M:Mac) (c:Ctx):(∀ Q E D H,W M c (qah 0) true Q E D H =
 Lz E 1 fun g t1=>A3 g T__25 (AV.cells t1) H fun g t6 H1=>W M c (qah 2) g Q ((11,(.int .i64 0))::(10,.nilp)::(6,t6)::E) D H1) /\
 (∀ Q E D H,W M c (qah 2) true Q E D H =
  Lz E 0 fun g t0=>B3 g (Op.lenSl [t0]) fun g t13=>Bn g .gtr t13 (.int .i64 1024) fun g t14=>JN (fun (k:Bool->AV->AV->AHeap->Prop)=>B3 g (wantV false (some t14)) fun g w=>IG3 g w (fun g=>Ly g E 2 fun g t2=>Bn g .lss t2 (.int .i64 0) fun g t17=>k g t17 t2 H) (fun g=>k g uu uu H)) (fun g t17_1 t16_1 H1=>B3 g (Op.pick [t14,(.bool true),t17_1]) fun g t18=>JN (fun (k:Bool->AV->AV->AHeap->Prop)=>B3 g (wantV false (some t18)) fun g w=>IG3 g w (fun g=>Ly g E 2 fun g t2_1=>Bn g .gtr t2_1 (.int .i64 1024) fun g t21=>k g t21 t2_1 H1) (fun g=>k g uu uu H1)) (fun g t21_1 t20_1 H2=>B3 g (Op.pick [t18,(.bool true),t21_1]) fun g t22=>JN (fun (k:Bool->AV->AV->AV->AHeap->Prop)=>B3 g (wantV false (some t22)) fun g w=>IG3 g w (fun g=>Ly g E 3 fun g t3=>B3 g (Op.lenSl [t3]) fun g t25=>Bn g .gtr t25 (.int .i64 4096) fun g t26=>k g t26 t25 t3 H2) (fun g=>k g uu uu uu H2)) (fun g t26_1 t25_1 t24_1 H3=>B3 g (Op.pick [t22,(.bool true),t26_1]) fun g t27=>JN (fun (k:Bool->AV->AV->AHeap->Prop)=>B3 g (wantV false (some t27)) fun g w=>IG3 g w (fun g=>Ly g E 4 fun g t4=>Bn g .lss t4 (.int .i64 0) fun g t30=>k g t30 t4 H3) (fun g=>k g uu uu H3)) (fun g t30_1 t29_1 H4=>B3 g (Op.pick [t27,(.bool true),t30_1]) fun g t31=>JN (fun (k:Bool->AV->AV->AHeap->Prop)=>B3 g (wantV false (some t31)) fun g w=>IG3 g w (fun g=>Ly g E 4 fun g t4_1=>Bn g .gtr t4_1 (.int .i64 1048576) fun g t34=>k g t34 t4_1 H4) (fun g=>k g uu uu H4)) (fun g t34_1 t33_1 H5=>B3 g (Op.pick [t31,(.bool true),t34_1]) fun g t35=>IF3 g t35 (fun g=>GO3 g (SEQ3 (W M c (qah 10)) Q) .ret ((11,(.int .i64 2))::(10,.nilp)::E) D H5) (fun g=>Gt g M c (qah 10) Q E D H5))))))) /\
 (∀ Q E D H,W M c (qah 10) true Q E D H =
  Lz E 0 fun g t0=>Ly g E 3 fun g t3=>Ly g E 6 fun g t6=>B3 g ((Op.loadN 8) [t6] H) fun g t39=>Ly g E 2 fun g t2=>Ly g E 4 fun g t4=>C3 M g (.func jf) [t3] H fun g t38 H1=>CK3 g ((Op.loadN 8) [t6] H1) (some t39) fun g=>B3 g ((Op.build [.nils,(.int .u64 0),(.int .u64 0),(.int .u64 0),(.int .u64 0),(.int .u64 0),(.int .u64 0),(.int .u64 0),(.int .u64 0),(.int .i64 0),(.int .i64 0),(.int .i64 0),(.int .i64 0)] [(0,1),(1,8),(9,1),(10,1)]) [t38,t39,t2,t4]) fun g t42=>B3 g ((Op.build [.nils,.nils,(.int .u64 0),(.int .u64 0),(.int .u64 0),(.int .u64 0),(.int .u64 0),(.int .u64 0),(.int .u64 0),(.int .u64 0),(.int .i64 0),(.int .i64 0),(.int .i64 0),(.int .i64 0),.nils,(.int .u64 0),(.int .u64 0),(.int .u64 0),(.int .u64 0),(.int .u64 0),(.int .u64 0),(.int .u64 0),(.int .u64 0),(.int .i64 0),(.int .i64 0),(.int .i64 0),(.int .i64 0),(.bool false),(.bool false)] [(0,1),(1,13)]) [t0,t42]) fun g t43=>A3 g xf (AV.cells t43) H1 fun g t44 H2=>GO3 g Q .ret ((11,(.int .i64 0))::(10,t44)::E) D H2):=by (repeat' apply And.intro)<;>(intro _ _ _ _;refine W_unf ?_;kernel_rfl)
theorem qow:(cProg Tryz.prog).func vr=some qe1/\qe1.results=[.tmp 10,.tmp 11]:=z9 (by kernel_rfl)
theorem qox (h:W M ⟨none,vr⟩ (qah 0) true (FIN3 M [.tmp 10,.tmp 11] Q) [(0,a0),(1,a1),(2,a2),(3,a3),(4,a4)] [] H):qas M vr [a0,a1,a2,a3,a4] H Q:=callf (by decide) qow (ks:=qia) (by kernel_rfl) h
def qaw:AFunc:=funcAt Tryz.prog kj
def qcl:Kp:=⟨[0,1,2],false,[0]⟩
def qcm (k:Nat):Kp × ACode:=(qcl,part qaw.body k)
theorem qco (M:Mac) (c:Ctx):(∀ Q E D H,W M c (qcm 0) true Q E D H =
 Lz E 0 fun g t0=>A3 g jj (AV.cells t0) H fun g t1 H1=>B3 g ((Op.mkFunc xi 0) [t1]) fun g t3=>GO3 g Q .ret ((2,t3)::(2,.nilf)::(1,t1)::E) D H1):=by intro _ _ _ _;refine W_unf ?_;kernel_rfl
theorem qfm:(cProg Tryz.prog).func kj=some qaw/\qaw.results=[.tmp 2]:=z9 (by kernel_rfl)
theorem qcn (h:W M ⟨none,kj⟩ (qcm 0) true (FIN3 M [.tmp 2] Q) [(0,a0)] [] H):qas M kj [a0] H Q:=callf (by decide) qfm (ks:=qcl) (by kernel_rfl) h
def qau:AFunc:=funcAt Tryz.prog ki
def qci:Kp:=⟨[0,2],false,[0]⟩
def qcj (k:Nat):Kp × ACode:=(qci,part qau.body k)
theorem qfi (M:Mac) (c:Ctx):(∀ Q E D H,W M c (qcj 0) true Q E D H =
 Lz E 0 fun g t0=>C3 M g (.func zl) [.nils,t0] H fun g t4 H1=>GO3 g Q .ret ((2,t4)::(2,.nils)::E) D H1):=by intro _ _ _ _;refine W_unf ?_;kernel_rfl
theorem qfg:(cProg Tryz.prog).func ki=some qau/\qau.results=[.tmp 2]:=z9 (by kernel_rfl)
theorem qfh (h:W M ⟨none,ki⟩ (qcj 0) true (FIN3 M [.tmp 2] Q) [(0,a0)] [] H):qas M ki [a0] H Q:=callf (by decide) qfg (ks:=qci) (by kernel_rfl) h
def qad:AFunc:=funcAt Tryz.prog jf
def qce:Kp:=⟨[0,2],false,[0,2,10]⟩
def jh (k:Nat):Kp × ACode:=(qce,part qad.body k)
theorem qae (M:Mac) (c:Ctx):(∀ Q E D H,W M c (jh 0) true Q E D H =
 W M c (jh 2) true Q ((2,.nils)::E) D H) /\
 (∀ Q E D H,W M c (jh 2) true Q E D H =
  Lz E 0 fun g t0=>B3 g ((Op.eq .slice false) [t0,.nils] H) fun g t4=>IF3 g t4 (fun g=>GO3 g (SEQ3 (W M c (jh 10)) Q) .ret ((2,.nils)::E) D H) (fun g=>Gt g M c (jh 10) Q E D H)) /\
 (∀ Q E D H,W M c (jh 10) true Q E D H =
  B32 true ((Op.buildSlice qbl 0 [(.int .u64 0)] []) []) fun g o1 k1=>Ly g E 0 fun g t0=>B32 g ((Op.append qbl 1 8) [(k1 H.next),t0] (H.alloc o1)) fun g t7 H2=>GO3 g Q .ret ((2,t7)::E) D H2):=by (repeat' apply And.intro)<;>(intro _ _ _ _;refine W_unf ?_;kernel_rfl)
theorem qev:(cProg Tryz.prog).func jf=some qad/\qad.results=[.tmp 2]:=z9 (by kernel_rfl)
theorem qew (h:W M ⟨none,jf⟩ (jh 0) true (FIN3 M [.tmp 2] Q) [(0,a0)] [] H):qas M jf [a0] H Q:=callf (by decide) qev (ks:=qce) (by kernel_rfl) h
def wq:AFunc:=funcAt Tryz.prog xi
def qbz:Kp:=⟨[0,1,3],false,[0,1,3,5,8,20,27,31]⟩
def qu (k:Nat):Kp × ACode:=(qbz,part wq.body k)
theorem qel (M:Mac) (c:Ctx):(∀ Q E D H,W M c (qu 0) true Q E D H =
 W M c (qu 1) true (SCP3 (qu 1).2 Q) E D H) /\
 (∀ Q E D H,W M c (qu 1) true Q E D H =
  Gt true M c (qu 3) Q E D H) /\
 (∀ Q E D H,W M c (qu 3) true Q E D H =
  LOOP3 (W M c (qu 5)) (BLK3 0 Q) E D H) /\
 (∀ Q E D H,W M c (qu 5) true Q E D H =
  Lz E 1 fun g t1=>B3 g (Op.load1 [t1] H) fun g t4=>B3 g (Op.nilCheck [t4]) fun g t5=>B3 g ((Op.fieldAddr 1) [t5]) fun g t6=>Fl g 9 t6 H fun g t8=>W M c (qu 8) g (BLK3 1 Q) ((3,t8)::E) D H) /\
 (∀ Q E D H,W M c (qu 8) true Q E D H =
  Lz E 1 fun g t1=>B3 g (Op.load1 [t1] H) fun g t10=>Nf g 28 t10 H fun g t13=>IF3 g t13 (fun g=>GO3 g (BLK3 2 (SEQ3 (W M c (qu 27)) Q)) (.exit 0) E D H) (fun g=>Ly g E 3 fun g t3=>Ly g E 1 fun g t1_1=>B3 g (Op.load1 [t1_1] H) fun g t16=>Nf g 0 t16 H fun g t19=>B3 g (Op.lenSl [t19]) fun g t20=>Bn g .geq t3 t20 fun g t21=>JN (fun (k:Bool->AV->AV->AV->AV->AV->AHeap->Prop)=>B3 g (wantV true (some t21)) fun g w=>IG3 g w (fun g=>B3 g (Op.load1 [t1_1] H) fun g t23=>B3 g (Op.nilCheck [t23]) fun g t24=>B3 g ((Op.fieldAddr 27) [t24]) fun g t25=>B3 g (Op.load1 [t25] H) fun g t26=>B3 g ((Op.un .not) [t26]) fun g t27=>k g t27 t26 t25 t24 t23 H) (fun g=>k g uu uu uu uu uu H)) (fun g t27_1 t26_1 t25_1 t24_1 t23_1 H1=>B3 g (Op.pick [t21,t27_1,(.bool false)]) fun g t28=>IF3 g t28 (fun g=>Ly g E 1 fun g t1_2=>B3 g (Op.load1 [t1_2] H1) fun g t29=>C3 M g (.func x8) [t29,(.int .i64 0)] H1 fun g t30 H2=>GO3 g (BLK3 2 (SEQ3 (W M c (qu 27)) Q)) (.exit 0) E D H2) (fun g=>W M c (qu 20) g (BLK3 2 (SEQ3 (W M c (qu 27)) Q)) E D H1)))) /\
 (∀ Q E D H,W M c (qu 27) true Q E D H =
  Lz E 1 fun g t1=>B3 g (Op.load1 [t1] H) fun g t40=>B3 g (Op.nilCheck [t40]) fun g t41=>B3 g ((Op.fieldAddr 1) [t41]) fun g t42=>Fl g 10 t42 H fun g t44=>Bn g .sub t44 (.int .i64 1) fun g t45=>B3 g (Op.nilCheck [t40]) fun g t46=>B3 g ((Op.fieldAddr 1) [t46]) fun g t47=>Fs g 10 t47 t45 H fun g u H1=>Ly g E 1 fun g t1_1=>B3 g (Op.load1 [t1_1] H1) fun g t49=>Ly g E 3 fun g t3=>C3 M g (.func j5) [t49,t3] H1 fun g t51 H2=>W M c (qu 31) g Q E D H2) /\
 (∀ Q E D H,W M c (qu 20) true Q E D H =
  Lz E 1 fun g t1=>B3 g (Op.load1 [t1] H) fun g t32=>B3 g (Op.nilCheck [t32]) fun g t33=>B3 g ((Op.fieldAddr 1) [t33]) fun g t34=>Fl g 10 t34 H fun g t36=>Cb g .eql t36 (.int .i64 0) (fun g=>Ly g E 1 fun g t1_1=>B3 g (Op.load1 [t1_1] H) fun g t38=>C3 M g (.func x8) [t38,(.int .i64 190)] H fun g t39 H1=>GO3 g Q (.exit 0) E D H1) (fun g=>GO3 g Q .normal E D H)) /\
 (∀ Q E D H,W M c (qu 31) true Q E D H =
  Lz E 0 fun g t0=>Ly g E 3 fun g t3=>V3 g [t0,t3] fun g f vs=>C3 M g f vs H fun g t54 H1=>B3 g ((Op.un .not) [t54]) fun g t55=>IF3 g t55 (fun g=>GO3 g Q .ret E D H1) (fun g=>GO3 g Q .normal E D H1)):=by (repeat' apply And.intro)<;>(intro _ _ _ _;refine W_unf ?_;kernel_rfl)
theorem qej:(cProg Tryz.prog).func xi=some wq/\wq.results=[]:=z9 (by kernel_rfl)
theorem qek (h:W M ⟨none,xi⟩ (qu 0) true (FIN3 M [] Q) [(0,a0),(1,a1)] [] H):qas M xi [a0,a1] H Q:=callf (by decide) qej (ks:=qbz) (by kernel_rfl) h
def z6:AFunc:=funcAt Tryz.prog zl
def z7:Kp:=⟨[0,1,2,4,5,6,7],false,[0,2,7]⟩
def j0 (k:Nat):Kp × ACode:=(z7,part z6.body k)
def zx:ALoop:=loopAt z6 0
def qbr (k:Nat):Kp × ACode:=(⟨z7.keep,z7.pan,[0]⟩,part zx.assign k)
def qbs (k:Nat):Kp × ACode:=(⟨z7.keep,z7.pan,[0]⟩,part zx.body k)
theorem qbj:nth z6.loops 0=some zx/\zx.params=[7]:=⟨by kernel_rfl,by kernel_rfl⟩
theorem qby (M:Mac) (c:Ctx):(∀ Q E D H,W M c (j0 0) true Q E D H =
 Lz E 0 fun g t0=>A3 g T__13 (AV.cells t0) H fun g t2 H1=>W M c (j0 2) g Q ((4,.nils)::(2,t2)::E) D H1) /\
 (∀ Q E D H,W M c (qbr 0) true Q E D H =
  Lz E 7 fun g t7=>GO3 g Q .normal ((5,t7)::E) D H) /\
 (∀ Q E D H,W M c (qbs 0) true Q E D H =
  Lz E 2 fun g t2=>B3 g (Op.load1 [t2] H) fun g t8=>Ly g E 5 fun g t5=>B32 g ((Op.buildSlice T_int 1 [(.int .i64 0)] [(0,1)]) [t5]) fun g o1 k1=>B32 g ((Op.append T_int 1 8) [t8,(k1 H.next)] (H.alloc o1)) fun g t11 H2=>B32 g ((Op.store 1) [t2,t11] H2) fun g u H3=>GO3 g (BLK3 1 Q) .normal E D H3) /\
 (∀ Q E D H,W M c (j0 2) true Q E D H =
  Lz E 1 fun g t1=>RNG3 M z7.keep c 0 ((6,t1)::E) D H (BLK3 0 (SEQ3 (W M c (j0 7)) Q)) t1) /\
 (∀ Q E D H,W M c (j0 7) true Q E D H =
  Lz E 2 fun g t2=>B3 g (Op.load1 [t2] H) fun g t12=>GO3 g Q .ret ((4,t12)::E) D H):=by (repeat' apply And.intro)<;>(intro _ _ _ _;refine W_unf ?_;kernel_rfl)
theorem qbx:(cProg Tryz.prog).func zl=some z6/\z6.results=[.tmp 4]:=z9 (by kernel_rfl)
theorem qec:M.func zl=some z6:=MK.at (by decide) qbx.1
theorem qei (h:W M ⟨none,zl⟩ (j0 0) true (FIN3 M [.tmp 4] Q) [(0,a0),(1,a1)] [] H):qas M zl [a0,a1] H Q:=callf (by decide) qbx (ks:=z7) (by kernel_rfl) h
def qbt:AFunc:=funcAt Tryz.prog x8
def qdj:Kp:=⟨[0,1],false,[0,4,6]⟩
def kh (k:Nat):Kp × ACode:=(qdj,part qbt.body k)
theorem qg8 (M:Mac) (c:Ctx):(∀ Q E D H,W M c (kh 0) true Q E D H =
 Lz E 0 fun g t0=>Nf g 27 t0 H fun g t7=>JN (fun (k:Bool->AV->AV->AHeap->Prop)=>B3 g (wantV true (some t7)) fun g w=>IG3 g w (fun g=>Ly g E 1 fun g t1=>Bn g .neq t1 (.int .i64 0) fun g t10=>k g t10 t1 H) (fun g=>k g uu uu H)) (fun g t10_1 t9_1 H1=>B3 g (Op.pick [t7,t10_1,(.bool false)]) fun g t11=>IF3 g t11 (fun g=>W M c (kh 4) g (SEQ3 (W M c (kh 6)) Q) E D H1) (fun g=>Gt g M c (kh 6) Q E D H1))) /\
 (∀ Q E D H,W M c (kh 6) true Q E D H =
  Lz E 0 fun g t0=>Ly g E 1 fun g t1=>B3 g (Op.nilCheck [t0]) fun g t42=>B3 g ((Op.fieldAddr 1) [t42]) fun g t43=>Fs g 12 t43 t1 H fun g u H1=>Ns g 28 t0 (.bool true) H1 fun g u_1 H2=>GO3 g Q .normal E D H2) /\
 (∀ Q E D H,W M c (kh 4) true Q E D H =
  Lz E 0 fun g t0=>B3 g (Op.nilCheck [t0]) fun g t16=>B3 g ((Op.fieldAddr 14) [t16]) fun g t17=>Fl g 0 t17 H fun g t19=>B3 g (Op.nilCheck [t0]) fun g t21=>B3 g ((Op.fieldAddr 14) [t21]) fun g t22=>B3 g ((Op.fieldAddr 1) [t22]) fun g t23=>B3 g ((Op.loadN 8) [t23] H) fun g t24=>B3 g (Op.nilCheck [t0]) fun g t26=>B3 g ((Op.fieldAddr 14) [t26]) fun g t27=>Fl g 9 t27 H fun g t29=>B3 g (Op.nilCheck [t0]) fun g t30=>B3 g ((Op.fieldAddr 1) [t30]) fun g t31=>Fs g 0 t31 t19 H fun g u H1=>B3 g (Op.nilCheck [t0]) fun g t33=>B3 g ((Op.fieldAddr 1) [t33]) fun g t34=>B3 g ((Op.fieldAddr 1) [t34]) fun g t35=>B32 g ((Op.store 8) [t35,t24] H1) fun g u_1 H2=>B3 g (Op.nilCheck [t0]) fun g t36=>B3 g ((Op.fieldAddr 1) [t36]) fun g t37=>Fs g 9 t37 t29 H2 fun g u_2 H3=>GO3 g Q .normal E D H3):=by (repeat' apply And.intro)<;>(intro _ _ _ _;refine W_unf ?_;kernel_rfl)
theorem qg6:(cProg Tryz.prog).func x8=some qbt/\qbt.results=[]:=z9 (by kernel_rfl)
theorem qg7 (h:W M ⟨none,x8⟩ (kh 0) true (FIN3 M [] Q) [(0,a0),(1,a1)] [] H):qas M x8 [a0,a1] H Q:=callf (by decide) qg6 (ks:=qdj) (by kernel_rfl) h
def qbc:AFunc:=funcAt Tryz.prog j5
def qda:Kp:=⟨[0,1,4,5,6,7],false,[0,8,12]⟩
def j8 (k:Nat):Kp × ACode:=(qda,part qbc.body k)
theorem qgj (M:Mac) (c:Ctx):(∀ Q E D H,W M c (j8 0) true Q E D H =
 Lz E 1 fun g t1=>Ly g E 0 fun g t0=>Nf g 0 t0 H fun g t12=>B3 g (Op.lenSl [t12]) fun g t13=>Cb g .geq t1 t13 (fun g=>Ly g E 0 fun g t0_1=>C3 M g (.func x8) [t0_1,(.int .i64 111)] H fun g t16 H1=>GO3 g (SEQ3 (W M c (j8 8)) Q) .ret E D H1) (fun g=>Gt g M c (j8 8) Q E D H)) /\
 (∀ Q E D H,W M c (j8 8) true Q E D H =
  Lz E 0 fun g t0=>Nf g 0 t0 H fun g t20=>Ly g E 1 fun g t1=>B3 g ((Op.indexSl 5) [t20,t1]) fun g t22=>B3 g ((Op.loadN 5) [t22] H) fun g t23=>B3 g (Op.nilCheck [t0]) fun g t25=>B3 g ((Op.fieldAddr 1) [t25]) fun g t26=>B3 g ((Op.fieldAddr 1) [t26]) fun g t27=>B3 g ((Op.loadN 8) [t27] H) fun g t28=>C3 M g (.func qdz) [t23,t28,t1] H fun g t30 H1=>A3 g qn [(.int .i64 0),(.int .i64 0),(.int .i64 0),(.int .u64 0),(.int .u64 0)] H1 fun g t4 H2=>B32 g ((Op.store 5) [t4,t30] H2) fun g u H3=>B32 g (Op.mkMap []) fun g o4 k4=>Ly g E 0 fun g t0_1=>B3 g ((Op.mkFunc zq 1) [t0_1]) fun g t33=>B32 g ((Op.mapUpdate .int) [(k4 H3.next),(.int .i64 1),t33] (H3.alloc o4)) fun g u_1 H5=>B3 g ((Op.mkFunc xo 1) [t0_1]) fun g t35=>B32 g ((Op.mapUpdate .int) [(k4 H3.next),(.int .i64 2),t35] H5) fun g u_2 H6=>B3 g ((Op.mkFunc zk 1) [t0_1]) fun g t37=>B32 g ((Op.mapUpdate .int) [(k4 H3.next),(.int .i64 3),t37] H6) fun g u_3 H7=>B3 g ((Op.mkFunc zd 1) [t0_1]) fun g t39=>B32 g ((Op.mapUpdate .int) [(k4 H3.next),(.int .i64 4),t39] H7) fun g u_4 H8=>B3 g ((Op.mkFunc zb 1) [t0_1]) fun g t41=>B32 g ((Op.mapUpdate .int) [(k4 H3.next),(.int .i64 5),t41] H8) fun g u_5 H9=>B3 g ((Op.mkFunc x7 1) [t0_1]) fun g t43=>B32 g ((Op.mapUpdate .int) [(k4 H3.next),(.int .i64 6),t43] H9) fun g u_6 H10=>B3 g ((Op.mkFunc zj 1) [t0_1]) fun g t45=>B32 g ((Op.mapUpdate .int) [(k4 H3.next),(.int .i64 7),t45] H10) fun g u_7 H11=>W M c (j8 12) g Q ((5,(k4 H3.next))::(4,t4)::E) D H11) /\
 (∀ Q E D H,W M c (j8 12) true Q E D H =
  Lz E 5 fun g t5=>Ly g E 4 fun g t4=>Fl g 0 t4 H fun g t50=>B3 g ((Op.lookup .int .nilf true) [t5,t50] H) fun g t51=>B3 g ((Op.extract 0) [t51]) fun g t52=>B3 g ((Op.extract 1) [t51]) fun g t53=>B3 g ((Op.un .not) [t53]) fun g t55=>JN (fun (k:Bool->AV->AV->AV->AV->AHeap->Prop)=>B3 g (wantV false (some t55)) fun g w=>IG3 g w (fun g=>Ly g E 4 fun g t4_1=>B3 g ((Op.loadN 5) [t4_1] H) fun g t58=>V3 g [t52,t58] fun g f vs=>C3 M g f vs H fun g t59 H1=>B3 g ((Op.un .not) [t59]) fun g t60=>k g t60 t59 t58 t52 H1) (fun g=>k g uu uu uu uu H)) (fun g t60_1 t59_1 t58_1 t57_1 H2=>B3 g (Op.pick [t55,(.bool true),t60_1]) fun g t61=>IF3 g t61 (fun g=>Ly g E 0 fun g t0=>C3 M g (.func x8) [t0,(.int .i64 111)] H2 fun g t63 H3=>GO3 g Q .normal ((7,t53)::(6,t52)::E) D H3) (fun g=>GO3 g Q .normal ((7,t53)::(6,t52)::E) D H2))):=by (repeat' apply And.intro)<;>(intro _ _ _ _;refine W_unf ?_;kernel_rfl)
theorem qgh:(cProg Tryz.prog).func j5=some qbc/\qbc.results=[]:=z9 (by kernel_rfl)
theorem qgi (h:W M ⟨none,j5⟩ (j8 0) true (FIN3 M [] Q) [(0,a0),(1,a1)] [] H):qas M j5 [a0,a1] H Q:=callf (by decide) qgh (ks:=qda) (by kernel_rfl) h
def qbu:AFunc:=funcAt Tryz.prog zq
def qdk:Kp:=⟨[0,1,3,4],false,[0]⟩
def qdl (k:Nat):Kp × ACode:=(qdk,part qbu.body k)
theorem qhb (M:Mac) (c:Ctx):(∀ Q E D H,W M c (qdl 0) true Q E D H =
 Lz E 1 fun g t1=>A3 g qn (AV.cells t1) H fun g t3 H1=>Ly g E 0 fun g t0=>Fl g 2 t3 H1 fun g t7=>Fl g 3 t3 H1 fun g t9=>B3 g (Op.nilCheck [t0]) fun g t10=>B3 g ((Op.fieldAddr 1) [t10]) fun g t11=>B3 g ((Op.fieldAddr 1) [t11]) fun g t12=>B3 g ((Op.indexArr 8 1) [t12,t7]) fun g t13=>B32 g ((Op.store 1) [t13,t9] H1) fun g u H2=>Ly g E 0 fun g t0_1=>B3 g ((Op.loadN 5) [t3] H2) fun g t15=>C3 M g (.func xo) [t0_1,t15] H2 fun g t16 H3=>GO3 g Q .ret ((4,t16)::(4,(.bool false))::(3,t3)::E) D H3):=by intro _ _ _ _;refine W_unf ?_;kernel_rfl
theorem qg9:(cProg Tryz.prog).func zq=some qbu/\qbu.results=[.tmp 4]:=z9 (by kernel_rfl)
theorem qha (h:W M ⟨none,zq⟩ (qdl 0) true (FIN3 M [.tmp 4] Q) [(0,a0),(1,a1)] [] H):qas M zq [a0,a1] H Q:=callf (by decide) qg9 (ks:=qdk) (by kernel_rfl) h
def qbb:AFunc:=funcAt Tryz.prog xo
def qc8:Kp:=⟨[0,1,3,4],false,[0]⟩
def qc9 (k:Nat):Kp × ACode:=(qc8,part qbb.body k)
theorem qgg (M:Mac) (c:Ctx):(∀ Q E D H,W M c (qc9 0) true Q E D H =
 Lz E 1 fun g t1=>A3 g qn (AV.cells t1) H fun g t3 H1=>Ly g E 0 fun g t0=>Fl g 1 t3 H1 fun g t7=>B3 g (Op.nilCheck [t0]) fun g t8=>B3 g ((Op.fieldAddr 1) [t8]) fun g t9=>Fs g 9 t9 t7 H1 fun g u H2=>GO3 g Q .ret ((4,(.bool true))::(4,(.bool false))::(3,t3)::E) D H2):=by intro _ _ _ _;refine W_unf ?_;kernel_rfl
theorem qge:(cProg Tryz.prog).func xo=some qbb/\qbb.results=[.tmp 4]:=z9 (by kernel_rfl)
theorem qgf (h:W M ⟨none,xo⟩ (qc9 0) true (FIN3 M [.tmp 4] Q) [(0,a0),(1,a1)] [] H):qas M xo [a0,a1] H Q:=callf (by decide) qge (ks:=qc8) (by kernel_rfl) h
def qba:AFunc:=funcAt Tryz.prog zk
def qc7:Kp:=⟨[0,1,3,4],false,[0,2,10]⟩
def j7 (k:Nat):Kp × ACode:=(qc7,part qba.body k)
theorem qgd (M:Mac) (c:Ctx):(∀ Q E D H,W M c (j7 0) true Q E D H =
 Lz E 1 fun g t1=>A3 g qn (AV.cells t1) H fun g t3 H1=>W M c (j7 2) g Q ((4,(.bool false))::(3,t3)::E) D H1) /\
 (∀ Q E D H,W M c (j7 2) true Q E D H =
  Lz E 3 fun g t3=>Fl g 4 t3 H fun g t6=>Ly g E 0 fun g t0=>B3 g (Op.nilCheck [t0]) fun g t8=>B3 g ((Op.fieldAddr 1) [t8]) fun g t9=>Fl g 0 t9 H fun g t11=>B3 g (Op.lenSl [t11]) fun g t12=>B3 g ((Op.wrap .u64) [t12]) fun g t13=>Cb g .geq t6 t13 (fun g=>GO3 g (SEQ3 (W M c (j7 10)) Q) .ret ((4,(.bool false))::E) D H) (fun g=>Gt g M c (j7 10) Q E D H)) /\
 (∀ Q E D H,W M c (j7 10) true Q E D H =
  Lz E 0 fun g t0=>Ly g E 3 fun g t3=>Fl g 2 t3 H fun g t17=>B3 g (Op.nilCheck [t0]) fun g t19=>B3 g ((Op.fieldAddr 1) [t19]) fun g t20=>Fl g 0 t20 H fun g t22=>Fl g 4 t3 H fun g t24=>Xl g t22 t24 H fun g t26=>B3 g (Op.nilCheck [t0]) fun g t27=>B3 g ((Op.fieldAddr 1) [t27]) fun g t28=>B3 g ((Op.fieldAddr 1) [t28]) fun g t29=>B3 g ((Op.indexArr 8 1) [t29,t17]) fun g t30=>B32 g ((Op.store 1) [t30,t26] H) fun g u H1=>Ly g E 0 fun g t0_1=>Ly g E 3 fun g t3_1=>B3 g ((Op.loadN 5) [t3_1] H1) fun g t32=>C3 M g (.func xo) [t0_1,t32] H1 fun g t33 H2=>GO3 g Q .ret ((4,t33)::E) D H2):=by (repeat' apply And.intro)<;>(intro _ _ _ _;refine W_unf ?_;kernel_rfl)
theorem qgb:(cProg Tryz.prog).func zk=some qba/\qba.results=[.tmp 4]:=z9 (by kernel_rfl)
theorem qgc (h:W M ⟨none,zk⟩ (j7 0) true (FIN3 M [.tmp 4] Q) [(0,a0),(1,a1)] [] H):qas M zk [a0,a1] H Q:=callf (by decide) qgb (ks:=qc7) (by kernel_rfl) h
def qax:AFunc:=funcAt Tryz.prog zd
def qcp:Kp:=⟨[0,1,3,4],false,[0,2,10]⟩
def jv (k:Nat):Kp × ACode:=(qcp,part qax.body k)
theorem qfp (M:Mac) (c:Ctx):(∀ Q E D H,W M c (jv 0) true Q E D H =
 Lz E 1 fun g t1=>A3 g qn (AV.cells t1) H fun g t3 H1=>W M c (jv 2) g Q ((4,(.bool false))::(3,t3)::E) D H1) /\
 (∀ Q E D H,W M c (jv 2) true Q E D H =
  Lz E 3 fun g t3=>Fl g 4 t3 H fun g t6=>Ly g E 0 fun g t0=>B3 g (Op.nilCheck [t0]) fun g t8=>B3 g ((Op.fieldAddr 1) [t8]) fun g t9=>Fl g 0 t9 H fun g t11=>B3 g (Op.lenSl [t11]) fun g t12=>B3 g ((Op.wrap .u64) [t12]) fun g t13=>Cb g .geq t6 t13 (fun g=>GO3 g (SEQ3 (W M c (jv 10)) Q) .ret ((4,(.bool false))::E) D H) (fun g=>Gt g M c (jv 10) Q E D H)) /\
 (∀ Q E D H,W M c (jv 10) true Q E D H =
  Lz E 0 fun g t0=>B3 g (Op.nilCheck [t0]) fun g t16=>B3 g ((Op.fieldAddr 1) [t16]) fun g t17=>Fl g 0 t17 H fun g t19=>Ly g E 3 fun g t3=>Fl g 4 t3 H fun g t21=>Fl g 3 t3 H fun g t23=>Xs g t19 t21 t23 H fun g u H1=>Ly g E 0 fun g t0_1=>Ly g E 3 fun g t3_1=>B3 g ((Op.loadN 5) [t3_1] H1) fun g t26=>C3 M g (.func xo) [t0_1,t26] H1 fun g t27 H2=>GO3 g Q .ret ((4,t27)::E) D H2):=by (repeat' apply And.intro)<;>(intro _ _ _ _;refine W_unf ?_;kernel_rfl)
theorem qfn:(cProg Tryz.prog).func zd=some qax/\qax.results=[.tmp 4]:=z9 (by kernel_rfl)
theorem qfo (h:W M ⟨none,zd⟩ (jv 0) true (FIN3 M [.tmp 4] Q) [(0,a0),(1,a1)] [] H):qas M zd [a0,a1] H Q:=callf (by decide) qfn (ks:=qcp) (by kernel_rfl) h
def qav:AFunc:=funcAt Tryz.prog zb
def qck:Kp:=⟨[0,1,3,4],false,[0,2,10]⟩
def ju (k:Nat):Kp × ACode:=(qck,part qav.body k)
theorem qfl (M:Mac) (c:Ctx):(∀ Q E D H,W M c (ju 0) true Q E D H =
 Lz E 1 fun g t1=>A3 g qn (AV.cells t1) H fun g t3 H1=>W M c (ju 2) g Q ((4,(.bool false))::(3,t3)::E) D H1) /\
 (∀ Q E D H,W M c (ju 2) true Q E D H =
  Lz E 0 fun g t0=>Nf g 27 t0 H fun g t8=>IF3 g t8 (fun g=>GO3 g (SEQ3 (W M c (ju 10)) Q) .ret ((4,(.bool false))::E) D H) (fun g=>Gt g M c (ju 10) Q E D H)) /\
 (∀ Q E D H,W M c (ju 10) true Q E D H =
  Lz E 0 fun g t0=>Ns g 27 t0 (.bool true) H fun g u H1=>Ly g E 0 fun g t0_1=>Ly g E 3 fun g t3=>B3 g ((Op.loadN 5) [t3] H1) fun g t13=>C3 M g (.func xo) [t0_1,t13] H1 fun g t14 H2=>Ly g E 0 fun g t0_2=>B3 g (Op.nilCheck [t0_2]) fun g t17=>B3 g ((Op.fieldAddr 1) [t17]) fun g t18=>B3 g ((Op.loadN 13) [t18] H2) fun g t19=>B3 g (Op.nilCheck [t0_2]) fun g t20=>B3 g ((Op.fieldAddr 14) [t20]) fun g t21=>B32 g ((Op.store 13) [t21,t19] H2) fun g u_1 H3=>Ly g E 0 fun g t0_3=>B3 g (Op.nilCheck [t0_3]) fun g t24=>B3 g ((Op.fieldAddr 1) [t24]) fun g t25=>Fl g 0 t25 H3 fun g t27=>C3 M g (.func jf) [t27] H3 fun g t28 H4=>B3 g (Op.nilCheck [t0_3]) fun g t29=>B3 g ((Op.fieldAddr 14) [t29]) fun g t30=>Fs g 0 t30 t28 H4 fun g u_2 H5=>GO3 g Q .ret ((4,(.bool true))::E) D H5):=by (repeat' apply And.intro)<;>(intro _ _ _ _;refine W_unf ?_;kernel_rfl)
theorem qfj:(cProg Tryz.prog).func zb=some qav/\qav.results=[.tmp 4]:=z9 (by kernel_rfl)
theorem qfk (h:W M ⟨none,zb⟩ (ju 0) true (FIN3 M [.tmp 4] Q) [(0,a0),(1,a1)] [] H):qas M zb [a0,a1] H Q:=callf (by decide) qfj (ks:=qck) (by kernel_rfl) h
def qag:AFunc:=funcAt Tryz.prog x7
def qcf:Kp:=⟨[0,1,3,4],false,[0,2,10]⟩
def ji (k:Nat):Kp × ACode:=(qcf,part qag.body k)
theorem qe0 (M:Mac) (c:Ctx):(∀ Q E D H,W M c (ji 0) true Q E D H =
 Lz E 1 fun g t1=>A3 g qn (AV.cells t1) H fun g t3 H1=>W M c (ji 2) g Q ((4,(.bool false))::(3,t3)::E) D H1) /\
 (∀ Q E D H,W M c (ji 2) true Q E D H =
  Lz E 0 fun g t0=>Nf g 27 t0 H fun g t8=>B3 g ((Op.un .not) [t8]) fun g t9=>IF3 g t9 (fun g=>GO3 g (SEQ3 (W M c (ji 10)) Q) .ret ((4,(.bool false))::E) D H) (fun g=>Gt g M c (ji 10) Q E D H)) /\
 (∀ Q E D H,W M c (ji 10) true Q E D H =
  Lz E 0 fun g t0=>Ns g 27 t0 (.bool false) H fun g u H1=>Ly g E 0 fun g t0_1=>B3 g (Op.nilCheck [t0_1]) fun g t14=>B3 g ((Op.fieldAddr 1) [t14]) fun g t15=>Fl g 11 t15 H1 fun g t17=>Bn g .add t17 (.int .i64 1) fun g t18=>B3 g (Op.nilCheck [t0_1]) fun g t19=>B3 g ((Op.fieldAddr 1) [t19]) fun g t20=>Fs g 11 t20 t18 H1 fun g u_1 H2=>Ly g E 0 fun g t0_2=>Ly g E 3 fun g t3=>B3 g ((Op.loadN 5) [t3] H2) fun g t23=>C3 M g (.func xo) [t0_2,t23] H2 fun g t24 H3=>GO3 g Q .ret ((4,t24)::E) D H3):=by (repeat' apply And.intro)<;>(intro _ _ _ _;refine W_unf ?_;kernel_rfl)
theorem qey:(cProg Tryz.prog).func x7=some qag/\qag.results=[.tmp 4]:=z9 (by kernel_rfl)
theorem qez (h:W M ⟨none,x7⟩ (ji 0) true (FIN3 M [.tmp 4] Q) [(0,a0),(1,a1)] [] H):qas M x7 [a0,a1] H Q:=callf (by decide) qey (ks:=qcf) (by kernel_rfl) h
def qa9:AFunc:=funcAt Tryz.prog zj
def qc6:Kp:=⟨[0,1,4],false,[0,2,8]⟩
def j6 (k:Nat):Kp × ACode:=(qc6,part qa9.body k)
theorem qga (M:Mac) (c:Ctx):(∀ Q E D H,W M c (j6 0) true Q E D H =
 Lz E 1 fun g t1=>A3 g qn (AV.cells t1) H fun g t3 H1=>W M c (j6 2) g Q ((4,(.bool false))::E) D H1) /\
 (∀ Q E D H,W M c (j6 2) true Q E D H =
  Lz E 0 fun g t0=>Nf g 27 t0 H fun g t8=>B3 g ((Op.un .not) [t8]) fun g t9=>IF3 g t9 (fun g=>Ly g E 0 fun g t0_1=>C3 M g (.func x8) [t0_1,(.int .i64 0)] H fun g t11 H1=>Gt g M c (j6 8) Q E D H1) (fun g=>Gt g M c (j6 8) Q E D H)) /\
 (∀ Q E D H,W M c (j6 8) true Q E D H =
  Lz E 0 fun g t0=>Nf g 27 t0 H fun g t15=>B3 g ((Op.un .not) [t15]) fun g t16=>GO3 g Q .ret ((4,t16)::E) D H):=by (repeat' apply And.intro)<;>(intro _ _ _ _;refine W_unf ?_;kernel_rfl)
theorem qf8:(cProg Tryz.prog).func zj=some qa9/\qa9.results=[.tmp 4]:=z9 (by kernel_rfl)
theorem qf9 (h:W M ⟨none,zj⟩ (j6 0) true (FIN3 M [.tmp 4] Q) [(0,a0),(1,a1)] [] H):qas M zj [a0,a1] H Q:=callf (by decide) qf8 (ks:=qc6) (by kernel_rfl) h
end
end Go.Am
namespace Go.Am
abbrev vv:Nat:=17
abbrev wh:Nat:=6
abbrev vq:Nat:=18
abbrev vz:Nat:=55
noncomputable section
open Go.Proofs Go.Proofs.YtbimikjajohflaaGreatDoor
variable {M:Mac} [MK M] {H:AHeap} {Q:AEnd->AHeap->Prop} {a0 a1:AV}
def qdm:AFunc:=funcAt Tryz.prog wh
def qfs:Kp:=⟨[0,1,2,4,5,6,7,8,9,10,11,13,14,15,16],false,[0,4,6,14,18,20,28,38,42,47,53,61,66,67,75]⟩
def qp (k:Nat):Kp × ACode:=(qfs,part qdm.body k)
theorem qkm (M:Mac) (c:Ctx):(∀ Q E D H,W M c (qp 0) true Q E D H =
 Lz E 0 fun g t0=>A3 g vz (AV.cells t0) H fun g t2 H1=>C3 M g (.func qgo) [] H1 fun g t17 H2=>W M c (qp 4) g Q ((5,t17)::(4,(.bool false))::(2,t2)::E) D H2) /\
 (∀ Q E D H,W M c (qp 4) true Q E D H =
  Lz E 2 fun g t2=>Fl g 11 t2 H fun g t19=>Bn g .rem t19 (.int .i64 1000) fun g t20=>Bn g .add t20 (.int .i64 1000) fun g t21=>Bn g .rem t21 (.int .i64 1000) fun g t22=>Fs g 11 t2 t22 H fun g u H1=>W M c (qp 6) g Q E D H1) /\
 (∀ Q E D H,W M c (qp 6) true Q E D H =
  Lz E 2 fun g t2=>B3 g ((Op.loadN 12) [t2] H) fun g t24=>C3 M g (.func vv) [t24] H fun g t25 H1=>Bn g .gtr t25 (.int .i64 0) fun g t26=>JN (fun (k:Bool->AV->AV->AHeap->Prop)=>B3 g (wantV false (some t26)) fun g w=>IG3 g w (fun g=>Ly g E 5 fun g t5=>B3 g ((Op.un .not) [t5]) fun g t29=>k g t29 t5 H1) (fun g=>k g uu uu H1)) (fun g t29_1 t28_1 H2=>B3 g (Op.pick [t26,(.bool true),t29_1]) fun g t30=>IF3 g t30 (fun g=>Ly g E 5 fun g t5_1=>GO3 g (SEQ3 (W M c (qp 14)) Q) .ret ((4,t5_1)::E) D H2) (fun g=>Gt g M c (qp 14) Q E D H2))) /\
 (∀ Q E D H,W M c (qp 14) true Q E D H =
  Lz E 1 fun g t1=>B3 g ((Op.wrap .i64) [t1]) fun g t33=>Bn g .rem t33 (.int .i64 1000) fun g t34=>Ly g E 2 fun g t2=>Fl g 0 t2 H fun g t37=>B3 g ((Op.fieldAddr 1) [t2]) fun g t38=>B3 g ((Op.loadN 8) [t38] H) fun g t39=>Fl g 9 t2 H fun g t41=>Fl g 10 t2 H fun g t43=>Fl g 11 t2 H fun g t45=>C3 M g (.func vh) [t37,t39,t41,t43,t45] H fun g t46 H1=>B3 g ((Op.extract 0) [t46]) fun g t47=>B3 g ((Op.extract 1) [t46]) fun g t48=>A3 g zf [.nils,(.int .u64 0),(.int .u64 0),(.int .u64 0),(.int .u64 0),(.int .u64 0),(.int .u64 0),(.int .u64 0),(.int .u64 0),(.int .i64 0),(.int .i64 0),(.int .i64 0),(.int .i64 0)] H1 fun g t7 H2=>B32 g ((Op.store 13) [t7,t47] H2) fun g u H3=>W M c (qp 18) g Q ((8,t48)::(7,t7)::(6,t34)::E) D H3) /\
 (∀ Q E D H,W M c (qp 18) true Q E D H =
  Lz E 2 fun g t2=>Fl g 0 t2 H fun g t51=>B3 g ((Op.fieldAddr 1) [t2]) fun g t52=>B3 g ((Op.loadN 8) [t52] H) fun g t53=>Fl g 9 t2 H fun g t55=>Fl g 10 t2 H fun g t57=>Fl g 11 t2 H fun g t59=>Ly g E 6 fun g t6=>Bn g .add t59 t6 fun g t61=>C3 M g (.func vh) [t51,t53,t55,t57,t61] H fun g t62 H1=>B3 g ((Op.extract 0) [t62]) fun g t63=>B3 g ((Op.extract 1) [t62]) fun g t64=>A3 g zf [.nils,(.int .u64 0),(.int .u64 0),(.int .u64 0),(.int .u64 0),(.int .u64 0),(.int .u64 0),(.int .u64 0),(.int .u64 0),(.int .i64 0),(.int .i64 0),(.int .i64 0),(.int .i64 0)] H1 fun g t9 H2=>B32 g ((Op.store 13) [t9,t63] H2) fun g u H3=>W M c (qp 20) g Q ((10,t64)::(9,t9)::E) D H3) /\
 (∀ Q E D H,W M c (qp 20) true Q E D H =
  Lz E 8 fun g t8=>Bn g .neq t8 (.int .i64 0) fun g t66=>JN (fun (k:Bool->AV->AV->AHeap->Prop)=>B3 g (wantV false (some t66)) fun g w=>IG3 g w (fun g=>Ly g E 10 fun g t10=>Bn g .neq t10 (.int .i64 0) fun g t69=>k g t69 t10 H) (fun g=>k g uu uu H)) (fun g t69_1 t68_1 H1=>B3 g (Op.pick [t66,(.bool true),t69_1]) fun g t70=>IF3 g t70 (fun g=>Ly g E 5 fun g t5=>JN (fun (k:Bool->AV->AV->AV->AHeap->Prop)=>B3 g (wantV true (some t5)) fun g w=>IG3 g w (fun g=>Ly g E 8 fun g t8_1=>Ly g E 10 fun g t10_1=>Bn g .eql t8_1 t10_1 fun g t75=>k g t75 t10_1 t8_1 H1) (fun g=>k g uu uu uu H1)) (fun g t75_1 t74_1 t73_1 H2=>B3 g (Op.pick [t5,t75_1,(.bool false)]) fun g t76=>GO3 g (SEQ3 (W M c (qp 28)) Q) .ret ((4,t76)::E) D H2)) (fun g=>Gt g M c (qp 28) Q E D H1))) /\
 (∀ Q E D H,W M c (qp 28) true Q E D H =
  Lz E 7 fun g t7=>Fl g 12 t7 H fun g t78=>Cb g .neq t78 (.int .i64 190) (fun g=>Ly g E 7 fun g t7_1=>Fl g 10 t7_1 H fun g t81=>Ly g E 6 fun g t6=>Bn g .add t81 t6 fun g t83=>Fs g 10 t7_1 t83 H fun g u H1=>Ly g E 5 fun g t5=>JN (fun (k:Bool->AV->AV->AV->AHeap->Prop)=>B3 g (wantV true (some t5)) fun g w=>IG3 g w (fun g=>Ly g E 7 fun g t7_2=>B3 g ((Op.loadN 13) [t7_2] H1) fun g t87=>Ly g E 9 fun g t9=>B3 g ((Op.loadN 13) [t9] H1) fun g t88=>C3 M g (.func vq) [t87,t88] H1 fun g t89 H2=>k g t89 t88 t87 H2) (fun g=>k g uu uu uu H1)) (fun g t89_1 t88_1 t87_1 H3=>B3 g (Op.pick [t5,t89_1,(.bool false)]) fun g t90=>GO3 g (SEQ3 (W M c (qp 38)) Q) .ret ((4,t90)::E) D H3)) (fun g=>Gt g M c (qp 38) Q E D H)) /\
 (∀ Q E D H,W M c (qp 38) true Q E D H =
  Lz E 2 fun g t2=>Fl g 0 t2 H fun g t93=>B3 g ((Op.fieldAddr 1) [t2]) fun g t94=>B3 g ((Op.loadN 8) [t94] H) fun g t95=>Fl g 9 t2 H fun g t97=>Fl g 10 t2 H fun g t99=>Fl g 11 t2 H fun g t101=>C3 M g (.func qaa) [t93,t95,t97,t99,t101] H fun g t102 H1=>B3 g ((Op.extract 0) [t102]) fun g t103=>B3 g ((Op.extract 1) [t102]) fun g t104=>W M c (qp 42) g Q ((13,(.bool false))::(11,t103)::E) D H1) /\
 (∀ Q E D H,W M c (qp 42) true Q E D H =
  LOOP3 (W M c (qp 47)) (BLK3 0 (SEQ3 (W M c (qp 67)) Q)) ((14,(.int .i64 0))::E) D H) /\
 (∀ Q E D H,W M c (qp 67) true Q E D H =
  Lz E 13 fun g t13=>IF3 g t13 (fun g=>Ly g E 5 fun g t5=>GO3 g (SEQ3 (W M c (qp 75)) Q) .ret ((4,t5)::E) D H) (fun g=>Gt g M c (qp 75) Q E D H)) /\
 (∀ Q E D H,W M c (qp 47) true Q E D H =
  Lz E 14 fun g t14=>Ly g E 11 fun g t11=>B3 g (Op.lenSl [t11]) fun g t107=>Cb g .lss t14 t107 (fun g=>Gt g M c (qp 53) Q E D H) (fun g=>GO3 g (SEQ3 (W M c (qp 53)) Q) (.exit 0) E D H)) /\
 (∀ Q E D H,W M c (qp 75) true Q E D H =
  Lz E 2 fun g t2=>Fl g 0 t2 H fun g t169=>Ly g E 7 fun g t7=>B3 g ((Op.fieldAddr 1) [t7]) fun g t170=>B3 g ((Op.loadN 8) [t170] H) fun g t171=>Fl g 9 t7 H fun g t173=>Fl g 0 t7 H fun g t175=>Ly g E 6 fun g t6=>C3 M g (.func vh) [t169,t171,t173,t175,t6] H fun g t177 H1=>B3 g ((Op.extract 0) [t177]) fun g t178=>B3 g ((Op.extract 1) [t177]) fun g t179=>A3 g zf [.nils,(.int .u64 0),(.int .u64 0),(.int .u64 0),(.int .u64 0),(.int .u64 0),(.int .u64 0),(.int .u64 0),(.int .u64 0),(.int .i64 0),(.int .i64 0),(.int .i64 0),(.int .i64 0)] H1 fun g t15 H2=>B32 g ((Op.store 13) [t15,t178] H2) fun g u H3=>Fl g 11 t15 H3 fun g t181=>Ly g E 7 fun g t7_1=>Fl g 11 t7_1 H3 fun g t183=>Bn g .add t181 t183 fun g t184=>Fs g 11 t15 t184 H3 fun g u_1 H4=>Ly g E 5 fun g t5=>JN (fun (k:Bool->AV->AV->AHeap->Prop)=>B3 g (wantV true (some t5)) fun g w=>IG3 g w (fun g=>Bn g .eql t179 (.int .i64 0) fun g t189=>k g t189 t179 H4) (fun g=>k g uu uu H4)) (fun g t189_1 t188_1 H5=>B3 g (Op.pick [t5,t189_1,(.bool false)]) fun g t190=>JN (fun (k:Bool->AV->AV->AV->AHeap->Prop)=>B3 g (wantV true (some t190)) fun g w=>IG3 g w (fun g=>B3 g ((Op.loadN 13) [t15] H5) fun g t192=>Ly g E 9 fun g t9=>B3 g ((Op.loadN 13) [t9] H5) fun g t193=>C3 M g (.func vq) [t192,t193] H5 fun g t194 H6=>k g t194 t193 t192 H6) (fun g=>k g uu uu uu H5)) (fun g t194_1 t193_1 t192_1 H7=>B3 g (Op.pick [t190,t194_1,(.bool false)]) fun g t195=>GO3 g Q .ret ((4,t195)::(16,t179)::(15,t15)::E) D H7))) /\
 (∀ Q E D H,W M c (qp 53) true Q E D H =
  Lz E 11 fun g t11=>Ly g E 14 fun g t14=>Xl g t11 t14 H fun g t114=>Bn g .geq t114 (.int .i64 0) fun g t115=>JN (fun (k:Bool->AV->AV->AV->AV->AV->AV->AV->AV->AHeap->Prop)=>B3 g (wantV true (some t115)) fun g w=>IG3 g w (fun g=>B3 g ((Op.indexSl 1) [t11,t14]) fun g t119=>B3 g (Op.load1 [t119] H) fun g t120=>Ly g E 2 fun g t2=>B3 g ((Op.fieldAddr 0) [t2]) fun g t121=>B3 g (Op.load1 [t121] H) fun g t122=>B3 g (Op.lenSl [t122]) fun g t123=>Bn g .lss t120 t123 fun g t124=>k g t124 t123 t122 t121 t120 t119 t14 t11 H) (fun g=>k g uu uu uu uu uu uu uu uu H)) (fun g t124_1 t123_1 t122_1 t121_1 t120_1 t119_1 t118_1 t117_1 H1=>B3 g (Op.pick [t115,t124_1,(.bool false)]) fun g t125=>JN (fun (k:Bool->AV->AV->AV->AV->AV->AV->AV->AV->AV->AV->AHeap->Prop)=>B3 g (wantV true (some t125)) fun g w=>IG3 g w (fun g=>Ly g E 2 fun g t2_1=>B3 g ((Op.fieldAddr 0) [t2_1]) fun g t127=>B3 g (Op.load1 [t127] H1) fun g t128=>B3 g ((Op.indexSl 1) [t11,t14]) fun g t131=>B3 g (Op.load1 [t131] H1) fun g t132=>B3 g ((Op.indexSl 5) [t128,t132]) fun g t133=>B3 g ((Op.fieldAddr 0) [t133]) fun g t134=>B3 g (Op.load1 [t134] H1) fun g t135=>Bn g .eql t135 (.int .i64 17) fun g t136=>k g t136 t135 t134 t133 t132 t131 t14 t11 t128 t127 H1) (fun g=>k g uu uu uu uu uu uu uu uu uu uu H1)) (fun g t136_1 t135_1 t134_1 t133_1 t132_1 t131_1 t130_1 t129_1 t128_1 t127_1 H2=>B3 g (Op.pick [t125,t136_1,(.bool false)]) fun g t137=>IF3 g t137 (fun g=>Gt g M c (qp 61) (BLK3 1 (SEQ3 (W M c (qp 66)) Q)) ((13,(.bool true))::E) D H2) (fun g=>Gt g M c (qp 61) (BLK3 1 (SEQ3 (W M c (qp 66)) Q)) E D H2)))) /\
 (∀ Q E D H,W M c (qp 66) true Q E D H =
  Lz E 14 fun g t14=>Bn g .add t14 (.int .i64 1) fun g t110=>GO3 g Q .normal ((14,t110)::E) D H) /\
 (∀ Q E D H,W M c (qp 61) true Q E D H =
  Lz E 11 fun g t11=>Ly g E 14 fun g t14=>Xl g t11 t14 H fun g t141=>Bn g .geq t141 (.int .i64 0) fun g t142=>JN (fun (k:Bool->AV->AV->AV->AV->AV->AV->AV->AV->AHeap->Prop)=>B3 g (wantV true (some t142)) fun g w=>IG3 g w (fun g=>B3 g ((Op.indexSl 1) [t11,t14]) fun g t146=>B3 g (Op.load1 [t146] H) fun g t147=>Ly g E 2 fun g t2=>B3 g ((Op.fieldAddr 0) [t2]) fun g t148=>B3 g (Op.load1 [t148] H) fun g t149=>B3 g (Op.lenSl [t149]) fun g t150=>Bn g .lss t147 t150 fun g t151=>k g t151 t150 t149 t148 t147 t146 t14 t11 H) (fun g=>k g uu uu uu uu uu uu uu uu H)) (fun g t151_1 t150_1 t149_1 t148_1 t147_1 t146_1 t145_1 t144_1 H1=>B3 g (Op.pick [t142,t151_1,(.bool false)]) fun g t152=>JN (fun (k:Bool->AV->AV->AV->AV->AV->AV->AV->AV->AV->AV->AHeap->Prop)=>B3 g (wantV true (some t152)) fun g w=>IG3 g w (fun g=>Ly g E 2 fun g t2_1=>B3 g ((Op.fieldAddr 0) [t2_1]) fun g t154=>B3 g (Op.load1 [t154] H1) fun g t155=>B3 g ((Op.indexSl 1) [t11,t14]) fun g t158=>B3 g (Op.load1 [t158] H1) fun g t159=>B3 g ((Op.indexSl 5) [t155,t159]) fun g t160=>B3 g ((Op.fieldAddr 0) [t160]) fun g t161=>B3 g (Op.load1 [t161] H1) fun g t162=>Bn g .eql t162 (.int .i64 18) fun g t163=>k g t163 t162 t161 t160 t159 t158 t14 t11 t155 t154 H1) (fun g=>k g uu uu uu uu uu uu uu uu uu uu H1)) (fun g t163_1 t162_1 t161_1 t160_1 t159_1 t158_1 t157_1 t156_1 t155_1 t154_1 H2=>B3 g (Op.pick [t152,t163_1,(.bool false)]) fun g t164=>IF3 g t164 (fun g=>GO3 g Q .normal ((13,(.bool false))::E) D H2) (fun g=>GO3 g Q .normal E D H2)))):=by (repeat' apply And.intro)<;>(intro _ _ _ _;refine W_unf ?_;kernel_rfl)
theorem qkk:(cProg Tryz.prog).func wh=some qdm/\qdm.results=[.tmp 4]:=z9 (by kernel_rfl)
theorem qkl (h:W M ⟨none,wh⟩ (qp 0) true (FIN3 M [.tmp 4] Q) [(0,a0),(1,a1)] [] H):qas M wh [a0,a1] H Q:=callf (by decide) qkk (ks:=qfs) (by kernel_rfl) h
def qd5:AFunc:=funcAt Tryz.prog vv
def qgz:Kp:=⟨[0,1,2],false,[0,2,10]⟩
def vx (k:Nat):Kp × ACode:=(qgz,part qd5.body k)
theorem qmd (M:Mac) (c:Ctx):(∀ Q E D H,W M c (vx 0) true Q E D H =
 Lz E 0 fun g t0=>A3 g vz (AV.cells t0) H fun g t1 H1=>W M c (vx 2) g Q ((2,(.int .i64 0))::(1,t1)::E) D H1) /\
 (∀ Q E D H,W M c (vx 2) true Q E D H =
  Lz E 1 fun g t1=>Fl g 10 t1 H fun g t4=>B3 g (Op.lenSl [t4]) fun g t5=>Bn g .gtr t5 (.int .i64 5000) fun g t6=>JN (fun (k:Bool->AV->AV->AV->AV->AHeap->Prop)=>B3 g (wantV false (some t6)) fun g w=>IG3 g w (fun g=>B3 g ((Op.fieldAddr 0) [t1]) fun g t8=>B3 g (Op.load1 [t8] H) fun g t9=>B3 g (Op.lenSl [t9]) fun g t10=>Bn g .gtr t10 (.int .i64 2000) fun g t11=>k g t11 t10 t9 t8 H) (fun g=>k g uu uu uu uu H)) (fun g t11_1 t10_1 t9_1 t8_1 H1=>B3 g (Op.pick [t6,(.bool true),t11_1]) fun g t12=>JN (fun (k:Bool->AV->AV->AV->AV->AHeap->Prop)=>B3 g (wantV false (some t12)) fun g w=>IG3 g w (fun g=>B3 g ((Op.fieldAddr 11) [t1]) fun g t14=>B3 g (Op.load1 [t14] H1) fun g t15=>Bn g .gtr t15 (.int .i64 5000) fun g t16=>k g t16 t16 t15 t14 H1) (fun g=>k g uu uu uu uu H1)) (fun g t17_1 t16_1 t15_1 t14_1 H2=>JN (fun (k:Bool->AV->AV->AV->AHeap->Prop)=>B3 g (wantV true (some t17_1)) fun g w=>IG3 g w (fun g=>B3 g ((Op.fieldAddr 11) [t1]) fun g t18=>B3 g (Op.load1 [t18] H2) fun g t19=>Bn g .leq t19 (.int .i64 1048576) fun g t20=>k g t20 t19 t18 H2) (fun g=>k g uu uu uu H2)) (fun g t20_1 t19_1 t18_1 H3=>JN (fun (k:Bool->AV->AHeap->Prop)=>B3 g (wantV false (some t12)) fun g w=>IG3 g w (fun g=>B3 g (Op.pick [t17_1,t20_1,(.bool false)]) fun g t21=>k g t21 H3) (fun g=>k g uu H3)) (fun g t21_1 H4=>B3 g (Op.pick [t12,(.bool true),t21_1]) fun g t22=>IF3 g t22 (fun g=>GO3 g (SEQ3 (W M c (vx 10)) Q) .ret ((2,(.int .i64 1))::E) D H4) (fun g=>Gt g M c (vx 10) Q E D H4)))))) /\
 (∀ Q E D H,W M c (vx 10) true Q E D H =
  GO3 true Q .ret ((2,(.int .i64 0))::E) D H):=by (repeat' apply And.intro)<;>(intro _ _ _ _;refine W_unf ?_;kernel_rfl)
theorem qmb:(cProg Tryz.prog).func vv=some qd5/\qd5.results=[.tmp 2]:=z9 (by kernel_rfl)
theorem qmc (h:W M ⟨none,vv⟩ (vx 0) true (FIN3 M [.tmp 2] Q) [(0,a0)] [] H):qas M vv [a0] H Q:=callf (by decide) qmb (ks:=qgz) (by kernel_rfl) h
def qeu:AFunc:=funcAt Tryz.prog vq
def qh5:Kp:=⟨[0,1,2,3,4,5],false,[0,2,10,15,21,30,31]⟩
def zt (k:Nat):Kp × ACode:=(qh5,part qeu.body k)
theorem qon (M:Mac) (c:Ctx):(∀ Q E D H,W M c (zt 0) true Q E D H =
 Lz E 0 fun g t0=>A3 g zf (AV.cells t0) H fun g t2 H1=>Ly g E 1 fun g t1=>A3 g zf (AV.cells t1) H1 fun g t3 H2=>W M c (zt 2) g Q ((4,(.bool false))::(3,t3)::(2,t2)::E) D H2) /\
 (∀ Q E D H,W M c (zt 2) true Q E D H =
  Lz E 2 fun g t2=>Fl g 0 t2 H fun g t7=>B3 g (Op.lenSl [t7]) fun g t8=>Ly g E 3 fun g t3=>Fl g 0 t3 H fun g t10=>B3 g (Op.lenSl [t10]) fun g t11=>Cb g .neq t8 t11 (fun g=>GO3 g (SEQ3 (W M c (zt 10)) Q) .ret ((4,(.bool false))::E) D H) (fun g=>Gt g M c (zt 10) Q E D H)) /\
 (∀ Q E D H,W M c (zt 10) true Q E D H =
  LOOP3 (W M c (zt 15)) (BLK3 0 (SEQ3 (W M c (zt 31)) Q)) ((5,(.int .i64 0))::E) D H) /\
 (∀ Q E D H,W M c (zt 31) true Q E D H =
  Lz E 2 fun g t2=>B3 g ((Op.fieldAddr 1) [t2]) fun g t31=>B3 g ((Op.loadN 8) [t31] H) fun g t32=>Ly g E 3 fun g t3=>B3 g ((Op.fieldAddr 1) [t3]) fun g t33=>B3 g ((Op.loadN 8) [t33] H) fun g t34=>B3 g ((Op.eq (.agg (.part 0 none .int (.part 1 none .int (.part 2 none .int (.part 3 none .int (.part 4 none .int (.part 5 none .int (.part 6 none .int (.part 7 none .int .nil))))))))) false) [t32,t34] H) fun g t35=>JN (fun (k:Bool->AV->AV->AV->AV->AV->AHeap->Prop)=>B3 g (wantV true (some t35)) fun g w=>IG3 g w (fun g=>B3 g ((Op.fieldAddr 9) [t2]) fun g t37=>B3 g (Op.load1 [t37] H) fun g t38=>B3 g ((Op.fieldAddr 9) [t3]) fun g t39=>B3 g (Op.load1 [t39] H) fun g t40=>Bn g .eql t38 t40 fun g t41=>k g t41 t40 t39 t38 t37 H) (fun g=>k g uu uu uu uu uu H)) (fun g t41_1 t40_1 t39_1 t38_1 t37_1 H1=>B3 g (Op.pick [t35,t41_1,(.bool false)]) fun g t42=>JN (fun (k:Bool->AV->AV->AV->AV->AV->AHeap->Prop)=>B3 g (wantV true (some t42)) fun g w=>IG3 g w (fun g=>B3 g ((Op.fieldAddr 10) [t2]) fun g t44=>B3 g (Op.load1 [t44] H1) fun g t45=>B3 g ((Op.fieldAddr 10) [t3]) fun g t46=>B3 g (Op.load1 [t46] H1) fun g t47=>Bn g .eql t45 t47 fun g t48=>k g t48 t47 t46 t45 t44 H1) (fun g=>k g uu uu uu uu uu H1)) (fun g t48_1 t47_1 t46_1 t45_1 t44_1 H2=>B3 g (Op.pick [t42,t48_1,(.bool false)]) fun g t49=>JN (fun (k:Bool->AV->AV->AV->AV->AV->AHeap->Prop)=>B3 g (wantV true (some t49)) fun g w=>IG3 g w (fun g=>B3 g ((Op.fieldAddr 11) [t2]) fun g t51=>B3 g (Op.load1 [t51] H2) fun g t52=>B3 g ((Op.fieldAddr 11) [t3]) fun g t53=>B3 g (Op.load1 [t53] H2) fun g t54=>Bn g .eql t52 t54 fun g t55=>k g t55 t54 t53 t52 t51 H2) (fun g=>k g uu uu uu uu uu H2)) (fun g t55_1 t54_1 t53_1 t52_1 t51_1 H3=>B3 g (Op.pick [t49,t55_1,(.bool false)]) fun g t56=>JN (fun (k:Bool->AV->AV->AV->AV->AV->AHeap->Prop)=>B3 g (wantV true (some t56)) fun g w=>IG3 g w (fun g=>B3 g ((Op.fieldAddr 12) [t2]) fun g t58=>B3 g (Op.load1 [t58] H3) fun g t59=>B3 g ((Op.fieldAddr 12) [t3]) fun g t60=>B3 g (Op.load1 [t60] H3) fun g t61=>Bn g .eql t59 t61 fun g t62=>k g t62 t61 t60 t59 t58 H3) (fun g=>k g uu uu uu uu uu H3)) (fun g t62_1 t61_1 t60_1 t59_1 t58_1 H4=>B3 g (Op.pick [t56,t62_1,(.bool false)]) fun g t63=>GO3 g Q .ret ((4,t63)::E) D H4))))) /\
 (∀ Q E D H,W M c (zt 15) true Q E D H =
  Lz E 5 fun g t5=>Ly g E 2 fun g t2=>Fl g 0 t2 H fun g t15=>B3 g (Op.lenSl [t15]) fun g t16=>Cb g .lss t5 t16 (fun g=>Gt g M c (zt 21) Q E D H) (fun g=>GO3 g (SEQ3 (W M c (zt 21)) Q) (.exit 0) E D H)) /\
 (∀ Q E D H,W M c (zt 21) true Q E D H =
  Lz E 2 fun g t2=>Fl g 0 t2 H fun g t21=>Ly g E 5 fun g t5=>Xl g t21 t5 H fun g t24=>Ly g E 3 fun g t3=>Fl g 0 t3 H fun g t26=>Xl g t26 t5 H fun g t29=>Cb g .neq t24 t29 (fun g=>GO3 g (BLK3 1 (SEQ3 (W M c (zt 30)) Q)) .ret ((4,(.bool false))::E) D H) (fun g=>GO3 g (BLK3 1 (SEQ3 (W M c (zt 30)) Q)) .normal E D H)) /\
 (∀ Q E D H,W M c (zt 30) true Q E D H =
  Lz E 5 fun g t5=>Bn g .add t5 (.int .i64 1) fun g t19=>GO3 g Q .normal ((5,t19)::E) D H):=by (repeat' apply And.intro)<;>(intro _ _ _ _;refine W_unf ?_;kernel_rfl)
theorem qol:(cProg Tryz.prog).func vq=some qeu/\qeu.results=[.tmp 4]:=z9 (by kernel_rfl)
theorem qom (h:W M ⟨none,vq⟩ (zt 0) true (FIN3 M [.tmp 4] Q) [(0,a0),(1,a1)] [] H):qas M vq [a0,a1] H Q:=callf (by decide) qol (ks:=qh5) (by kernel_rfl) h
end
end Go.Am
