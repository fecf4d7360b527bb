/- CodeL: CodeS CodeLA CodeCA CodeCC. -/
import Derived.Test.YtbimikjajohflaaGreatDoorAmLB4
import Derived.Test.YtbimikjajohflaaGreatDoorAmLB1
import Derived.KernelRfl
import Derived.Test.YtbimikjajohflaaGreatDoorRows
set_option linter.unusedVariables false
set_option maxRecDepth 100000
namespace Go.Am
abbrev jj:Nat:=118
abbrev ju:Nat:=155
abbrev zy:Nat:=134
abbrev qfd:Nat:=135
abbrev jv:Nat:=153
abbrev jw:Nat:=133
abbrev ye:Nat:=132
abbrev qko:Nat:=7
abbrev wq:Nat:=154
abbrev vw:Nat:=94
abbrev yu:Nat:=64
abbrev kc:Nat:=65
abbrev jh:Nat:=27
abbrev zp:Nat:=61
abbrev jf:Nat:=89
abbrev wh:Nat:=93
abbrev qzj:Nat:=198
abbrev qbi:Nat:=9
abbrev qak:Nat:=5
abbrev zo:Nat:=2
def qy7:List UInt8:=[115,116,114,105,110,103,115,46,66,117,105,108,100,101,114,46,71,114,111,119,58,32,110,101,103,97,116,105,118,101,32,99,111,117,110,116]
def qny:List UInt8:=[48,49,50,51,52,53,54,55,56,57,97,98,99,100,101,102,103,104,105,106,107,108,109,110,111,112,113,114,115,116,117,118,119,120,121,122]
def yx:List UInt8:=[48,48,48,49,48,50,48,51,48,52,48,53,48,54,48,55,48,56,48,57,49,48,49,49,49,50,49,51,49,52,49,53,49,54,49,55,49,56,49,57,50,48,50,49,50,50,50,51,50,52,50,53,50,54,50,55,50,56,50,57,51,48,51,49,51,50,51,51,51,52,51,53,51,54,51,55,51,56,51,57,52,48,52,49,52,50,52,51,52,52,52,53,52,54,52,55,52,56,52,57,53,48,53,49,53,50,53,51,53,52,53,53,53,54,53,55,53,56,53,57,54,48,54,49,54,50,54,51,54,52,54,53,54,54,54,55,54,56,54,57,55,48,55,49,55,50,55,51,55,52,55,53,55,54,55,55,55,56,55,57,56,48,56,49,56,50,56,51,56,52,56,53,56,54,56,55,56,56,56,57,57,48,57,49,57,50,57,51,57,52,57,53,57,54,57,55,57,56,57,57]
def qkm:List UInt8:=[0,1,2,2,3,3,3,3,4,4,4,4,4,4,4,4,5,5,5,5,5,5,5,5,5,5,5,5,5,5,5,5,6,6,6,6,6,6,6,6,6,6,6,6,6,6,6,6,6,6,6,6,6,6,6,6,6,6,6,6,6,6,6,6,7,7,7,7,7,7,7,7,7,7,7,7,7,7,7,7,7,7,7,7,7,7,7,7,7,7,7,7,7,7,7,7,7,7,7,7,7,7,7,7,7,7,7,7,7,7,7,7,7,7,7,7,7,7,7,7,7,7,7,7,7,7,7,7,8,8,8,8,8,8,8,8,8,8,8,8,8,8,8,8,8,8,8,8,8,8,8,8,8,8,8,8,8,8,8,8,8,8,8,8,8,8,8,8,8,8,8,8,8,8,8,8,8,8,8,8,8,8,8,8,8,8,8,8,8,8,8,8,8,8,8,8,8,8,8,8,8,8,8,8,8,8,8,8,8,8,8,8,8,8,8,8,8,8,8,8,8,8,8,8,8,8,8,8,8,8,8,8,8,8,8,8,8,8,8,8,8,8,8,8,8,8,8,8,8,8,8,8,8,8,8,8]
noncomputable section
open Go.Proofs Go.Proofs.YtbimikjajohflaaGreatDoor
class MK (M:Mac):Prop where
 ok:∀ n,memN n [7,16]=false->M.func n=(cProg Tryz.prog).func n
theorem MK.at {M:Mac} [h:MK M] {n:Nat} {F:AFunc} (hn:memN n [7,16]=false) (hF:(cProg Tryz.prog).func n=some F):M.func n=some F:=(h.ok n hn).trans hF
theorem callf {M:Mac} [h:MK M] {n:Nat} {F:AFunc} (hn:memN n [7,16]=false) {rs:List ARes} (hF:(cProg Tryz.prog).func n=some F/\F.results=rs) {ks:Kp} {vs:List AV} (hk:keepB 0 vs.length ks.keep=true) {H:AHeap} {Q:AEnd->AHeap->Prop} (hw:W M ⟨none,n⟩ (ks,part F.body 0) true (FIN3 M rs Q) (envA 0 vs) [] H):qap M n vs H Q:=calle (MK.at hn hF.1) hk (hF.2 ▸ hw)
variable {M:Mac} [MK M] {H:AHeap} {Q:AEnd->AHeap->Prop} {a0 a1:AV}
def qdd:AFunc:=funcAt Tryz.prog vw
def qft:Kp:=⟨[0,1,4],false,[0]⟩
def qfu (k:Nat):Kp × ACode:=(qft,part qdd.body k)
theorem qfv (M:Mac) (c:Ctx):(∀ Q E D H,W M c (qfu 0) true Q E D H =
 Lz E 0 fun g t0=>Ly g E 1 fun g t1=>C3 M g (.func jj) [t0,t1] H fun g t7 H1=>GO3 g Q .ret ((4,t7)::(4,(.str []))::E) D H1):=by intro _ _ _ _;refine W_unf ?_;kernel_rfl
theorem qju:(cProg Tryz.prog).func vw=some qdd/\qdd.results=[.tmp 4]:=zm (by kernel_rfl)
theorem qjv (h:W M ⟨none,vw⟩ (qfu 0) true (FIN3 M [.tmp 4] Q) [(0,a0),(1,a1)] [] H):qap M vw [a0,a1] H Q:=callf (by decide) qju (ks:=qft) (by kernel_rfl) h
def qch:AFunc:=funcAt Tryz.prog yu
def qen:Kp:=⟨[0,1],false,[0,2,8]⟩
def yv (k:Nat):Kp × ACode:=(qen,part qch.body k)
theorem qba (M:Mac) (c:Ctx):(∀ Q E D H,W M c (yv 0) true Q E D H =
 Lz E 0 fun g t0=>C3 M g (.func jf) [t0] H fun g t5 H1=>W M c (yv 2) g Q E D H1) /\
 (∀ Q E D H,W M c (yv 2) true Q E D H =
  Lz E 1 fun g t1=>Cb g .lss t1 (.int .i64 0) (fun g=>B3 g ((Op.mkIface qbi) [(.str qy7)]) fun g t8=>False) (fun g=>Gt g M c (yv 8) Q E D H)) /\
 (∀ Q E D H,W M c (yv 8) true Q E D H =
  Lz E 0 fun g t0=>Nf g 1 t0 H fun g t12=>B3 g (Op.cap [t12]) fun g t13=>Nf g 1 t0 H fun g t17=>B3 g (Op.lenSl [t17]) fun g t18=>Bn g .sub t13 t18 fun g t19=>Ly g E 1 fun g t1=>Cb g .lss t19 t1 (fun g=>Ly g E 0 fun g t0_1=>Ly g E 1 fun g t1_1=>C3 M g (.func wh) [t0_1,t1_1] H fun g t24 H1=>GO3 g Q .normal E D H1) (fun g=>GO3 g Q .normal E D H)):=by (repeat' apply And.intro)<;>(intro _ _ _ _;refine W_unf ?_;kernel_rfl)
theorem qik:(cProg Tryz.prog).func yu=some qch/\qch.results=[]:=zm (by kernel_rfl)
theorem qil (h:W M ⟨none,yu⟩ (yv 0) true (FIN3 M [] Q) [(0,a0),(1,a1)] [] H):qap M yu [a0,a1] H Q:=callf (by decide) qik (ks:=qen) (by kernel_rfl) h
def qan:AFunc:=funcAt Tryz.prog zp
def qcc:Kp:=⟨[0,1,4,5],false,[0]⟩
def qcd (k:Nat):Kp × ACode:=(qcc,part qan.body k)
theorem qao (M:Mac) (c:Ctx):(∀ Q E D H,W M c (qcd 0) true Q E D H =
 Lz E 0 fun g t0=>C3 M g (.func jf) [t0] H fun g t7 H1=>Ly g E 0 fun g t0_1=>Nf g 1 t0_1 H1 fun g t12=>Ly g E 1 fun g t1=>B32 g ((Op.append qak 1 1) [t12,t1] H1) fun g t14 H2=>Ns g 1 t0_1 t14 H2 fun g u H3=>Ly g E 1 fun g t1_1=>B3 g (Op.lenStr [t1_1]) fun g t18=>GO3 g Q .ret ((5,.nili)::(4,t18)::(5,.nili)::(4,(.int .i64 0))::E) D H3):=by intro _ _ _ _;refine W_unf ?_;kernel_rfl
theorem qfk:(cProg Tryz.prog).func zp=some qan/\qan.results=[.tmp 4,.tmp 5]:=zm (by kernel_rfl)
theorem qfl (h:W M ⟨none,zp⟩ (qcd 0) true (FIN3 M [.tmp 4,.tmp 5] Q) [(0,a0),(1,a1)] [] H):qap M zp [a0,a1] H Q:=callf (by decide) qfk (ks:=qcc) (by kernel_rfl) h
def qby:AFunc:=funcAt Tryz.prog jh
def qd1:Kp:=⟨[0,2],false,[0]⟩
def qd2 (k:Nat):Kp × ACode:=(qd1,part qby.body k)
theorem qd3 (M:Mac) (c:Ctx):(∀ Q E D H,W M c (qd2 0) true Q E D H =
 Lz E 0 fun g t0=>Nf g 1 t0 H fun g t6=>B3 g (Op.sliceData [t6]) fun g t7=>Nf g 1 t0 H fun g t11=>B3 g (Op.lenSl [t11]) fun g t12=>B32 g ((Op.strOfPtr qak) [t7,t12] H) fun g t13 H1=>GO3 g Q .ret ((2,t13)::(2,(.str []))::E) D H1):=by intro _ _ _ _;refine W_unf ?_;kernel_rfl
theorem qhx:(cProg Tryz.prog).func jh=some qby/\qby.results=[.tmp 2]:=zm (by kernel_rfl)
theorem qhy (h:W M ⟨none,jh⟩ (qd2 0) true (FIN3 M [.tmp 2] Q) [(0,a0)] [] H):qap M jh [a0] H Q:=callf (by decide) qhx (ks:=qd1) (by kernel_rfl) h
def qcx:AFunc:=funcAt Tryz.prog kc
def qfb:Kp:=⟨[0,2],false,[0]⟩
def qfc (k:Nat):Kp × ACode:=(qfb,part qcx.body k)
theorem qi6 (M:Mac) (c:Ctx):(∀ Q E D H,W M c (qfc 0) true Q E D H =
 Lz E 0 fun g t0=>Nf g 1 t0 H fun g t6=>B3 g (Op.lenSl [t6]) fun g t7=>GO3 g Q .ret ((2,t7)::(2,(.int .i64 0))::E) D H):=by intro _ _ _ _;refine W_unf ?_;kernel_rfl
theorem qi4:(cProg Tryz.prog).func kc=some qcx/\qcx.results=[.tmp 2]:=zm (by kernel_rfl)
theorem qi5 (h:W M ⟨none,kc⟩ (qfc 0) true (FIN3 M [.tmp 2] Q) [(0,a0)] [] H):qap M kc [a0] H Q:=callf (by decide) qi4 (ks:=qfb) (by kernel_rfl) h
def qam:AFunc:=funcAt Tryz.prog jj
def qcb:Kp:=⟨[0,1,4,5,6,8],false,[0,2,6,14,24]⟩
def xn (k:Nat):Kp × ACode:=(qcb,part qam.body k)
theorem vf (M:Mac) (c:Ctx):(∀ Q E D H,W M c (xn 0) true Q E D H =
 W M c (xn 2) true Q ((4,(.str []))::E) D H) /\
 (∀ Q E D H,W M c (xn 2) true Q E D H =
  Lz E 1 fun g t1=>Cb g .eql t1 (.int .i64 10) (fun g=>W M c (xn 6) g (SEQ3 (W M c (xn 24)) Q) E D H) (fun g=>Gt g M c (xn 24) Q E D H)) /\
 (∀ Q E D H,W M c (xn 24) true Q E D H =
  Lz E 0 fun g t0=>Ly g E 1 fun g t1=>C3 M g (.func qfd) [.nils,t0,t1,(.bool false),(.bool false)] H fun g t28 H1=>B3 g ((Op.extract 0) [t28]) fun g t29=>B3 g ((Op.extract 1) [t28]) fun g t30=>GO3 g Q .ret ((4,t30)::(8,t30)::E) D H1) /\
 (∀ Q E D H,W M c (xn 6) true Q E D H =
  Lz E 0 fun g t0=>Cb g .lss t0 (.int .u64 100) (fun g=>Ly g E 0 fun g t0_1=>B3 g ((Op.wrap .i64) [t0_1]) fun g t14=>C3 M g (.func ye) [t14] H fun g t15 H1=>GO3 g (SEQ3 (W M c (xn 14)) Q) .ret ((4,t15)::E) D H1) (fun g=>Gt g M c (xn 14) Q E D H)) /\
 (∀ Q E D H,W M c (xn 14) true Q E D H =
  A3 true qzj (List.replicate 24 (.int .u8 0)) H fun g t5 H1=>Ly g E 0 fun g t0=>C3 M g (.func jw) [t0] H1 fun g t17 H2=>B3 g ((Op.sliceArr 24 1 [none,(some 0),none]) [t5,t17]) fun g t19=>Ly g E 0 fun g t0_1=>C3 M g (.func zy) [t19,t0_1] H2 fun g t21 H3=>B3 g ((Op.sliceArr 24 1 [none,(some 0),none]) [t5,t17]) fun g t23=>B3 g (Op.strOfBytes [t23] H3) fun g t24=>GO3 g Q .ret ((4,t24)::(6,t17)::(5,t5)::E) D H3):=by (repeat' apply And.intro)<;>(intro _ _ _ _;refine W_unf ?_;kernel_rfl)
theorem qfi:(cProg Tryz.prog).func jj=some qam/\qam.results=[.tmp 4]:=zm (by kernel_rfl)
theorem qfj (h:W M ⟨none,jj⟩ (xn 0) true (FIN3 M [.tmp 4] Q) [(0,a0),(1,a1)] [] H):qap M jj [a0,a1] H Q:=callf (by decide) qfi (ks:=qcb) (by kernel_rfl) h
def qa7:AFunc:=funcAt Tryz.prog jf
def qcy:Kp:=⟨[0],false,[0]⟩
def qcz (k:Nat):Kp × ACode:=(qcy,part qa7.body k)
theorem qc0 (M:Mac) (c:Ctx):(∀ Q E D H,W M c (qcz 0) true Q E D H =
 Lz E 0 fun g t0=>Nf g 0 t0 H fun g t5=>B3 g ((Op.eq .ptr false) [t5,.nilp] H) fun g t6=>IF3 g t6 (fun g=>Ly g E 0 fun g t0_1=>B3 g ((Op.castPtr (liesB Tryz.prog 74)) [t0_1] H) fun g t9=>B3 g (Op.noEscape [t9]) fun g t10=>B3 g ((Op.castPtr (liesB Tryz.prog 74)) [t10] H) fun g t11=>Ns g 0 t0_1 t11 H fun g u H1=>GO3 g Q .normal E D H1) (fun g=>Ly g E 0 fun g t0_1=>Nf g 0 t0_1 H fun g t17=>B3 g ((Op.eq .ptr true) [t17,t0_1] H) fun g t19=>IF3 g t19 (fun g=>False) (fun g=>GO3 g Q .normal E D H))):=by intro _ _ _ _;refine W_unf ?_;kernel_rfl
theorem qgr:(cProg Tryz.prog).func jf=some qa7/\qa7.results=[]:=zm (by kernel_rfl)
theorem qgs (h:W M ⟨none,jf⟩ (qcz 0) true (FIN3 M [] Q) [(0,a0)] [] H):qap M jf [a0] H Q:=callf (by decide) qgr (ks:=qcy) (by kernel_rfl) h
def qci:AFunc:=funcAt Tryz.prog wh
def qeo:Kp:=⟨[0,1,4],false,[0]⟩
def qep (k:Nat):Kp × ACode:=(qeo,part qci.body k)
theorem qio (M:Mac) (c:Ctx):(∀ Q E D H,W M c (qep 0) true Q E D H =
 Lz E 0 fun g t0=>Nf g 1 t0 H fun g t8=>B3 g (Op.cap [t8]) fun g t9=>Bn g .mul (.int .i64 2) t9 fun g t10=>Ly g E 1 fun g t1=>Bn g .add t10 t1 fun g t12=>Nf g 1 t0 H fun g t17=>B3 g (Op.lenSl [t17]) fun g t18=>B32 g ((Op.makeNoZero qak) [t12]) fun g o1 k1=>B3 g ((Op.sliceSl 1 [none,(some 0),none]) [(k1 H.next),t18]) fun g t19=>Ly g E 0 fun g t0_1=>Nf g 1 t0_1 (H.alloc o1) fun g t24=>B32 g ((Op.copy 1) [t19,t24] (H.alloc o1)) fun g t25 H2=>Ly g E 0 fun g t0_2=>Ns g 1 t0_2 t19 H2 fun g u H3=>GO3 g Q .normal ((4,t19)::E) D H3):=by intro _ _ _ _;refine W_unf ?_;kernel_rfl
theorem qim:(cProg Tryz.prog).func wh=some qci/\qci.results=[]:=zm (by kernel_rfl)
theorem qin (h:W M ⟨none,wh⟩ (qep 0) true (FIN3 M [] Q) [(0,a0),(1,a1)] [] H):qap M wh [a0,a1] H Q:=callf (by decide) qim (ks:=qeo) (by kernel_rfl) h
def qbv:AFunc:=funcAt Tryz.prog ye
def qdy:Kp:=⟨[0,2],false,[0,2,10]⟩
def j7 (k:Nat):Kp × ACode:=(qdy,part qbv.body k)
theorem qdz (M:Mac) (c:Ctx):(∀ Q E D H,W M c (j7 0) true Q E D H =
 W M c (j7 2) true Q ((2,(.str []))::E) D H) /\
 (∀ Q E D H,W M c (j7 2) true Q E D H =
  Lz E 0 fun g t0=>Cb g .lss t0 (.int .i64 10) (fun g=>Ly g E 0 fun g t0_1=>Bn g .add t0_1 (.int .i64 1) fun g t7=>B3 g ((Op.sliceStr [(some 0),(some 1)]) [(.str qny),t0_1,t7]) fun g t8=>GO3 g (SEQ3 (W M c (j7 10)) Q) .ret ((2,t8)::E) D H) (fun g=>Gt g M c (j7 10) Q E D H)) /\
 (∀ Q E D H,W M c (j7 10) true Q E D H =
  Lz E 0 fun g t0=>Bn g .mul t0 (.int .i64 2) fun g t10=>Bn g .mul t0 (.int .i64 2) fun g t12=>Bn g .add t12 (.int .i64 2) fun g t13=>B3 g ((Op.sliceStr [(some 0),(some 1)]) [(.str yx),t10,t13]) fun g t14=>GO3 g Q .ret ((2,t14)::E) D H):=by (repeat' apply And.intro)<;>(intro _ _ _ _;refine W_unf ?_;kernel_rfl)
theorem qho:(cProg Tryz.prog).func ye=some qbv/\qbv.results=[.tmp 2]:=zm (by kernel_rfl)
theorem qhp (h:W M ⟨none,ye⟩ (j7 0) true (FIN3 M [.tmp 2] Q) [(0,a0)] [] H):qap M ye [a0] H Q:=callf (by decide) qho (ks:=qdy) (by kernel_rfl) h
def qat:AFunc:=funcAt Tryz.prog jw
def qcm:Kp:=⟨[0,2,3],false,[0]⟩
def qcn (k:Nat):Kp × ACode:=(qcm,part qat.body k)
theorem ya (M:Mac) (c:Ctx):(∀ Q E D H,W M c (qcn 0) true Q E D H =
 Lz E 0 fun g t0=>C3 M g (.func wq) [t0] H fun g t5 H1=>C3 M g (.func jv) [t5] H1 fun g t6 H2=>Ly g E 0 fun g t0_1=>B3 g ((Op.indexArr 20 1) [(.ptr zo 0),t6]) fun g t10=>B3 g (Op.load1 [t10] H2) fun g t11=>Bn g .geq t0_1 t11 fun g t12=>C3 M g (.func ju) [t12] H2 fun g t13 H3=>Bn g .add t6 t13 fun g t14=>GO3 g Q .ret ((2,t14)::(3,t6)::(2,(.int .i64 0))::E) D H3):=by intro _ _ _ _;refine W_unf ?_;kernel_rfl
theorem qf5:(cProg Tryz.prog).func jw=some qat/\qat.results=[.tmp 2]:=zm (by kernel_rfl)
theorem qf6 (h:W M ⟨none,jw⟩ (qcn 0) true (FIN3 M [.tmp 2] Q) [(0,a0)] [] H):qap M jw [a0] H Q:=callf (by decide) qf5 (ks:=qcm) (by kernel_rfl) h
def wx:AFunc:=funcAt Tryz.prog zy
def qbu:Kp:=⟨[0,1,4,5,6,7,8,9,10,11,12,13,14,15,16],false,[0,2,5,11,16,20,24,31,33,39,43,49,61]⟩
def qf (k:Nat):Kp × ACode:=(qbu,part wx.body k)
theorem ze (M:Mac) (c:Ctx):(∀ Q E D H,W M c (qf 0) true Q E D H =
 Lz E 0 fun g t0=>B3 g (Op.lenSl [t0]) fun g t18=>W M c (qf 2) g Q ((4,t18)::E) D H) /\
 (∀ Q E D H,W M c (qf 2) true Q E D H =
  LOOP3 (W M c (qf 5)) (BLK3 0 (SEQ3 (W M c (qf 31)) Q)) E D H) /\
 (∀ Q E D H,W M c (qf 31) true Q E D H =
  Lz E 1 fun g t1=>B3 g ((Op.wrap .u32) [t1]) fun g t97=>W M c (qf 33) g Q ((12,t97)::E) D H) /\
 (∀ Q E D H,W M c (qf 5) true Q E D H =
  Lz E 4 fun g t4=>Cb g .geq t4 (.int .i64 8) (fun g=>Gt g M c (qf 11) Q E D H) (fun g=>GO3 g (SEQ3 (W M c (qf 11)) Q) (.exit 0) E D H)) /\
 (∀ Q E D H,W M c (qf 33) true Q E D H =
  Lz E 4 fun g t4=>Cb g .geq t4 (.int .i64 4) (fun g=>Ly g E 12 fun g t12=>Bn g .rem t12 (.int .u32 10000) fun g t101=>W M c (qf 39) g (SEQ3 (W M c (qf 49)) Q) ((13,t101)::E) D H) (fun g=>Gt g M c (qf 49) Q E D H)) /\
 (∀ Q E D H,W M c (qf 11) true Q E D H =
  Lz E 1 fun g t1=>Bn g .rem t1 (.int .u64 100000000) fun g t22=>B3 g ((Op.wrap .u32) [t22]) fun g t23=>Ly g E 1 fun g t1_1=>Bn g .quo t1_1 (.int .u64 100000000) fun g t25=>W M c (qf 16) g (BLK3 1 Q) ((1,t25)::(5,t23)::E) D H) /\
 (∀ Q E D H,W M c (qf 49) true Q E D H =
  Lz E 4 fun g t4=>Cb g .geq t4 (.int .i64 2) (fun g=>Ly g E 12 fun g t12=>Bn g .rem t12 (.int .u32 100) fun g t141=>Bn g .mul t141 (.int .u32 2) fun g t142=>Ly g E 12 fun g t12_1=>Bn g .quo t12_1 (.int .u32 100) fun g t144=>Ly g E 0 fun g t0=>Ly g E 4 fun g t4_1=>Bn g .sub t4_1 (.int .i64 1) fun g t147=>Bn g .sub t4_1 (.int .i64 2) fun g t150=>Bn g .add t142 (.int .u32 1) fun g t152=>B3 g (Op.indexStr [(.str yx),t152]) fun g t153=>B3 g (Op.indexStr [(.str yx),t142]) fun g t155=>Xs g t0 t147 t153 H fun g u H1=>Xs g t0 t150 t155 H1 fun g u_1 H2=>Ly g E 4 fun g t4_2=>Bn g .sub t4_2 (.int .i64 2) fun g t159=>Gt g M c (qf 61) Q ((4,t159)::(12,t144)::(16,t142)::E) D H2) (fun g=>Gt g M c (qf 61) Q E D H)) /\
 (∀ Q E D H,W M c (qf 39) true Q E D H =
  Lz E 12 fun g t12=>Bn g .quo t12 (.int .u32 10000) fun g t103=>Ly g E 13 fun g t13=>Bn g .quo t13 (.int .u32 100) fun g t105=>Bn g .mul t105 (.int .u32 2) fun g t106=>Bn g .rem t13 (.int .u32 100) fun g t108=>Bn g .mul t108 (.int .u32 2) fun g t109=>W M c (qf 43) g Q ((15,t109)::(14,t106)::(12,t103)::E) D H) /\
 (∀ Q E D H,W M c (qf 16) true Q E D H =
  Lz E 5 fun g t5=>Bn g .quo t5 (.int .u32 10000) fun g t27=>Bn g .rem t5 (.int .u32 10000) fun g t29=>Bn g .quo t29 (.int .u32 100) fun g t31=>Bn g .mul t31 (.int .u32 2) fun g t32=>Bn g .rem t29 (.int .u32 100) fun g t34=>Bn g .mul t34 (.int .u32 2) fun g t35=>W M c (qf 20) g Q ((9,t35)::(8,t32)::(7,t29)::(6,t27)::E) D H) /\
 (∀ Q E D H,W M c (qf 61) true Q E D H =
  Lz E 4 fun g t4=>Cb g .gtr t4 (.int .i64 0) (fun g=>Ly g E 0 fun g t0=>Ly g E 12 fun g t12=>Bn g .add (.int .u32 48) t12 fun g t164=>B3 g ((Op.wrap .u8) [t164]) fun g t165=>Xs g t0 (.int .i64 0) t165 H fun g u H1=>GO3 g Q .normal E D H1) (fun g=>GO3 g Q .normal E D H)) /\
 (∀ Q E D H,W M c (qf 43) true Q E D H =
  Lz E 0 fun g t0=>Ly g E 4 fun g t4=>Bn g .sub t4 (.int .i64 1) fun g t112=>Bn g .sub t4 (.int .i64 2) fun g t115=>Ly g E 15 fun g t15=>Bn g .add t15 (.int .u32 1) fun g t117=>B3 g (Op.indexStr [(.str yx),t117]) fun g t118=>B3 g (Op.indexStr [(.str yx),t15]) fun g t120=>Xs g t0 t112 t118 H fun g u H1=>Xs g t0 t115 t120 H1 fun g u_1 H2=>Ly g E 0 fun g t0_1=>Ly g E 4 fun g t4_1=>Bn g .sub t4_1 (.int .i64 3) fun g t125=>Bn g .sub t4_1 (.int .i64 4) fun g t128=>Ly g E 14 fun g t14=>Bn g .add t14 (.int .u32 1) fun g t130=>B3 g (Op.indexStr [(.str yx),t130]) fun g t131=>B3 g (Op.indexStr [(.str yx),t14]) fun g t133=>Xs g t0_1 t125 t131 H2 fun g u_2 H3=>Xs g t0_1 t128 t133 H3 fun g u_3 H4=>Ly g E 4 fun g t4_2=>Bn g .sub t4_2 (.int .i64 4) fun g t137=>GO3 g Q .normal ((4,t137)::E) D H4) /\
 (∀ Q E D H,W M c (qf 20) true Q E D H =
  Lz E 6 fun g t6=>Bn g .quo t6 (.int .u32 100) fun g t37=>Bn g .mul t37 (.int .u32 2) fun g t38=>Bn g .rem t6 (.int .u32 100) fun g t40=>Bn g .mul t40 (.int .u32 2) fun g t41=>Ly g E 0 fun g t0=>Ly g E 4 fun g t4=>Bn g .sub t4 (.int .i64 1) fun g t44=>Bn g .sub t4 (.int .i64 2) fun g t47=>Ly g E 9 fun g t9=>Bn g .add t9 (.int .u32 1) fun g t49=>B3 g (Op.indexStr [(.str yx),t49]) fun g t50=>B3 g (Op.indexStr [(.str yx),t9]) fun g t52=>Xs g t0 t44 t50 H fun g u H1=>Xs g t0 t47 t52 H1 fun g u_1 H2=>W M c (qf 24) g Q ((11,t41)::(10,t38)::E) D H2) /\
 (∀ Q E D H,W M c (qf 24) true Q E D H =
  Lz E 0 fun g t0=>Ly g E 4 fun g t4=>Bn g .sub t4 (.int .i64 3) fun g t57=>Bn g .sub t4 (.int .i64 4) fun g t60=>Ly g E 8 fun g t8=>Bn g .add t8 (.int .u32 1) fun g t62=>B3 g (Op.indexStr [(.str yx),t62]) fun g t63=>B3 g (Op.indexStr [(.str yx),t8]) fun g t65=>Xs g t0 t57 t63 H fun g u H1=>Xs g t0 t60 t65 H1 fun g u_1 H2=>Ly g E 0 fun g t0_1=>Ly g E 4 fun g t4_1=>Bn g .sub t4_1 (.int .i64 5) fun g t70=>Bn g .sub t4_1 (.int .i64 6) fun g t73=>Ly g E 11 fun g t11=>Bn g .add t11 (.int .u32 1) fun g t75=>B3 g (Op.indexStr [(.str yx),t75]) fun g t76=>B3 g (Op.indexStr [(.str yx),t11]) fun g t78=>Xs g t0_1 t70 t76 H2 fun g u_2 H3=>Xs g t0_1 t73 t78 H3 fun g u_3 H4=>Ly g E 0 fun g t0_2=>Ly g E 4 fun g t4_2=>Bn g .sub t4_2 (.int .i64 7) fun g t83=>Bn g .sub t4_2 (.int .i64 8) fun g t86=>Ly g E 10 fun g t10=>Bn g .add t10 (.int .u32 1) fun g t88=>B3 g (Op.indexStr [(.str yx),t88]) fun g t89=>B3 g (Op.indexStr [(.str yx),t10]) fun g t91=>Xs g t0_2 t83 t89 H4 fun g u_4 H5=>Xs g t0_2 t86 t91 H5 fun g u_5 H6=>Ly g E 4 fun g t4_3=>Bn g .sub t4_3 (.int .i64 8) fun g t95=>GO3 g Q .normal ((4,t95)::E) D H6):=by (repeat' apply And.intro)<;>(intro _ _ _ _;refine W_unf ?_;kernel_rfl)
theorem qew:(cProg Tryz.prog).func zy=some wx/\wx.results=[]:=zm (by kernel_rfl)
theorem qex (h:W M ⟨none,zy⟩ (qf 0) true (FIN3 M [] Q) [(0,a0),(1,a1)] [] H):qap M zy [a0,a1] H Q:=callf (by decide) qew (ks:=qbu) (by kernel_rfl) h
def qas:AFunc:=funcAt Tryz.prog jv
def qck:Kp:=⟨[0,2],false,[0]⟩
def qcl (k:Nat):Kp × ACode:=(qck,part qas.body k)
theorem qf4 (M:Mac) (c:Ctx):(∀ Q E D H,W M c (qcl 0) true Q E D H =
 Lz E 0 fun g t0=>Bn g .mul t0 (.int .i64 78913) fun g t4=>Bn g .shr t4 (.int .u64 18) fun g t5=>GO3 g Q .ret ((2,t5)::(2,(.int .i64 0))::E) D H):=by intro _ _ _ _;refine W_unf ?_;kernel_rfl
theorem qf2:(cProg Tryz.prog).func jv=some qas/\qas.results=[.tmp 2]:=zm (by kernel_rfl)
theorem qf3 (h:W M ⟨none,jv⟩ (qcl 0) true (FIN3 M [.tmp 2] Q) [(0,a0)] [] H):qap M jv [a0] H Q:=callf (by decide) qf2 (ks:=qck) (by kernel_rfl) h
def qez:AFunc:=funcAt Tryz.prog wq
def qhu:Kp:=⟨[0,2],false,[0,2,10,18,26]⟩
def zl (k:Nat):Kp × ACode:=(qhu,part qez.body k)
theorem qc8 (M:Mac) (c:Ctx):(∀ Q E D H,W M c (zl 0) true Q E D H =
 W M c (zl 2) true Q ((2,(.int .i64 0))::E) D H) /\
 (∀ Q E D H,W M c (zl 2) true Q E D H =
  Lz E 0 fun g t0=>Cb g .geq t0 (.int .u64 4294967296) (fun g=>Ly g E 0 fun g t0_1=>Bn g .shr t0_1 (.int .u64 32) fun g t6=>Gt g M c (zl 10) Q ((2,(.int .i64 32))::(0,t6)::E) D H) (fun g=>Gt g M c (zl 10) Q E D H)) /\
 (∀ Q E D H,W M c (zl 10) true Q E D H =
  Lz E 0 fun g t0=>Cb g .geq t0 (.int .u64 65536) (fun g=>Ly g E 0 fun g t0_1=>Bn g .shr t0_1 (.int .u64 16) fun g t10=>Ly g E 2 fun g t2=>Bn g .add t2 (.int .i64 16) fun g t12=>Gt g M c (zl 18) Q ((2,t12)::(0,t10)::E) D H) (fun g=>Gt g M c (zl 18) Q E D H)) /\
 (∀ Q E D H,W M c (zl 18) true Q E D H =
  Lz E 0 fun g t0=>Cb g .geq t0 (.int .u64 256) (fun g=>Ly g E 0 fun g t0_1=>Bn g .shr t0_1 (.int .u64 8) fun g t16=>Ly g E 2 fun g t2=>Bn g .add t2 (.int .i64 8) fun g t18=>Gt g M c (zl 26) Q ((2,t18)::(0,t16)::E) D H) (fun g=>Gt g M c (zl 26) Q E D H)) /\
 (∀ Q E D H,W M c (zl 26) true Q E D H =
  Lz E 2 fun g t2=>Ly g E 0 fun g t0=>B3 g ((Op.wrap .u8) [t0]) fun g t21=>B3 g (Op.indexStr [(.str qkm),t21]) fun g t22=>B3 g ((Op.wrap .i64) [t22]) fun g t23=>Bn g .add t2 t23 fun g t24=>GO3 g Q .ret ((2,t24)::E) D H):=by (repeat' apply And.intro)<;>(intro _ _ _ _;refine W_unf ?_;kernel_rfl)
theorem ql2:(cProg Tryz.prog).func wq=some qez/\qez.results=[.tmp 2]:=zm (by kernel_rfl)
theorem ql3 (h:W M ⟨none,wq⟩ (zl 0) true (FIN3 M [.tmp 2] Q) [(0,a0)] [] H):qap M wq [a0] H Q:=callf (by decide) ql2 (ks:=qhu) (by kernel_rfl) h
def qar:AFunc:=funcAt Tryz.prog ju
def qcj:Kp:=⟨[0,2],false,[0,2,10]⟩
def jc (k:Nat):Kp × ACode:=(qcj,part qar.body k)
theorem qf1 (M:Mac) (c:Ctx):(∀ Q E D H,W M c (jc 0) true Q E D H =
 W M c (jc 2) true Q ((2,(.int .i64 0))::E) D H) /\
 (∀ Q E D H,W M c (jc 2) true Q E D H =
  Lz E 0 fun g t0=>IF3 g t0 (fun g=>GO3 g (SEQ3 (W M c (jc 10)) Q) .ret ((2,(.int .i64 1))::E) D H) (fun g=>Gt g M c (jc 10) Q E D H)) /\
 (∀ Q E D H,W M c (jc 10) true Q E D H =
  GO3 true Q .ret ((2,(.int .i64 0))::E) D H):=by (repeat' apply And.intro)<;>(intro _ _ _ _;refine W_unf ?_;kernel_rfl)
theorem qfz:(cProg Tryz.prog).func ju=some qar/\qar.results=[.tmp 2]:=zm (by kernel_rfl)
theorem qf0 (h:W M ⟨none,ju⟩ (jc 0) true (FIN3 M [.tmp 2] Q) [(0,a0)] [] H):qap M ju [a0] H Q:=callf (by decide) qfz (ks:=qcj) (by kernel_rfl) h
end
end Go.Am
namespace Go.Am
abbrev jx:Nat:=92
abbrev qau:Nat:=11
abbrev qdv:Nat:=41
abbrev qab:Nat:=25
abbrev qdw:Nat:=40
abbrev qes:Nat:=96
abbrev qdx:Nat:=95
abbrev km:Nat:=68
abbrev qac:Nat:=67
abbrev zi:Nat:=66
abbrev vt:Nat:=26
abbrev zj:Nat:=44
abbrev qt:Nat:=42
abbrev qa1:Nat:=62
abbrev qlp:Nat:=90
abbrev qay:Nat:=91
abbrev vi:Nat:=60
abbrev js:Nat:=63
abbrev vy:Nat:=43
abbrev xr:Nat:=34
abbrev qsl:Nat:=4
abbrev T_int:Nat:=3
abbrev jp:Nat:=76
abbrev qbt:Nat:=74
def qxe:List UInt8:=[115,116,114,105,110,103,115,58,32,110,101,103,97,116,105,118,101,32,82,101,112,101,97,116,32,99,111,117,110,116]
def qxf:List UInt8:=[115,116,114,105,110,103,115,58,32,82,101,112,101,97,116,32,111,117,116,112,117,116,32,108,101,110,103,116,104,32,111,118,101,114,102,108,111,119]
def qer:List UInt8:=[32,32,32,32,32,32,32,32,32,32,32,32,32,32,32,32,32,32,32,32,32,32,32,32,32,32,32,32,32,32,32,32,32,32,32,32,32,32,32,32,32,32,32,32,32,32,32,32,32,32,32,32,32,32,32,32,32,32,32,32,32,32,32,32,32,32,32,32,32,32,32,32,32,32,32,32,32,32,32,32,32,32,32,32,32,32,32,32,32,32,32,32,32,32,32,32,32,32,32,32,32,32,32,32,32,32,32,32,32,32,32,32,32,32,32,32,32,32,32,32,32,32,32,32,32,32,32,32]
def qp0:List UInt8:=[45,45,45,45,45,45,45,45,45,45,45,45,45,45,45,45,45,45,45,45,45,45,45,45,45,45,45,45,45,45,45,45,45,45,45,45,45,45,45,45,45,45,45,45,45,45,45,45,45,45,45,45,45,45,45,45,45,45,45,45,45,45,45,45,45,45,45,45,45,45,45,45,45,45,45,45,45,45,45,45,45,45,45,45,45,45,45,45,45,45,45,45,45,45,45,45,45,45,45,45,45,45,45,45,45,45,45,45,45,45,45,45,45,45,45,45,45,45,45,45,45,45,45,45,45,45,45,45]
def qp1:List UInt8:=[48,48,48,48,48,48,48,48,48,48,48,48,48,48,48,48,48,48,48,48,48,48,48,48,48,48,48,48,48,48,48,48,48,48,48,48,48,48,48,48,48,48,48,48,48,48,48,48,48,48,48,48,48,48,48,48,48,48,48,48,48,48,48,48]
def qp2:List UInt8:=[61,61,61,61,61,61,61,61,61,61,61,61,61,61,61,61,61,61,61,61,61,61,61,61,61,61,61,61,61,61,61,61,61,61,61,61,61,61,61,61,61,61,61,61,61,61,61,61,61,61,61,61,61,61,61,61,61,61,61,61,61,61,61,61,61,61,61,61,61,61,61,61,61,61,61,61,61,61,61,61,61,61,61,61,61,61,61,61,61,61,61,61,61,61,61,61,61,61,61,61,61,61,61,61,61,61,61,61,61,61,61,61,61,61,61,61,61,61,61,61,61,61,61,61,61,61,61,61]
def qp3:List UInt8:=[9,9,9,9,9,9,9,9,9,9,9,9,9,9,9,9,9,9,9,9,9,9,9,9,9,9,9,9,9,9,9,9,9,9,9,9,9,9,9,9,9,9,9,9,9,9,9,9,9,9,9,9,9,9,9,9,9,9,9,9,9,9,9,9]
def qxg:List UInt8:=[116,104,101,32,114,101,115,117,108,116,32,111,102,32,40,108,101,110,40,120,41,32,42,32,99,111,117,110,116,41,32,111,118,101,114,102,108,111,119,115]
noncomputable section
open Go.Proofs Go.Proofs.YtbimikjajohflaaGreatDoor
variable {M:Mac} [MK M] {H:AHeap} {Q:AEnd->AHeap->Prop} {a0 a1 a2:AV}
def qiw:AFunc:=funcAt Tryz.prog qau
def qmr:Kp:=⟨[0,2,3,4],false,[0,2,10,14,22]⟩
def v8 (k:Nat):Kp × ACode:=(qmr,part qiw.body k)
theorem qmt (M:Mac) (c:Ctx):(∀ Q E D H,W M c (v8 0) true Q E D H =
 W M c (v8 2) true Q ((3,(.int .i64 0))::(2,(.str []))::E) D H) /\
 (∀ Q E D H,W M c (v8 2) true Q E D H =
  Lz E 0 fun g t0=>C3 M g (.func qab) [t0] H fun g t6 H1=>B3 g ((Op.un .not) [t6]) fun g t7=>IF3 g t7 (fun g=>GO3 g (SEQ3 (W M c (v8 10)) Q) .ret ((3,(.int .i64 2))::(2,(.str []))::E) D H1) (fun g=>Gt g M c (v8 10) Q E D H1)) /\
 (∀ Q E D H,W M c (v8 10) true Q E D H =
  Lz E 0 fun g t0=>B3 g ((Op.build [.nilp,.nils,.nils,(.int .i64 0),(.int .i64 0)] [(2,1)]) [t0]) fun g t9=>A3 g jp (AV.cells t9) H fun g t10 H1=>Ly g E 0 fun g t0_1=>B3 g (Op.lenSl [t0_1]) fun g t13=>Bn g .sub t13 (.int .i64 1) fun g t14=>C3 M g (.func vt) [t10,t14,(.int .i64 0)] H1 fun g t15 H2=>W M c (v8 14) g Q ((4,t10)::E) D H2) /\
 (∀ Q E D H,W M c (v8 14) true Q E D H =
  Lz E 4 fun g t4=>Nf g 4 t4 H fun g t19=>Cb g .gtr t19 (.int .i64 50) (fun g=>GO3 g (SEQ3 (W M c (v8 22)) Q) .ret ((3,(.int .i64 2))::(2,(.str []))::E) D H) (fun g=>Gt g M c (v8 22) Q E D H)) /\
 (∀ Q E D H,W M c (v8 22) true Q E D H =
  Lz E 4 fun g t4=>B3 g (Op.nilCheck [t4]) fun g t22=>B3 g ((Op.fieldAddr 0) [t22]) fun g t23=>C3 M g (.func jh) [t23] H fun g t24 H1=>GO3 g Q .ret ((3,(.int .i64 0))::(2,t24)::E) D H1):=by (repeat' apply And.intro)<;>(intro _ _ _ _;refine W_unf ?_;kernel_rfl)
theorem qtd:(cProg Tryz.prog).func qau=some qiw/\qiw.results=[.tmp 2,.tmp 3]:=zm (by kernel_rfl)
theorem qms (h:W M ⟨none,qau⟩ (v8 0) true (FIN3 M [.tmp 2,.tmp 3] Q) [(0,a0)] [] H):qap M qau [a0] H Q:=callf (by decide) qtd (ks:=qmr) (by kernel_rfl) h
def qly:AFunc:=funcAt Tryz.prog qab
def qqf:Kp:=⟨[0,2,3,4,5,6,7,8,9,10,11,33,34,35,70,71,72],false,[0,2,10,14,19,25,31,39,41,46,52,56,64,65,66,70,78,80,81,82]⟩
def xd (k:Nat):Kp × ACode:=(qqf,part qly.body k)
theorem qqg (M:Mac) (c:Ctx):(∀ Q E D H,W M c (xd 0) true Q E D H =
 W M c (xd 2) true Q ((2,(.bool false))::E) D H) /\
 (∀ Q E D H,W M c (xd 2) true Q E D H =
  Lz E 0 fun g t0=>B3 g (Op.lenSl [t0]) fun g t13=>Bn g .lss t13 (.int .i64 1) fun g t14=>JN (fun (k:Bool->AV->AV->AV->AHeap->Prop)=>B3 g (wantV false (some t14)) fun g w=>IG3 g w (fun g=>B3 g (Op.lenSl [t0]) fun g t17=>Bn g .gtr t17 (.int .i64 2000) fun g t18=>k g t18 t17 t0 H) (fun g=>k g uu uu uu H)) (fun g t18_1 t17_1 t16_1 H1=>B3 g (Op.pick [t14,(.bool true),t18_1]) fun g t19=>JN (fun (k:Bool->AV->AV->AV->AV->AV->AV->AV->AV->AHeap->Prop)=>B3 g (wantV false (some t19)) fun g w=>IG3 g w (fun g=>B3 g (Op.lenSl [t0]) fun g t23=>Bn g .sub t23 (.int .i64 1) fun g t24=>B3 g ((Op.indexSl 3) [t0,t24]) fun g t25=>B3 g ((Op.fieldAddr 0) [t25]) fun g t26=>B3 g (Op.load1 [t26] H1) fun g t27=>Bn g .neq t27 (.int .i64 20) fun g t28=>k g t28 t27 t26 t25 t24 t23 t0 t0 H1) (fun g=>k g uu uu uu uu uu uu uu uu H1)) (fun g t28_1 t27_1 t26_1 t25_1 t24_1 t23_1 t22_1 t21_1 H2=>B3 g (Op.pick [t19,(.bool true),t28_1]) fun g t29=>IF3 g t29 (fun g=>GO3 g (SEQ3 (W M c (xd 10)) Q) .ret ((2,(.bool false))::E) D H2) (fun g=>Gt g M c (xd 10) Q E D H2)))) /\
 (∀ Q E D H,W M c (xd 10) true Q E D H =
  Lz E 0 fun g t0=>B3 g (Op.lenSl [t0]) fun g t31=>B32 g ((Op.mkSlice qsl 1 [(.bool false)]) [t31,t31]) fun g o1 k1=>W M c (xd 14) g Q ((4,(k1 H.next))::(3,.nils)::E) D (H.alloc o1)) /\
 (∀ Q E D H,W M c (xd 14) true Q E D H =
  Lz E 0 fun g t0=>B3 g (Op.lenSl [t0]) fun g t34=>LOOP3 (W M c (xd 19)) (BLK3 0 (SEQ3 (W M c (xd 82)) Q)) ((35,(.int .i64 0))::(34,t34)::(33,t0)::E) D H) /\
 (∀ Q E D H,W M c (xd 82) true Q E D H =
  Lz E 3 fun g t3=>B3 g (Op.lenSl [t3]) fun g t132=>Bn g .eql t132 (.int .i64 1) fun g t133=>GO3 g Q .ret ((2,t133)::E) D H) /\
 (∀ Q E D H,W M c (xd 19) true Q E D H =
  Lz E 35 fun g t35=>Ly g E 34 fun g t34=>Cb g .lss t35 t34 (fun g=>Gt g M c (xd 25) Q E D H) (fun g=>GO3 g (SEQ3 (W M c (xd 25)) Q) (.exit 0) E D H)) /\
 (∀ Q E D H,W M c (xd 25) true Q E D H =
  Lz E 35 fun g t35=>Ly g E 33 fun g t33=>B3 g ((Op.indexSl 3) [t33,t35]) fun g t38=>B3 g ((Op.loadN 3) [t38] H) fun g t39=>A3 g xr [(.int .i64 0),(.int .u64 0),.nils] H fun g t6 H1=>B32 g ((Op.store 3) [t6,t39] H1) fun g u H2=>B3 g ((Op.loadN 3) [t6] H2) fun g t41=>C3 M g (.func qdw) [t41] H2 fun g t42 H3=>B3 g ((Op.extract 0) [t42]) fun g t43=>B3 g ((Op.extract 1) [t42]) fun g t44=>W M c (xd 31) g (BLK3 1 (SEQ3 (W M c (xd 81)) Q)) ((8,t44)::(7,t43)::(5,t35)::(6,t6)::E) D H3) /\
 (∀ Q E D H,W M c (xd 81) true Q E D H =
  Lz E 35 fun g t35=>Bn g .add t35 (.int .i64 1) fun g t130=>GO3 g Q .normal ((35,t130)::E) D H) /\
 (∀ Q E D H,W M c (xd 31) true Q E D H =
  Lz E 8 fun g t8=>B3 g ((Op.un .not) [t8]) fun g t46=>JN (fun (k:Bool->AV->AV->AV->AV->AV->AV->AHeap->Prop)=>B3 g (wantV false (some t46)) fun g w=>IG3 g w (fun g=>Ly g E 7 fun g t7=>B3 g (Op.lenSl [t7]) fun g t49=>Ly g E 6 fun g t6=>B3 g ((Op.fieldAddr 2) [t6]) fun g t50=>B3 g (Op.load1 [t50] H) fun g t51=>B3 g (Op.lenSl [t51]) fun g t52=>Bn g .neq t49 t52 fun g t53=>k g t53 t52 t51 t50 t49 t7 H) (fun g=>k g uu uu uu uu uu uu H)) (fun g t53_1 t52_1 t51_1 t50_1 t49_1 t48_1 H1=>B3 g (Op.pick [t46,(.bool true),t53_1]) fun g t54=>JN (fun (k:Bool->AV->AV->AV->AV->AV->AHeap->Prop)=>B3 g (wantV false (some t54)) fun g w=>IG3 g w (fun g=>Ly g E 7 fun g t7_1=>B3 g (Op.lenSl [t7_1]) fun g t57=>Ly g E 3 fun g t3=>B3 g (Op.lenSl [t3]) fun g t59=>Bn g .gtr t57 t59 fun g t60=>k g t60 t59 t3 t57 t7_1 H1) (fun g=>k g uu uu uu uu uu H1)) (fun g t60_1 t59_1 t58_1 t57_1 t56_1 H2=>B3 g (Op.pick [t54,(.bool true),t60_1]) fun g t61=>IF3 g t61 (fun g=>GO3 g (SEQ3 (W M c (xd 39)) Q) .ret ((2,(.bool false))::E) D H2) (fun g=>Gt g M c (xd 39) Q E D H2)))) /\
 (∀ Q E D H,W M c (xd 39) true Q E D H =
  Lz E 3 fun g t3=>B3 g (Op.lenSl [t3]) fun g t64=>Ly g E 7 fun g t7=>B3 g (Op.lenSl [t7]) fun g t66=>Bn g .sub t64 t66 fun g t67=>B3 g ((Op.sliceSl 1 [(some 0),none,none]) [t3,t67]) fun g t68=>W M c (xd 41) g Q ((9,t68)::E) D H) /\
 (∀ Q E D H,W M c (xd 41) true Q E D H =
  Lz E 6 fun g t6=>Fl g 2 t6 H fun g t70=>B3 g (Op.lenSl [t70]) fun g t71=>LOOP3 (W M c (xd 46)) (BLK3 2 (SEQ3 (W M c (xd 66)) Q)) ((72,(.int .i64 0))::(71,t71)::(70,t70)::E) D H) /\
 (∀ Q E D H,W M c (xd 66) true Q E D H =
  Lz E 6 fun g t6=>Fl g 0 t6 H fun g t111=>Cb g .eql t111 (.int .i64 18) (fun g=>W M c (xd 70) g (SEQ3 (W M c (xd 80)) Q) E D H) (fun g=>Gt g M c (xd 80) Q E D H)) /\
 (∀ Q E D H,W M c (xd 46) true Q E D H =
  Lz E 72 fun g t72=>Ly g E 71 fun g t71=>Cb g .lss t72 t71 (fun g=>Gt g M c (xd 52) Q E D H) (fun g=>GO3 g (SEQ3 (W M c (xd 52)) Q) (.exit 2) E D H)) /\
 (∀ Q E D H,W M c (xd 80) true Q E D H =
  Lz E 3 fun g t3=>B3 g (Op.lenSl [t3]) fun g t122=>Ly g E 7 fun g t7=>B3 g (Op.lenSl [t7]) fun g t124=>Bn g .sub t122 t124 fun g t125=>B3 g ((Op.sliceSl 1 [none,(some 0),none]) [t3,t125]) fun g t126=>Ly g E 5 fun g t5=>B32 g ((Op.buildSlice T_int 1 [(.int .i64 0)] [(0,1)]) [t5]) fun g o1 k1=>B32 g ((Op.append T_int 1 8) [t126,(k1 H.next)] (H.alloc o1)) fun g t129 H2=>GO3 g Q .normal ((3,t129)::E) D H2) /\
 (∀ Q E D H,W M c (xd 70) true Q E D H =
  Lz E 4 fun g t4=>Ly g E 5 fun g t5=>Xl g t4 t5 H fun g t116=>IF3 g t116 (fun g=>GO3 g (SEQ3 (W M c (xd 78)) Q) .ret ((2,(.bool false))::E) D H) (fun g=>Gt g M c (xd 78) Q E D H)) /\
 (∀ Q E D H,W M c (xd 52) true Q E D H =
  Lz E 72 fun g t72=>Ly g E 70 fun g t70=>Xl g t70 t72 H fun g t76=>W M c (xd 56) g (BLK3 3 (SEQ3 (W M c (xd 65)) Q)) ((11,t76)::(10,t72)::E) D H) /\
 (∀ Q E D H,W M c (xd 78) true Q E D H =
  Lz E 4 fun g t4=>Ly g E 5 fun g t5=>Xs g t4 t5 (.bool true) H fun g u H1=>GO3 g Q .normal E D H1) /\
 (∀ Q E D H,W M c (xd 65) true Q E D H =
  Lz E 72 fun g t72=>Bn g .add t72 (.int .i64 1) fun g t109=>GO3 g Q .normal ((72,t109)::E) D H) /\
 (∀ Q E D H,W M c (xd 56) true Q E D H =
  Lz E 9 fun g t9=>Ly g E 10 fun g t10=>Xl g t9 t10 H fun g t80=>Ly g E 11 fun g t11=>Bn g .neq t80 t11 fun g t82=>JN (fun (k:Bool->AV->AV->AV->AV->AV->AV->AV->AV->AV->AV->AV->AHeap->Prop)=>B3 g (wantV false (some t82)) fun g w=>IG3 g w (fun g=>Ly g E 0 fun g t0=>B3 g ((Op.indexSl 3) [t0,t11]) fun g t86=>B3 g ((Op.fieldAddr 0) [t86]) fun g t87=>B3 g (Op.load1 [t87] H) fun g t88=>Ly g E 7 fun g t7=>B3 g ((Op.indexSl 1) [t7,t10]) fun g t92=>B3 g (Op.load1 [t92] H) fun g t93=>C3 M g (.func qdv) [t88] H fun g t89 H1=>CK3 g (Op.load1 [t92] H1) (some t93) fun g=>Bn g .neq t89 t93 fun g t94=>k g t94 t89 t93 t92 t10 t7 t88 t87 t86 t11 t0 H1) (fun g=>k g uu uu uu uu uu uu uu uu uu uu uu H)) (fun g t94_1 t89_1 t93_1 t92_1 t91_1 t90_1 t88_1 t87_1 t86_1 t85_1 t84_1 H2=>B3 g (Op.pick [t82,(.bool true),t94_1]) fun g t95=>IF3 g t95 (fun g=>GO3 g (SEQ3 (W M c (xd 64)) Q) .ret ((2,(.bool false))::E) D H2) (fun g=>Gt g M c (xd 64) Q E D H2))) /\
 (∀ Q E D H,W M c (xd 64) true Q E D H =
  Lz E 4 fun g t4=>Ly g E 5 fun g t5=>Xl g t4 t5 H fun g t101=>JN (fun (k:Bool->AV->AV->AV->AV->AHeap->Prop)=>B3 g (wantV false (some t101)) fun g w=>IG3 g w (fun g=>Ly g E 11 fun g t11=>B3 g ((Op.indexSl 1) [t4,t11]) fun g t105=>B3 g (Op.load1 [t105] H) fun g t106=>k g t106 t105 t11 t4 H) (fun g=>k g uu uu uu uu H)) (fun g t106_1 t105_1 t104_1 t103_1 H1=>B3 g (Op.pick [t101,(.bool true),t106_1]) fun g t107=>Xs g t4 t5 t107 H1 fun g u H2=>GO3 g Q .normal E D H2)):=by (repeat' apply And.intro)<;>(intro _ _ _ _;refine W_unf ?_;kernel_rfl)
theorem qx9:(cProg Tryz.prog).func qab=some qly/\qly.results=[.tmp 2]:=zm (by kernel_rfl)
theorem qya (h:W M ⟨none,qab⟩ (xd 0) true (FIN3 M [.tmp 2] Q) [(0,a0)] [] H):qap M qab [a0] H Q:=callf (by decide) qx9 (ks:=qqf) (by kernel_rfl) h
def qec:AFunc:=funcAt Tryz.prog vt
def qg4:Kp:=⟨[0,1,2,7,15,16,17],false,[0,4,10,19]⟩
def yc (k:Nat):Kp × ACode:=(qg4,part qec.body k)
theorem qae (M:Mac) (c:Ctx):(∀ Q E D H,W M c (yc 0) true Q E D H =
 Lz E 0 fun g t0=>Nf g 2 t0 H fun g t11=>Ly g E 1 fun g t1=>B3 g ((Op.indexSl 3) [t11,t1]) fun g t13=>Fl g 2 t13 H fun g t15=>B3 g (Op.lenSl [t15]) fun g t16=>LOOP3 (W M c (yc 4)) (BLK3 0 Q) ((17,(.int .i64 0))::(16,t16)::(15,t15)::E) D H) /\
 (∀ Q E D H,W M c (yc 4) true Q E D H =
  Lz E 17 fun g t17=>Ly g E 16 fun g t16=>Cb g .lss t17 t16 (fun g=>Gt g M c (yc 10) Q E D H) (fun g=>GO3 g (SEQ3 (W M c (yc 10)) Q) (.exit 0) E D H)) /\
 (∀ Q E D H,W M c (yc 10) true Q E D H =
  Lz E 15 fun g t15=>Ly g E 17 fun g t17=>Xl g t15 t17 H fun g t20=>Ly g E 0 fun g t0=>Ly g E 2 fun g t2=>C3 M g (.func vy) [(.str [32,32]),t2] H fun g t23 H1=>C3 M g (.func qt) [t0,t23] H1 fun g t24 H2=>Ly g E 0 fun g t0_1=>Ly g E 2 fun g t2_1=>C3 M g (.func zj) [t0_1,t20,t2_1] H2 fun g t28 H3=>Ly g E 0 fun g t0_2=>C3 M g (.func qt) [t0_2,(.str [10])] H3 fun g t30 H4=>GO3 g (BLK3 1 (SEQ3 (W M c (yc 19)) Q)) .normal ((7,t20)::E) D H4) /\
 (∀ Q E D H,W M c (yc 19) true Q E D H =
  Lz E 17 fun g t17=>Bn g .add t17 (.int .i64 1) fun g t31=>GO3 g Q .normal ((17,t31)::E) D H):=by (repeat' apply And.intro)<;>(intro _ _ _ _;refine W_unf ?_;kernel_rfl)
theorem qk6:(cProg Tryz.prog).func vt=some qec/\qec.results=[]:=zm (by kernel_rfl)
theorem qk7 (h:W M ⟨none,vt⟩ (yc 0) true (FIN3 M [] Q) [(0,a0),(1,a1),(2,a2)] [] H):qap M vt [a0,a1,a2] H Q:=callf (by decide) qk6 (ks:=qg4) (by kernel_rfl) h
def qiy:AFunc:=funcAt Tryz.prog qdw
def qmv:Kp:=⟨[0,1,2,3,4,33,43,51,75],false,[0,4,12,24,28,34,38,44,54,60,70,77]⟩
def xv (k:Nat):Kp × ACode:=(qmv,part qiy.body k)
theorem jq (M:Mac) (c:Ctx):(∀ Q E D H,W M c (xv 0) true Q E D H =
 Lz E 0 fun g t0=>A3 g xr (AV.cells t0) H fun g t1 H1=>Fl g 0 t1 H1 fun g t6=>Bn g .eql t6 (.int .i64 2) fun g t7=>JN (fun (k:Bool->AV->AV->AV->AHeap->Prop)=>B3 g (wantV false (some t7)) fun g w=>IG3 g w (fun g=>B3 g ((Op.fieldAddr 0) [t1]) fun g t9=>B3 g (Op.load1 [t9] H1) fun g t10=>Bn g .eql t10 (.int .i64 14) fun g t11=>k g t11 t10 t9 H1) (fun g=>k g uu uu uu H1)) (fun g t11_1 t10_1 t9_1 H2=>B3 g (Op.pick [t7,(.bool true),t11_1]) fun g t12=>W M c (xv 4) g Q ((4,t12)::(3,(.bool false))::(2,.nils)::(1,t1)::E) D H2)) /\
 (∀ Q E D H,W M c (xv 4) true Q E D H =
  Lz E 4 fun g t4=>JN (fun (k:Bool->AV->AV->AV->AHeap->Prop)=>B3 g (wantV true (some t4)) fun g w=>IG3 g w (fun g=>Ly g E 1 fun g t1=>B3 g ((Op.fieldAddr 1) [t1]) fun g t15=>B3 g (Op.load1 [t15] H) fun g t16=>Bn g .gtr t16 (.int .u64 7) fun g t17=>k g t17 t16 t15 H) (fun g=>k g uu uu uu H)) (fun g t17_1 t16_1 t15_1 H1=>B3 g (Op.pick [t4,t17_1,(.bool false)]) fun g t18=>JN (fun (k:Bool->AV->AV->AV->AHeap->Prop)=>B3 g (wantV false (some t18)) fun g w=>IG3 g w (fun g=>B3 g ((Op.un .not) [t4]) fun g t21=>k g t21 t21 t4 H1) (fun g=>k g uu uu uu H1)) (fun g t22_1 t21_1 t20_1 H2=>JN (fun (k:Bool->AV->AV->AV->AHeap->Prop)=>B3 g (wantV true (some t22_1)) fun g w=>IG3 g w (fun g=>Ly g E 1 fun g t1_1=>B3 g ((Op.fieldAddr 0) [t1_1]) fun g t23=>B3 g (Op.load1 [t23] H2) fun g t24=>Bn g .neq t24 (.int .i64 1) fun g t25=>k g t25 t24 t23 H2) (fun g=>k g uu uu uu H2)) (fun g t25_1 t24_1 t23_1 H3=>JN (fun (k:Bool->AV->AV->AHeap->Prop)=>B3 g (wantV false (some t18)) fun g w=>IG3 g w (fun g=>B3 g (Op.pick [t22_1,t25_1,(.bool false)]) fun g t26=>k g t26 t26 H3) (fun g=>k g uu uu H3)) (fun g t27_1 t26_1 H4=>JN (fun (k:Bool->AV->AV->AV->AHeap->Prop)=>B3 g (wantV true (some t27_1)) fun g w=>IG3 g w (fun g=>Ly g E 1 fun g t1_2=>B3 g ((Op.fieldAddr 1) [t1_2]) fun g t28=>B3 g (Op.load1 [t28] H4) fun g t29=>Bn g .neq t29 (.int .u64 0) fun g t30=>k g t30 t29 t28 H4) (fun g=>k g uu uu uu H4)) (fun g t30_1 t29_1 t28_1 H5=>JN (fun (k:Bool->AV->AHeap->Prop)=>B3 g (wantV false (some t18)) fun g w=>IG3 g w (fun g=>B3 g (Op.pick [t27_1,t30_1,(.bool false)]) fun g t31=>k g t31 H5) (fun g=>k g uu H5)) (fun g t31_1 H6=>B3 g (Op.pick [t18,(.bool true),t31_1]) fun g t32=>IF3 g t32 (fun g=>GO3 g (SEQ3 (W M c (xv 12)) Q) .ret ((3,(.bool false))::(2,.nils)::E) D H6) (fun g=>Gt g M c (xv 12) Q E D H6)))))))) /\
 (∀ Q E D H,W M c (xv 12) true Q E D H =
  Lz E 1 fun g t1=>Fl g 0 t1 H fun g t35=>Bn g .eql t35 (.int .i64 1) fun g t36=>IF3 g t36 (fun g=>Gt g M c (xv 24) (BLK3 0 (SEQ3 (W M c (xv 77)) Q)) ((33,t36)::E) D H) (fun g=>Ly g E 1 fun g t1_1=>Fl g 0 t1_1 H fun g t38=>Bn g .eql t38 (.int .i64 2) fun g t39=>IF3 g t39 (fun g=>Gt g M c (xv 24) (BLK3 0 (SEQ3 (W M c (xv 77)) Q)) ((33,t39)::(33,t36)::E) D H) (fun g=>Ly g E 1 fun g t1_2=>Fl g 0 t1_2 H fun g t41=>Bn g .eql t41 (.int .i64 19) fun g t42=>Gt g M c (xv 24) (BLK3 0 (SEQ3 (W M c (xv 77)) Q)) ((33,t42)::(33,t39)::(33,t36)::E) D H))) /\
 (∀ Q E D H,W M c (xv 77) true Q E D H =
  GO3 true Q .ret ((3,(.bool false))::(2,.nils)::E) D H) /\
 (∀ Q E D H,W M c (xv 24) true Q E D H =
  Lz E 33 fun g t33=>IF3 g t33 (fun g=>GO3 g Q .ret ((3,(.bool true))::(2,.nils)::E) D H) (fun g=>W M c (xv 28) g Q E D H)) /\
 (∀ Q E D H,W M c (xv 28) true Q E D H =
  Lz E 1 fun g t1=>Fl g 0 t1 H fun g t45=>Bn g .eql t45 (.int .i64 3) fun g t46=>IF3 g t46 (fun g=>Gt g M c (xv 34) Q ((43,t46)::E) D H) (fun g=>Ly g E 1 fun g t1_1=>Fl g 0 t1_1 H fun g t48=>Bn g .eql t48 (.int .i64 14) fun g t49=>Gt g M c (xv 34) Q ((43,t49)::(43,t46)::E) D H)) /\
 (∀ Q E D H,W M c (xv 34) true Q E D H =
  Lz E 43 fun g t43=>IF3 g t43 (fun g=>B32 g ((Op.buildSlice T_int 1 [(.int .i64 0)] [(0,1)]) [(.int .i64 1)]) fun g o1 k1=>GO3 g Q .ret ((3,(.bool true))::(2,(k1 H.next))::E) D (H.alloc o1)) (fun g=>W M c (xv 38) g Q E D H)) /\
 (∀ Q E D H,W M c (xv 38) true Q E D H =
  Lz E 1 fun g t1=>Fl g 0 t1 H fun g t53=>Bn g .geq t53 (.int .i64 4) fun g t54=>JN (fun (k:Bool->AV->AV->AV->AHeap->Prop)=>B3 g (wantV true (some t54)) fun g w=>IG3 g w (fun g=>B3 g ((Op.fieldAddr 0) [t1]) fun g t56=>B3 g (Op.load1 [t56] H) fun g t57=>Bn g .leq t57 (.int .i64 13) fun g t58=>k g t58 t57 t56 H) (fun g=>k g uu uu uu H)) (fun g t58_1 t57_1 t56_1 H1=>B3 g (Op.pick [t54,t58_1,(.bool false)]) fun g t59=>IF3 g t59 (fun g=>Gt g M c (xv 44) Q ((51,t59)::E) D H1) (fun g=>Ly g E 1 fun g t1_1=>Fl g 0 t1_1 H1 fun g t61=>Bn g .eql t61 (.int .i64 15) fun g t62=>Gt g M c (xv 44) Q ((51,t62)::(51,t59)::E) D H1))) /\
 (∀ Q E D H,W M c (xv 44) true Q E D H =
  Lz E 51 fun g t51=>IF3 g t51 (fun g=>B32 g ((Op.buildSlice T_int 2 [(.int .i64 0)] [(0,1),(1,1)]) [(.int .i64 1),(.int .i64 1)]) fun g o1 k1=>GO3 g Q .ret ((3,(.bool true))::(2,(k1 H.next))::E) D (H.alloc o1)) (fun g=>Ly g E 1 fun g t1=>Fl g 0 t1 H fun g t66=>Bn g .eql t66 (.int .i64 16) fun g t67=>JN (fun (k:Bool->AV->AV->AV->AV->AHeap->Prop)=>B3 g (wantV true (some t67)) fun g w=>IG3 g w (fun g=>B3 g ((Op.fieldAddr 2) [t1]) fun g t69=>B3 g (Op.load1 [t69] H) fun g t70=>B3 g (Op.lenSl [t70]) fun g t71=>Bn g .eql t71 (.int .i64 3) fun g t72=>k g t72 t71 t70 t69 H) (fun g=>k g uu uu uu uu H)) (fun g t72_1 t71_1 t70_1 t69_1 H1=>B3 g (Op.pick [t67,t72_1,(.bool false)]) fun g t73=>IF3 g t73 (fun g=>B32 g ((Op.buildSlice T_int 3 [(.int .i64 0)] [(0,1),(1,1),(2,1)]) [(.int .i64 2),(.int .i64 4),(.int .i64 4)]) fun g o2 k2=>GO3 g Q .ret ((3,(.bool true))::(2,(k2 H1.next))::E) D (H1.alloc o2)) (fun g=>W M c (xv 54) g Q E D H1)))) /\
 (∀ Q E D H,W M c (xv 54) true Q E D H =
  Lz E 1 fun g t1=>Fl g 0 t1 H fun g t77=>Bn g .eql t77 (.int .i64 16) fun g t78=>IF3 g t78 (fun g=>Gt g M c (xv 60) Q ((75,t78)::E) D H) (fun g=>Ly g E 1 fun g t1_1=>Fl g 0 t1_1 H fun g t80=>Bn g .eql t80 (.int .i64 17) fun g t81=>Gt g M c (xv 60) Q ((75,t81)::(75,t78)::E) D H)) /\
 (∀ Q E D H,W M c (xv 60) true Q E D H =
  Lz E 75 fun g t75=>IF3 g t75 (fun g=>B32 g ((Op.buildSlice T_int 2 [(.int .i64 0)] [(0,1),(1,1)]) [(.int .i64 2),(.int .i64 4)]) fun g o1 k1=>GO3 g Q .ret ((3,(.bool true))::(2,(k1 H.next))::E) D (H.alloc o1)) (fun g=>Ly g E 1 fun g t1=>Fl g 0 t1 H fun g t85=>Cb g .eql t85 (.int .i64 18) (fun g=>B32 g ((Op.buildSlice T_int 1 [(.int .i64 0)] [(0,1)]) [(.int .i64 4)]) fun g o1 k1=>GO3 g Q .ret ((3,(.bool true))::(2,(k1 H.next))::E) D (H.alloc o1)) (fun g=>W M c (xv 70) g Q E D H))) /\
 (∀ Q E D H,W M c (xv 70) true Q E D H =
  Lz E 1 fun g t1=>Fl g 0 t1 H fun g t90=>Cb g .eql t90 (.int .i64 20) (fun g=>B32 g ((Op.buildSlice T_int 1 [(.int .i64 0)] [(0,1)]) [(.int .i64 3)]) fun g o1 k1=>Ly g E 1 fun g t1_1=>Fl g 2 t1_1 (H.alloc o1) fun g t94=>B3 g (Op.lenSl [t94]) fun g t95=>C3 M g (.func vi) [(k1 H.next),t95] (H.alloc o1) fun g t96 H2=>GO3 g Q .ret ((3,(.bool true))::(2,t96)::E) D H2) (fun g=>GO3 g Q .normal E D H)):=by (repeat' apply And.intro)<;>(intro _ _ _ _;refine W_unf ?_;kernel_rfl)
theorem qtg:(cProg Tryz.prog).func qdw=some qiy/\qiy.results=[.tmp 2,.tmp 3]:=zm (by kernel_rfl)
theorem qth (h:W M ⟨none,qdw⟩ (xv 0) true (FIN3 M [.tmp 2,.tmp 3] Q) [(0,a0)] [] H):qap M qdw [a0] H Q:=callf (by decide) qtg (ks:=qmv) (by kernel_rfl) h
def qix:AFunc:=funcAt Tryz.prog qdv
def qmu:Kp:=⟨[0,2],false,[0,2,16,29]⟩
def qav (k:Nat):Kp × ACode:=(qmu,part qix.body k)
theorem qd0 (M:Mac) (c:Ctx):(∀ Q E D H,W M c (qav 0) true Q E D H =
 W M c (qav 2) true Q ((2,(.int .i64 0))::E) D H) /\
 (∀ Q E D H,W M c (qav 2) true Q E D H =
  Lz E 0 fun g t0=>Bn g .geq t0 (.int .i64 1) fun g t5=>JN (fun (k:Bool->AV->AV->AHeap->Prop)=>B3 g (wantV true (some t5)) fun g w=>IG3 g w (fun g=>Bn g .leq t0 (.int .i64 10) fun g t8=>k g t8 t0 H) (fun g=>k g uu uu H)) (fun g t8_1 t7_1 H1=>B3 g (Op.pick [t5,t8_1,(.bool false)]) fun g t9=>IF3 g t9 (fun g=>GO3 g (BLK3 0 (SEQ3 (W M c (qav 29)) Q)) .ret ((2,(.int .i64 1))::E) D H1) (fun g=>Ly g E 0 fun g t0_1=>Bn g .geq t0_1 (.int .i64 11) fun g t12=>JN (fun (k:Bool->AV->AV->AHeap->Prop)=>B3 g (wantV true (some t12)) fun g w=>IG3 g w (fun g=>Bn g .leq t0_1 (.int .i64 13) fun g t15=>k g t15 t0_1 H1) (fun g=>k g uu uu H1)) (fun g t15_1 t14_1 H2=>B3 g (Op.pick [t12,t15_1,(.bool false)]) fun g t16=>IF3 g t16 (fun g=>GO3 g (BLK3 0 (SEQ3 (W M c (qav 29)) Q)) .ret ((2,(.int .i64 2))::E) D H2) (fun g=>W M c (qav 16) g (BLK3 0 (SEQ3 (W M c (qav 29)) Q)) E D H2))))) /\
 (∀ Q E D H,W M c (qav 29) true Q E D H =
  GO3 true Q .ret ((2,(.int .i64 0))::E) D H) /\
 (∀ Q E D H,W M c (qav 16) true Q E D H =
  Lz E 0 fun g t0=>Bn g .geq t0 (.int .i64 14) fun g t19=>JN (fun (k:Bool->AV->AV->AHeap->Prop)=>B3 g (wantV true (some t19)) fun g w=>IG3 g w (fun g=>Bn g .leq t0 (.int .i64 19) fun g t22=>k g t22 t0 H) (fun g=>k g uu uu H)) (fun g t22_1 t21_1 H1=>B3 g (Op.pick [t19,t22_1,(.bool false)]) fun g t23=>IF3 g t23 (fun g=>GO3 g Q .ret ((2,(.int .i64 3))::E) D H1) (fun g=>Ly g E 0 fun g t0_1=>Cb g .eql t0_1 (.int .i64 20) (fun g=>GO3 g Q .ret ((2,(.int .i64 4))::E) D H1) (fun g=>GO3 g Q .normal E D H1)))):=by (repeat' apply And.intro)<;>(intro _ _ _ _;refine W_unf ?_;kernel_rfl)
theorem qte:(cProg Tryz.prog).func qdv=some qix/\qix.results=[.tmp 2]:=zm (by kernel_rfl)
theorem qtf (h:W M ⟨none,qdv⟩ (qav 0) true (FIN3 M [.tmp 2] Q) [(0,a0)] [] H):qap M qdv [a0] H Q:=callf (by decide) qte (ks:=qmu) (by kernel_rfl) h
def qee:AFunc:=funcAt Tryz.prog qt
def qg5:Kp:=⟨[0,1,5,7,8,11,12,34],false,[0,5,11,18,23,27,33,36]⟩
def xu (k:Nat):Kp × ACode:=(qg5,part qee.body k)
theorem qg6 (M:Mac) (c:Ctx):(∀ Q E D H,W M c (xu 0) true Q E D H =
 Lz E 1 fun g t1=>B32 g (Op.rangeStr [t1]) fun g o1 k1=>LOOP3 (W M c (xu 5)) (BLK3 0 (SEQ3 (W M c (xu 36)) Q)) ((7,(k1 H.next))::E) D (H.alloc o1)) /\
 (∀ Q E D H,W M c (xu 36) true Q E D H =
  Lz E 0 fun g t0=>B3 g (Op.nilCheck [t0]) fun g t45=>B3 g ((Op.fieldAddr 0) [t45]) fun g t46=>Ly g E 1 fun g t1=>C3 M g (.func zp) [t46,t1] H fun g t48 H1=>GO3 g Q .normal E D H1) /\
 (∀ Q E D H,W M c (xu 5) true Q E D H =
  Lz E 7 fun g t7=>B32 g (Op.nextStr [t7] H) fun g t8 H1=>B3 g ((Op.extract 0) [t8]) fun g t9=>IF3 g t9 (fun g=>Gt g M c (xu 11) Q ((8,t8)::E) D H1) (fun g=>GO3 g (SEQ3 (W M c (xu 11)) Q) (.exit 0) ((8,t8)::E) D H1)) /\
 (∀ Q E D H,W M c (xu 11) true Q E D H =
  Lz E 8 fun g t8=>B3 g ((Op.extract 2) [t8]) fun g t10=>W M c (xu 18) g (SEQ3 (W M c (xu 23)) (BLK3 2 (BLK3 1 Q))) ((11,t10)::(5,t10)::E) D H) /\
 (∀ Q E D H,W M c (xu 23) true Q E D H =
  Lz E 12 fun g t12=>IF3 g t12 (fun g=>Ly g E 0 fun g t0=>Nf g 3 t0 H fun g t18=>Bn g .add t18 (.int .i64 1) fun g t19=>Ns g 3 t0 t19 H fun g u H1=>Ly g E 0 fun g t0_1=>Nf g 4 t0_1 H1 fun g t26=>Nf g 3 t0_1 H1 fun g t30=>B3 g ((Op.minmax true) [t26,t30]) fun g t31=>Ns g 4 t0_1 t31 H1 fun g u_1 H2=>GO3 g Q .normal E D H2) (fun g=>W M c (xu 27) g Q E D H)) /\
 (∀ Q E D H,W M c (xu 18) true Q E D H =
  Lz E 11 fun g t11=>Bn g .eql t11 (.int .i32 40) fun g t13=>IF3 g t13 (fun g=>GO3 g Q .normal ((12,t13)::E) D H) (fun g=>Ly g E 11 fun g t11_1=>Bn g .eql t11_1 (.int .i32 123) fun g t14=>GO3 g Q .normal ((12,t14)::(12,t13)::E) D H)) /\
 (∀ Q E D H,W M c (xu 27) true Q E D H =
  Lz E 11 fun g t11=>Bn g .eql t11 (.int .i32 41) fun g t35=>IF3 g t35 (fun g=>Gt g M c (xu 33) Q ((34,t35)::E) D H) (fun g=>Ly g E 11 fun g t11_1=>Bn g .eql t11_1 (.int .i32 125) fun g t36=>Gt g M c (xu 33) Q ((34,t36)::(34,t35)::E) D H)) /\
 (∀ Q E D H,W M c (xu 33) true Q E D H =
  Lz E 34 fun g t34=>IF3 g t34 (fun g=>Ly g E 0 fun g t0=>Nf g 3 t0 H fun g t40=>Bn g .sub t40 (.int .i64 1) fun g t41=>Ns g 3 t0 t41 H fun g u H1=>GO3 g Q .normal E D H1) (fun g=>GO3 g Q .normal E D H)):=by (repeat' apply And.intro)<;>(intro _ _ _ _;refine W_unf ?_;kernel_rfl)
theorem qk8:(cProg Tryz.prog).func qt=some qee/\qee.results=[]:=zm (by kernel_rfl)
theorem qk9 (h:W M ⟨none,qt⟩ (xu 0) true (FIN3 M [] Q) [(0,a0),(1,a1)] [] H):qap M qt [a0,a1] H Q:=callf (by decide) qk8 (ks:=qg5) (by kernel_rfl) h
def qfm:AFunc:=funcAt Tryz.prog vy
def qij:Kp:=⟨[0,1,4,5,6,7,8,9,10,11,42,43],false,[0,2,19,25,27,33,35,43,52,60,65,79,91,99,101,107,113,117,119,122,128,132]⟩
def ql (k:Nat):Kp × ACode:=(qij,part qfm.body k)
theorem qnf (M:Mac) (c:Ctx):(∀ Q E D H,W M c (ql 0) true Q E D H =
 W M c (ql 2) true Q ((4,(.str []))::E) D H) /\
 (∀ Q E D H,W M c (ql 2) true Q E D H =
  Lz E 1 fun g t1=>Cb g .eql t1 (.int .i64 0) (fun g=>GO3 g (BLK3 0 (SEQ3 (W M c (ql 19)) Q)) .ret ((4,(.str []))::(11,t1)::E) D H) (fun g=>Cb g .eql t1 (.int .i64 1) (fun g=>Ly g E 0 fun g t0=>GO3 g (BLK3 0 (SEQ3 (W M c (ql 19)) Q)) .ret ((4,t0)::(11,t1)::E) D H) (fun g=>GO3 g (BLK3 0 (SEQ3 (W M c (ql 19)) Q)) .normal ((11,t1)::E) D H))) /\
 (∀ Q E D H,W M c (ql 19) true Q E D H =
  Lz E 1 fun g t1=>Cb g .lss t1 (.int .i64 0) (fun g=>B3 g ((Op.mkIface qbi) [(.str qxe)]) fun g t19=>False) (fun g=>Gt g M c (ql 25) Q E D H)) /\
 (∀ Q E D H,W M c (ql 25) true Q E D H =
  Lz E 0 fun g t0=>B3 g (Op.lenStr [t0]) fun g t22=>B3 g ((Op.wrap .u64) [t22]) fun g t23=>Ly g E 1 fun g t1=>B3 g ((Op.wrap .u64) [t1]) fun g t25=>C3 M g (.func qa1) [t23,t25] H fun g t26 H1=>B3 g ((Op.extract 0) [t26]) fun g t27=>B3 g ((Op.extract 1) [t26]) fun g t28=>W M c (ql 27) g Q ((6,t28)::(5,t27)::E) D H1) /\
 (∀ Q E D H,W M c (ql 27) true Q E D H =
  Lz E 5 fun g t5=>Bn g .gtr t5 (.int .u64 0) fun g t30=>JN (fun (k:Bool->AV->AV->AHeap->Prop)=>B3 g (wantV false (some t30)) fun g w=>IG3 g w (fun g=>Ly g E 6 fun g t6=>Bn g .gtr t6 (.int .u64 9223372036854775807) fun g t33=>k g t33 t6 H) (fun g=>k g uu uu H)) (fun g t33_1 t32_1 H1=>B3 g (Op.pick [t30,(.bool true),t33_1]) fun g t34=>IF3 g t34 (fun g=>B3 g ((Op.mkIface qbi) [(.str qxf)]) fun g t35=>False) (fun g=>Gt g M c (ql 33) Q E D H1))) /\
 (∀ Q E D H,W M c (ql 33) true Q E D H =
  Lz E 6 fun g t6=>B3 g ((Op.wrap .i64) [t6]) fun g t37=>W M c (ql 35) g Q ((7,t37)::E) D H) /\
 (∀ Q E D H,W M c (ql 35) true Q E D H =
  Lz E 0 fun g t0=>B3 g (Op.lenStr [t0]) fun g t39=>Cb g .eql t39 (.int .i64 0) (fun g=>GO3 g (SEQ3 (W M c (ql 43)) Q) .ret ((4,(.str []))::E) D H) (fun g=>Gt g M c (ql 43) Q E D H)) /\
 (∀ Q E D H,W M c (ql 43) true Q E D H =
  Lz E 0 fun g t0=>B3 g (Op.indexStr [t0,(.int .i64 0)]) fun g t42=>Bn g .eql t42 (.int .u8 32) fun g t44=>IF3 g t44 (fun g=>Gt g M c (ql 65) (BLK3 1 (SEQ3 (W M c (ql 99)) Q)) ((43,t44)::(42,t42)::E) D H) (fun g=>W M c (ql 52) g (SEQ3 (W M c (ql 65)) (BLK3 1 (SEQ3 (W M c (ql 99)) Q))) ((43,t44)::(42,t42)::E) D H)) /\
 (∀ Q E D H,W M c (ql 99) true Q E D H =
  Lz E 7 fun g t7=>W M c (ql 101) g Q ((8,t7)::E) D H) /\
 (∀ Q E D H,W M c (ql 65) true Q E D H =
  Lz E 43 fun g t43=>IF3 g t43 (fun g=>Ly g E 7 fun g t7=>Bn g .leq t7 (.int .i64 128) fun g t51=>JN (fun (k:Bool->AV->AV->AHeap->Prop)=>B3 g (wantV true (some t51)) fun g w=>IG3 g w (fun g=>Ly g E 0 fun g t0=>C3 M g (.func js) [(.str qer),t0] H fun g t54 H1=>k g t54 t0 H1) (fun g=>k g uu uu H)) (fun g t54_1 t53_1 H2=>B3 g (Op.pick [t51,t54_1,(.bool false)]) fun g t55=>IF3 g t55 (fun g=>Ly g E 7 fun g t7_1=>B3 g ((Op.sliceStr [none,(some 0)]) [(.str qer),t7_1]) fun g t57=>GO3 g (BLK3 2 Q) .ret ((4,t57)::E) D H2) (fun g=>Ly g E 7 fun g t7_1=>Bn g .leq t7_1 (.int .i64 128) fun g t60=>JN (fun (k:Bool->AV->AV->AHeap->Prop)=>B3 g (wantV true (some t60)) fun g w=>IG3 g w (fun g=>Ly g E 0 fun g t0_1=>C3 M g (.func js) [(.str qp0),t0_1] H2 fun g t63 H3=>k g t63 t0_1 H3) (fun g=>k g uu uu H2)) (fun g t63_1 t62_1 H4=>B3 g (Op.pick [t60,t63_1,(.bool false)]) fun g t64=>IF3 g t64 (fun g=>Ly g E 7 fun g t7_2=>B3 g ((Op.sliceStr [none,(some 0)]) [(.str qp0),t7_2]) fun g t66=>GO3 g (BLK3 2 Q) .ret ((4,t66)::E) D H4) (fun g=>W M c (ql 79) g (BLK3 2 Q) E D H4))))) (fun g=>GO3 g Q .normal E D H)) /\
 (∀ Q E D H,W M c (ql 52) true Q E D H =
  Lz E 42 fun g t42=>Bn g .eql t42 (.int .u8 45) fun g t45=>IF3 g t45 (fun g=>GO3 g Q .normal ((43,t45)::E) D H) (fun g=>Ly g E 42 fun g t42_1=>Bn g .eql t42_1 (.int .u8 48) fun g t46=>IF3 g t46 (fun g=>GO3 g Q .normal ((43,t46)::(43,t45)::E) D H) (fun g=>W M c (ql 60) g Q ((43,t46)::(43,t45)::E) D H))) /\
 (∀ Q E D H,W M c (ql 101) true Q E D H =
  Lz E 7 fun g t7=>Cb g .gtr t7 (.int .i64 8192) (fun g=>Ly g E 0 fun g t0=>B3 g (Op.lenStr [t0]) fun g t98=>Bn g .quo (.int .i64 8192) t98 fun g t99=>B3 g (Op.lenStr [t0]) fun g t101=>Bn g .mul t99 t101 fun g t102=>W M c (ql 107) g (SEQ3 (W M c (ql 113)) Q) ((8,t102)::E) D H) (fun g=>Gt g M c (ql 113) Q E D H)) /\
 (∀ Q E D H,W M c (ql 79) true Q E D H =
  Lz E 7 fun g t7=>Bn g .leq t7 (.int .i64 64) fun g t69=>JN (fun (k:Bool->AV->AV->AHeap->Prop)=>B3 g (wantV true (some t69)) fun g w=>IG3 g w (fun g=>Ly g E 0 fun g t0=>C3 M g (.func js) [(.str qp1),t0] H fun g t72 H1=>k g t72 t0 H1) (fun g=>k g uu uu H)) (fun g t72_1 t71_1 H2=>B3 g (Op.pick [t69,t72_1,(.bool false)]) fun g t73=>IF3 g t73 (fun g=>Ly g E 7 fun g t7_1=>B3 g ((Op.sliceStr [none,(some 0)]) [(.str qp1),t7_1]) fun g t75=>GO3 g Q .ret ((4,t75)::E) D H2) (fun g=>Ly g E 7 fun g t7_1=>Bn g .leq t7_1 (.int .i64 128) fun g t78=>JN (fun (k:Bool->AV->AV->AHeap->Prop)=>B3 g (wantV true (some t78)) fun g w=>IG3 g w (fun g=>Ly g E 0 fun g t0_1=>C3 M g (.func js) [(.str qp2),t0_1] H2 fun g t81 H3=>k g t81 t0_1 H3) (fun g=>k g uu uu H2)) (fun g t81_1 t80_1 H4=>B3 g (Op.pick [t78,t81_1,(.bool false)]) fun g t82=>IF3 g t82 (fun g=>Ly g E 7 fun g t7_2=>B3 g ((Op.sliceStr [none,(some 0)]) [(.str qp2),t7_2]) fun g t84=>GO3 g Q .ret ((4,t84)::E) D H4) (fun g=>W M c (ql 91) g Q E D H4))))) /\
 (∀ Q E D H,W M c (ql 60) true Q E D H =
  Lz E 42 fun g t42=>Bn g .eql t42 (.int .u8 61) fun g t47=>IF3 g t47 (fun g=>GO3 g Q .normal ((43,t47)::E) D H) (fun g=>Ly g E 42 fun g t42_1=>Bn g .eql t42_1 (.int .u8 9) fun g t48=>GO3 g Q .normal ((43,t48)::(43,t47)::E) D H)) /\
 (∀ Q E D H,W M c (ql 113) true Q E D H =
  A3 true qbt [.nilp,.nils] H fun g t9 H1=>Ly g E 7 fun g t7=>C3 M g (.func yu) [t9,t7] H1 fun g t108 H2=>W M c (ql 117) g Q ((9,t9)::E) D H2) /\
 (∀ Q E D H,W M c (ql 107) true Q E D H =
  Lz E 8 fun g t8=>Cb g .eql t8 (.int .i64 0) (fun g=>Ly g E 0 fun g t0=>B3 g (Op.lenStr [t0]) fun g t106=>GO3 g Q .normal ((8,t106)::E) D H) (fun g=>GO3 g Q .normal E D H)) /\
 (∀ Q E D H,W M c (ql 91) true Q E D H =
  Lz E 7 fun g t7=>Bn g .leq t7 (.int .i64 64) fun g t87=>JN (fun (k:Bool->AV->AV->AHeap->Prop)=>B3 g (wantV true (some t87)) fun g w=>IG3 g w (fun g=>Ly g E 0 fun g t0=>C3 M g (.func js) [(.str qp3),t0] H fun g t90 H1=>k g t90 t0 H1) (fun g=>k g uu uu H)) (fun g t90_1 t89_1 H2=>B3 g (Op.pick [t87,t90_1,(.bool false)]) fun g t91=>IF3 g t91 (fun g=>Ly g E 7 fun g t7_1=>B3 g ((Op.sliceStr [none,(some 0)]) [(.str qp3),t7_1]) fun g t93=>GO3 g Q .ret ((4,t93)::E) D H2) (fun g=>GO3 g Q .normal E D H2))) /\
 (∀ Q E D H,W M c (ql 117) true Q E D H =
  Lz E 0 fun g t0=>Ly g E 9 fun g t9=>C3 M g (.func zp) [t9,t0] H fun g t110 H1=>W M c (ql 119) g Q E D H1) /\
 (∀ Q E D H,W M c (ql 119) true Q E D H =
  LOOP3 (W M c (ql 122)) (BLK3 3 (SEQ3 (W M c (ql 132)) Q)) E D H) /\
 (∀ Q E D H,W M c (ql 132) true Q E D H =
  Lz E 9 fun g t9=>C3 M g (.func jh) [t9] H fun g t124 H1=>GO3 g Q .ret ((4,t124)::E) D H1) /\
 (∀ Q E D H,W M c (ql 122) true Q E D H =
  Lz E 9 fun g t9=>C3 M g (.func kc) [t9] H fun g t111 H1=>Ly g E 7 fun g t7=>Cb g .lss t111 t7 (fun g=>Gt g M c (ql 128) Q E D H1) (fun g=>GO3 g (SEQ3 (W M c (ql 128)) Q) (.exit 3) E D H1)) /\
 (∀ Q E D H,W M c (ql 128) true Q E D H =
  Lz E 7 fun g t7=>Ly g E 9 fun g t9=>C3 M g (.func kc) [t9] H fun g t115 H1=>Bn g .sub t7 t115 fun g t116=>C3 M g (.func kc) [t9] H1 fun g t117 H2=>Ly g E 8 fun g t8=>B3 g ((Op.minmax false) [t116,t117,t8]) fun g t119=>Ly g E 9 fun g t9_1=>C3 M g (.func jh) [t9_1] H2 fun g t120 H3=>B3 g ((Op.sliceStr [none,(some 0)]) [t120,t119]) fun g t122=>C3 M g (.func zp) [t9_1,t122] H3 fun g t123 H4=>GO3 g (BLK3 4 Q) .normal ((10,t119)::E) D H4):=by (repeat' apply And.intro)<;>(intro _ _ _ _;refine W_unf ?_;kernel_rfl)
theorem qnd:(cProg Tryz.prog).func vy=some qfm/\qfm.results=[.tmp 4]:=zm (by kernel_rfl)
theorem qne (h:W M ⟨none,vy⟩ (ql 0) true (FIN3 M [.tmp 4] Q) [(0,a0),(1,a1)] [] H):qap M vy [a0,a1] H Q:=callf (by decide) qnd (ks:=qij) (by kernel_rfl) h
def qb6:AFunc:=funcAt Tryz.prog zj
def qed:Kp:=⟨[0,1,2,6,15,54],false,[0,13,25,31,34,38,53]⟩
def xm (k:Nat):Kp × ACode:=(qed,part qb6.body k)
theorem qz (M:Mac) (c:Ctx):(∀ Q E D H,W M c (xm 0) true Q E D H =
 Lz E 0 fun g t0=>Nf g 2 t0 H fun g t10=>Ly g E 1 fun g t1=>B3 g ((Op.indexSl 3) [t10,t1]) fun g t12=>B3 g ((Op.loadN 3) [t12] H) fun g t13=>A3 g xr [(.int .i64 0),(.int .u64 0),.nils] H fun g t6 H1=>B32 g ((Op.store 3) [t6,t13] H1) fun g u H2=>Fl g 0 t6 H2 fun g t15=>Cb g .eql t15 (.int .i64 14) (fun g=>Ly g E 0 fun g t0_1=>Fl g 1 t6 H2 fun g t20=>Bn g .add (.int .u64 97) t20 fun g t21=>B3 g ((Op.wrap .i32) [t21]) fun g t22=>B3 g (Op.strOfInt [t22]) fun g t23=>Bn g .add t23 (.str [32,61,32]) fun g t24=>C3 M g (.func qt) [t0_1,t24] H2 fun g t25 H3=>Ly g E 0 fun g t0_2=>Fl g 2 t6 H3 fun g t28=>Xl g t28 (.int .i64 0) H3 fun g t30=>C3 M g (.func zi) [t0_2,t30,(.int .i64 0)] H3 fun g t31 H4=>Ly g E 0 fun g t0_3=>C3 M g (.func qt) [t0_3,(.str [59])] H4 fun g t33 H5=>GO3 g (BLK3 0 Q) .normal ((15,t15)::(6,t6)::E) D H5) (fun g=>W M c (xm 13) g (BLK3 0 Q) ((15,t15)::(6,t6)::E) D H2)) /\
 (∀ Q E D H,W M c (xm 13) true Q E D H =
  Lz E 15 fun g t15=>Cb g .eql t15 (.int .i64 15) (fun g=>Ly g E 0 fun g t0=>C3 M g (.func qt) [t0,(.str [115,116,111,114,101,40])] H fun g t37 H1=>Ly g E 0 fun g t0_1=>Ly g E 6 fun g t6=>Fl g 2 t6 H1 fun g t40=>Xl g t40 (.int .i64 0) H1 fun g t42=>C3 M g (.func zi) [t0_1,t42,(.int .i64 0)] H1 fun g t43 H2=>Ly g E 0 fun g t0_2=>C3 M g (.func qt) [t0_2,(.str [44,32])] H2 fun g t45 H3=>Ly g E 0 fun g t0_3=>Ly g E 6 fun g t6_1=>Fl g 2 t6_1 H3 fun g t48=>Xl g t48 (.int .i64 1) H3 fun g t50=>C3 M g (.func zi) [t0_3,t50,(.int .i64 0)] H3 fun g t51 H4=>Ly g E 0 fun g t0_4=>C3 M g (.func qt) [t0_4,(.str [41,59])] H4 fun g t53 H5=>GO3 g Q .normal E D H5) (fun g=>W M c (xm 25) g Q E D H)) /\
 (∀ Q E D H,W M c (xm 25) true Q E D H =
  Lz E 15 fun g t15=>Bn g .eql t15 (.int .i64 16) fun g t55=>IF3 g t55 (fun g=>Gt g M c (xm 31) Q ((54,t55)::E) D H) (fun g=>Ly g E 15 fun g t15_1=>Bn g .eql t15_1 (.int .i64 17) fun g t56=>Gt g M c (xm 31) Q ((54,t56)::(54,t55)::E) D H)) /\
 (∀ Q E D H,W M c (xm 31) true Q E D H =
  Lz E 54 fun g t54=>IF3 g t54 (fun g=>Ly g E 0 fun g t0=>B32 g ((Op.buildSlice qbi 2 [(.str [])] [(0,1),(1,1)]) [(.str [105,102,32,40]),(.str [119,104,105,108,101,32,40])]) fun g o1 k1=>Ly g E 6 fun g t6=>Fl g 0 t6 (H.alloc o1) fun g t60=>Bn g .sub t60 (.int .i64 16) fun g t61=>Xl g (k1 H.next) t61 (H.alloc o1) fun g t63=>C3 M g (.func qt) [t0,t63] (H.alloc o1) fun g t64 H2=>W M c (xm 34) g Q E D H2) (fun g=>Ly g E 15 fun g t15=>Cb g .eql t15 (.int .i64 18) (fun g=>Ly g E 0 fun g t0=>C3 M g (.func qt) [t0,(.str [97,116,111,109,105,99,32])] H fun g t96 H1=>Ly g E 0 fun g t0_1=>Ly g E 6 fun g t6=>Fl g 2 t6 H1 fun g t99=>Xl g t99 (.int .i64 0) H1 fun g t101=>Ly g E 2 fun g t2=>C3 M g (.func km) [t0_1,t101,t2] H1 fun g t103 H2=>GO3 g Q .normal E D H2) (fun g=>W M c (xm 53) g Q E D H))) /\
 (∀ Q E D H,W M c (xm 34) true Q E D H =
  Lz E 0 fun g t0=>Ly g E 6 fun g t6=>Fl g 2 t6 H fun g t67=>Xl g t67 (.int .i64 0) H fun g t69=>C3 M g (.func qac) [t0,t69] H fun g t70 H1=>Ly g E 0 fun g t0_1=>C3 M g (.func qt) [t0_1,(.str [41,32])] H1 fun g t72 H2=>W M c (xm 38) g Q E D H2) /\
 (∀ Q E D H,W M c (xm 53) true Q E D H =
  Lz E 15 fun g t15=>Cb g .eql t15 (.int .i64 19) (fun g=>Ly g E 0 fun g t0=>C3 M g (.func qt) [t0,(.str [104,97,108,116,59])] H fun g t107 H1=>GO3 g Q .normal E D H1) (fun g=>GO3 g Q .normal E D H)) /\
 (∀ Q E D H,W M c (xm 38) true Q E D H =
  Lz E 0 fun g t0=>Ly g E 6 fun g t6=>Fl g 2 t6 H fun g t75=>Xl g t75 (.int .i64 1) H fun g t77=>Ly g E 2 fun g t2=>C3 M g (.func km) [t0,t77,t2] H fun g t79 H1=>Ly g E 6 fun g t6_1=>Fl g 2 t6_1 H1 fun g t81=>B3 g (Op.lenSl [t81]) fun g t82=>Cb g .eql t82 (.int .i64 3) (fun g=>Ly g E 0 fun g t0_1=>C3 M g (.func qt) [t0_1,(.str [32,101,108,115,101,32])] H1 fun g t85 H2=>Ly g E 0 fun g t0_2=>Ly g E 6 fun g t6_2=>Fl g 2 t6_2 H2 fun g t88=>Xl g t88 (.int .i64 2) H2 fun g t90=>Ly g E 2 fun g t2_1=>C3 M g (.func km) [t0_2,t90,t2_1] H2 fun g t92 H3=>GO3 g Q .normal E D H3) (fun g=>GO3 g Q .normal E D H1)):=by (repeat' apply And.intro)<;>(intro _ _ _ _;refine W_unf ?_;kernel_rfl)
theorem qh4:(cProg Tryz.prog).func zj=some qb6/\qb6.results=[]:=zm (by kernel_rfl)
theorem kp (h:W M ⟨none,zj⟩ (xm 0) true (FIN3 M [] Q) [(0,a0),(1,a1),(2,a2)] [] H):qap M zj [a0,a1,a2] H Q:=callf (by decide) qh4 (ks:=qed) (by kernel_rfl) h
def qdq:AFunc:=funcAt Tryz.prog vi
def qgq:Kp:=⟨[0,1,4,5,6,7,8],false,[0,2,8,10,16,20,23,29,31]⟩
def xp (k:Nat):Kp × ACode:=(qgq,part qdq.body k)
theorem qki (M:Mac) (c:Ctx):(∀ Q E D H,W M c (xp 0) true Q E D H =
 W M c (xp 2) true Q ((4,.nils)::E) D H) /\
 (∀ Q E D H,W M c (xp 2) true Q E D H =
  Lz E 1 fun g t1=>Cb g .lss t1 (.int .i64 0) (fun g=>B3 g ((Op.mkIface qbi) [(.str [99,97,110,110,111,116,32,98,101,32,110,101,103,97,116,105,118,101])]) fun g t11=>False) (fun g=>Gt g M c (xp 8) Q E D H)) /\
 (∀ Q E D H,W M c (xp 8) true Q E D H =
  Lz E 0 fun g t0=>B3 g (Op.lenSl [t0]) fun g t14=>B3 g ((Op.wrap .u64) [t14]) fun g t15=>Ly g E 1 fun g t1=>B3 g ((Op.wrap .u64) [t1]) fun g t17=>C3 M g (.func qa1) [t15,t17] H fun g t18 H1=>B3 g ((Op.extract 0) [t18]) fun g t19=>B3 g ((Op.extract 1) [t18]) fun g t20=>W M c (xp 10) g Q ((6,t20)::(5,t19)::E) D H1) /\
 (∀ Q E D H,W M c (xp 10) true Q E D H =
  Lz E 5 fun g t5=>Bn g .gtr t5 (.int .u64 0) fun g t22=>JN (fun (k:Bool->AV->AV->AHeap->Prop)=>B3 g (wantV false (some t22)) fun g w=>IG3 g w (fun g=>Ly g E 6 fun g t6=>Bn g .gtr t6 (.int .u64 9223372036854775807) fun g t25=>k g t25 t6 H) (fun g=>k g uu uu H)) (fun g t25_1 t24_1 H1=>B3 g (Op.pick [t22,(.bool true),t25_1]) fun g t26=>IF3 g t26 (fun g=>B3 g ((Op.mkIface qbi) [(.str qxg)]) fun g t27=>False) (fun g=>Gt g M c (xp 16) Q E D H1))) /\
 (∀ Q E D H,W M c (xp 16) true Q E D H =
  Lz E 6 fun g t6=>B3 g ((Op.wrap .i64) [t6]) fun g t29=>B32 g ((Op.mkSlice T_int 8 [(.int .i64 0)]) [t29,t29]) fun g o1 k1=>Ly g E 0 fun g t0=>B32 g ((Op.copy 1) [(k1 H.next),t0] (H.alloc o1)) fun g t33 H2=>W M c (xp 20) g Q ((8,t33)::(7,(k1 H.next))::E) D H2) /\
 (∀ Q E D H,W M c (xp 20) true Q E D H =
  LOOP3 (W M c (xp 23)) (BLK3 0 (SEQ3 (W M c (xp 31)) Q)) E D H) /\
 (∀ Q E D H,W M c (xp 31) true Q E D H =
  Lz E 7 fun g t7=>GO3 g Q .ret ((4,t7)::E) D H) /\
 (∀ Q E D H,W M c (xp 23) true Q E D H =
  Lz E 8 fun g t8=>Ly g E 7 fun g t7=>B3 g (Op.lenSl [t7]) fun g t36=>Cb g .lss t8 t36 (fun g=>Gt g M c (xp 29) Q E D H) (fun g=>GO3 g (SEQ3 (W M c (xp 29)) Q) (.exit 0) E D H)) /\
 (∀ Q E D H,W M c (xp 29) true Q E D H =
  Lz E 8 fun g t8=>Ly g E 7 fun g t7=>B3 g ((Op.sliceSl 1 [(some 0),none,none]) [t7,t8]) fun g t41=>B3 g ((Op.sliceSl 1 [none,(some 0),none]) [t7,t8]) fun g t44=>B32 g ((Op.copy 1) [t41,t44] H) fun g t45 H1=>Bn g .add t8 t45 fun g t46=>GO3 g (BLK3 1 Q) .normal ((8,t46)::E) D H1):=by (repeat' apply And.intro)<;>(intro _ _ _ _;refine W_unf ?_;kernel_rfl)
theorem qkg:(cProg Tryz.prog).func vi=some qdq/\qdq.results=[.tmp 4]:=zm (by kernel_rfl)
theorem qkh (h:W M ⟨none,vi⟩ (xp 0) true (FIN3 M [.tmp 4] Q) [(0,a0),(1,a1)] [] H):qap M vi [a0,a1] H Q:=callf (by decide) qkg (ks:=qgq) (by kernel_rfl) h
def qgo:AFunc:=funcAt Tryz.prog qa1
def qi0:Kp:=⟨[0,1,4,5,6,7,8,9],false,[0,10]⟩
def qcv (k:Nat):Kp × ACode:=(qi0,part qgo.body k)
theorem qi1 (M:Mac) (c:Ctx):(∀ Q E D H,W M c (qcv 0) true Q E D H =
 IF3 true (.bool false) (fun g=>Ly g E 0 fun g t0=>B3 g ((Op.wrap .u32) [t0]) fun g t12=>Ly g E 1 fun g t1=>B3 g ((Op.wrap .u32) [t1]) fun g t14=>C3 M g (.func qlp) [t12,t14] H fun g t15 H1=>B3 g ((Op.extract 0) [t15]) fun g t16=>B3 g ((Op.extract 1) [t15]) fun g t17=>B3 g ((Op.wrap .u64) [t16]) fun g t19=>B3 g ((Op.wrap .u64) [t17]) fun g t21=>GO3 g (SEQ3 (W M c (qcv 10)) Q) .ret ((5,t21)::(4,t19)::(7,t17)::(6,t16)::(5,(.int .u64 0))::(4,(.int .u64 0))::E) D H1) (fun g=>Gt g M c (qcv 10) Q ((5,(.int .u64 0))::(4,(.int .u64 0))::E) D H)) /\
 (∀ Q E D H,W M c (qcv 10) true Q E D H =
  Lz E 0 fun g t0=>Ly g E 1 fun g t1=>C3 M g (.func qay) [t0,t1] H fun g t25 H1=>B3 g ((Op.extract 0) [t25]) fun g t26=>B3 g ((Op.extract 1) [t25]) fun g t27=>GO3 g Q .ret ((5,t27)::(4,t26)::(9,t27)::(8,t26)::E) D H1):=by (repeat' apply And.intro)<;>(intro _ _ _ _;refine W_unf ?_;kernel_rfl)
theorem qow:(cProg Tryz.prog).func qa1=some qgo/\qgo.results=[.tmp 4,.tmp 5]:=zm (by kernel_rfl)
theorem qox (h:W M ⟨none,qa1⟩ (qcv 0) true (FIN3 M [.tmp 4,.tmp 5] Q) [(0,a0),(1,a1)] [] H):qap M qa1 [a0,a1] H Q:=callf (by decide) qow (ks:=qi0) (by kernel_rfl) h
def qdr:AFunc:=funcAt Tryz.prog js
def qgt:Kp:=⟨[0,1,4],false,[0]⟩
def qgu (k:Nat):Kp × ACode:=(qgt,part qdr.body k)
theorem qgv (M:Mac) (c:Ctx):(∀ Q E D H,W M c (qgu 0) true Q E D H =
 Lz E 0 fun g t0=>Ly g E 1 fun g t1=>C3 M g (.func jx) [t0,t1] H fun g t7 H1=>GO3 g Q .ret ((4,t7)::(4,(.bool false))::E) D H1):=by intro _ _ _ _;refine W_unf ?_;kernel_rfl
theorem qkj:(cProg Tryz.prog).func js=some qdr/\qdr.results=[.tmp 4]:=zm (by kernel_rfl)
theorem qkk (h:W M ⟨none,js⟩ (qgu 0) true (FIN3 M [.tmp 4] Q) [(0,a0),(1,a1)] [] H):qap M js [a0,a1] H Q:=callf (by decide) qkj (ks:=qgt) (by kernel_rfl) h
def qeb:AFunc:=funcAt Tryz.prog zi
def qg3:Kp:=⟨[0,1,2,6,7,9,18],false,[0,9,21,25,31,35]⟩
def zu (k:Nat):Kp × ACode:=(qg3,part qeb.body k)
theorem yb (M:Mac) (c:Ctx):(∀ Q E D H,W M c (zu 0) true Q E D H =
 Lz E 0 fun g t0=>Nf g 2 t0 H fun g t13=>Ly g E 1 fun g t1=>B3 g ((Op.indexSl 3) [t13,t1]) fun g t15=>B3 g ((Op.loadN 3) [t15] H) fun g t16=>A3 g xr [(.int .i64 0),(.int .u64 0),.nils] H fun g t6 H1=>B32 g ((Op.store 3) [t6,t16] H1) fun g u H2=>Fl g 0 t6 H2 fun g t18=>Cb g .eql t18 (.int .i64 1) (fun g=>Ly g E 0 fun g t0_1=>Fl g 1 t6 H2 fun g t61=>C3 M g (.func vw) [t61,(.int .i64 10)] H2 fun g t62 H3=>C3 M g (.func qt) [t0_1,t62] H3 fun g t63 H4=>GO3 g (BLK3 0 Q) .normal ((18,t18)::(6,t6)::E) D H4) (fun g=>W M c (zu 9) g (BLK3 0 Q) ((18,t18)::(6,t6)::E) D H2)) /\
 (∀ Q E D H,W M c (zu 9) true Q E D H =
  Lz E 18 fun g t18=>Cb g .eql t18 (.int .i64 2) (fun g=>Ly g E 0 fun g t0=>Ly g E 6 fun g t6=>Fl g 1 t6 H fun g t68=>Bn g .add (.int .u64 97) t68 fun g t69=>B3 g ((Op.wrap .i32) [t69]) fun g t70=>B3 g (Op.strOfInt [t70]) fun g t71=>C3 M g (.func qt) [t0,t71] H fun g t72 H1=>GO3 g Q .normal E D H1) (fun g=>Ly g E 18 fun g t18_1=>Cb g .eql t18_1 (.int .i64 3) (fun g=>Ly g E 0 fun g t0=>C3 M g (.func qt) [t0,(.str [108,111,97,100,40])] H fun g t76 H1=>Ly g E 0 fun g t0_1=>Ly g E 6 fun g t6=>Fl g 2 t6 H1 fun g t79=>Xl g t79 (.int .i64 0) H1 fun g t81=>C3 M g (.func zi) [t0_1,t81,(.int .i64 0)] H1 fun g t82 H2=>Ly g E 0 fun g t0_2=>C3 M g (.func qt) [t0_2,(.str [41])] H2 fun g t84 H3=>GO3 g Q .normal E D H3) (fun g=>W M c (zu 21) g Q E D H))) /\
 (∀ Q E D H,W M c (zu 21) true Q E D H =
  Lz E 6 fun g t6=>Fl g 0 t6 H fun g t20=>C3 M g (.func qdx) [t20] H fun g t21 H1=>C3 M g (.func qes) [t21] H1 fun g t24 H2=>B3 g ((Op.extract 0) [t24]) fun g t25=>B3 g ((Op.extract 1) [t24]) fun g t26=>W M c (zu 25) g Q ((9,t26)::(7,t21)::E) D H2) /\
 (∀ Q E D H,W M c (zu 25) true Q E D H =
  Lz E 9 fun g t9=>Ly g E 2 fun g t2=>Cb g .lss t9 t2 (fun g=>Ly g E 0 fun g t0=>C3 M g (.func qt) [t0,(.str [40])] H fun g t31 H1=>Gt g M c (zu 31) Q E D H1) (fun g=>Gt g M c (zu 31) Q E D H)) /\
 (∀ Q E D H,W M c (zu 31) true Q E D H =
  Lz E 0 fun g t0=>Ly g E 6 fun g t6=>Fl g 2 t6 H fun g t34=>Xl g t34 (.int .i64 0) H fun g t36=>Ly g E 9 fun g t9=>C3 M g (.func zi) [t0,t36,t9] H fun g t38 H1=>Ly g E 0 fun g t0_1=>Ly g E 7 fun g t7=>Bn g .add (.str [32]) t7 fun g t41=>Bn g .add t41 (.str [32]) fun g t42=>C3 M g (.func qt) [t0_1,t42] H1 fun g t43 H2=>W M c (zu 35) g Q E D H2) /\
 (∀ Q E D H,W M c (zu 35) true Q E D H =
  Lz E 0 fun g t0=>Ly g E 6 fun g t6=>Fl g 2 t6 H fun g t46=>Xl g t46 (.int .i64 1) H fun g t48=>Ly g E 9 fun g t9=>Bn g .add t9 (.int .i64 1) fun g t50=>C3 M g (.func zi) [t0,t48,t50] H fun g t51 H1=>Ly g E 9 fun g t9_1=>Ly g E 2 fun g t2=>Cb g .lss t9_1 t2 (fun g=>Ly g E 0 fun g t0_1=>C3 M g (.func qt) [t0_1,(.str [41])] H1 fun g t56 H2=>GO3 g Q .normal E D H2) (fun g=>GO3 g Q .normal E D H1)):=by (repeat' apply And.intro)<;>(intro _ _ _ _;refine W_unf ?_;kernel_rfl)
theorem qk5:(cProg Tryz.prog).func zi=some qeb/\qeb.results=[]:=zm (by kernel_rfl)
theorem qcp (h:W M ⟨none,zi⟩ (zu 0) true (FIN3 M [] Q) [(0,a0),(1,a1),(2,a2)] [] H):qap M zi [a0,a1,a2] H Q:=callf (by decide) qk5 (ks:=qg3) (by kernel_rfl) h
def qea:AFunc:=funcAt Tryz.prog qac
def qg1:Kp:=⟨[0,1,4],false,[0]⟩
def qg2 (k:Nat):Kp × ACode:=(qg1,part qea.body k)
theorem qco (M:Mac) (c:Ctx):(∀ Q E D H,W M c (qg2 0) true Q E D H =
 Lz E 0 fun g t0=>Nf g 2 t0 H fun g t8=>Ly g E 1 fun g t1=>B3 g ((Op.indexSl 3) [t8,t1]) fun g t10=>B3 g ((Op.loadN 3) [t10] H) fun g t11=>A3 g xr [(.int .i64 0),(.int .u64 0),.nils] H fun g t4 H1=>B32 g ((Op.store 3) [t4,t11] H1) fun g u H2=>Ly g E 0 fun g t0_1=>Fl g 2 t4 H2 fun g t14=>Xl g t14 (.int .i64 0) H2 fun g t16=>C3 M g (.func zi) [t0_1,t16,(.int .i64 0)] H2 fun g t17 H3=>Ly g E 0 fun g t0_2=>B32 g ((Op.buildSlice qbi 3 [(.str [])] [(0,1),(1,1),(2,1)]) [(.str [32,61,61,32]),(.str [32,33,61,32]),(.str [32,60,32])]) fun g o4 k4=>Fl g 0 t4 (H3.alloc o4) fun g t21=>Bn g .sub t21 (.int .i64 11) fun g t22=>Xl g (k4 H3.next) t22 (H3.alloc o4) fun g t24=>C3 M g (.func qt) [t0_2,t24] (H3.alloc o4) fun g t25 H5=>Ly g E 0 fun g t0_3=>Fl g 2 t4 H5 fun g t28=>Xl g t28 (.int .i64 1) H5 fun g t30=>C3 M g (.func zi) [t0_3,t30,(.int .i64 0)] H5 fun g t31 H6=>GO3 g Q .normal ((4,t4)::E) D H6):=by intro _ _ _ _;refine W_unf ?_;kernel_rfl
theorem qk3:(cProg Tryz.prog).func qac=some qea/\qea.results=[]:=zm (by kernel_rfl)
theorem qk4 (h:W M ⟨none,qac⟩ (qg2 0) true (FIN3 M [] Q) [(0,a0),(1,a1)] [] H):qap M qac [a0,a1] H Q:=callf (by decide) qk3 (ks:=qg1) (by kernel_rfl) h
def qdo:AFunc:=funcAt Tryz.prog km
def qgm:Kp:=⟨[0,1,2],false,[0]⟩
def qgn (k:Nat):Kp × ACode:=(qgm,part qdo.body k)
theorem qa6 (M:Mac) (c:Ctx):(∀ Q E D H,W M c (qgn 0) true Q E D H =
 Lz E 0 fun g t0=>C3 M g (.func qt) [t0,(.str [123,10])] H fun g t7 H1=>Ly g E 0 fun g t0_1=>Ly g E 1 fun g t1=>Ly g E 2 fun g t2=>Bn g .add t2 (.int .i64 1) fun g t11=>C3 M g (.func vt) [t0_1,t1,t11] H1 fun g t12 H2=>Ly g E 0 fun g t0_2=>Ly g E 2 fun g t2_1=>C3 M g (.func vy) [(.str [32,32]),t2_1] H2 fun g t15 H3=>Bn g .add t15 (.str [125]) fun g t16=>C3 M g (.func qt) [t0_2,t16] H3 fun g t17 H4=>GO3 g Q .normal E D H4):=by intro _ _ _ _;refine W_unf ?_;kernel_rfl
theorem qkc:(cProg Tryz.prog).func km=some qdo/\qdo.results=[]:=zm (by kernel_rfl)
theorem qkd (h:W M ⟨none,km⟩ (qgn 0) true (FIN3 M [] Q) [(0,a0),(1,a1),(2,a2)] [] H):qap M km [a0,a1,a2] H Q:=callf (by decide) qkc (ks:=qgm) (by kernel_rfl) h
def qe0:AFunc:=funcAt Tryz.prog qay
def qhv:Kp:=⟨[0,1,4,5,6,7,8,9,10,11,12,13],false,[0,4,8,12]⟩
def vl (k:Nat):Kp × ACode:=(qhv,part qe0.body k)
theorem ql6 (M:Mac) (c:Ctx):(∀ Q E D H,W M c (vl 0) true Q E D H =
 Lz E 0 fun g t0=>Bn g .and t0 (.int .u64 4294967295) fun g t15=>W M c (vl 4) g Q ((6,t15)::(5,(.int .u64 0))::(4,(.int .u64 0))::E) D H) /\
 (∀ Q E D H,W M c (vl 4) true Q E D H =
  Lz E 0 fun g t0=>Bn g .shr t0 (.int .u64 32) fun g t17=>Ly g E 1 fun g t1=>Bn g .and t1 (.int .u64 4294967295) fun g t19=>W M c (vl 8) g Q ((8,t19)::(7,t17)::E) D H) /\
 (∀ Q E D H,W M c (vl 8) true Q E D H =
  Lz E 1 fun g t1=>Bn g .shr t1 (.int .u64 32) fun g t21=>Ly g E 6 fun g t6=>Ly g E 8 fun g t8=>Bn g .mul t6 t8 fun g t24=>W M c (vl 12) g Q ((10,t24)::(9,t21)::E) D H) /\
 (∀ Q E D H,W M c (vl 12) true Q E D H =
  Lz E 7 fun g t7=>Ly g E 8 fun g t8=>Bn g .mul t7 t8 fun g t27=>Ly g E 10 fun g t10=>Bn g .shr t10 (.int .u64 32) fun g t29=>Bn g .add t27 t29 fun g t30=>Bn g .and t30 (.int .u64 4294967295) fun g t32=>Bn g .shr t30 (.int .u64 32) fun g t34=>Ly g E 6 fun g t6=>Ly g E 9 fun g t9=>Bn g .mul t6 t9 fun g t38=>Bn g .add t32 t38 fun g t39=>Ly g E 7 fun g t7_1=>Ly g E 9 fun g t9_1=>Bn g .mul t7_1 t9_1 fun g t42=>Bn g .add t42 t34 fun g t44=>Bn g .shr t39 (.int .u64 32) fun g t46=>Bn g .add t44 t46 fun g t47=>Ly g E 0 fun g t0=>Ly g E 1 fun g t1=>Bn g .mul t0 t1 fun g t50=>GO3 g Q .ret ((5,t50)::(4,t47)::(12,t39)::(13,t34)::(12,t32)::(11,t30)::E) D H):=by (repeat' apply And.intro)<;>(intro _ _ _ _;refine W_unf ?_;kernel_rfl)
theorem ql4:(cProg Tryz.prog).func qay=some qe0/\qe0.results=[.tmp 4,.tmp 5]:=zm (by kernel_rfl)
theorem ql5 (h:W M ⟨none,qay⟩ (vl 0) true (FIN3 M [.tmp 4,.tmp 5] Q) [(0,a0),(1,a1)] [] H):qap M qay [a0,a1] H Q:=callf (by decide) ql4 (ks:=qhv) (by kernel_rfl) h
def wc:AFunc:=funcAt Tryz.prog jx
def qbk:Kp:=⟨[0,1,4],false,[0]⟩
def qbl (k:Nat):Kp × ACode:=(qbk,part wc.body k)
theorem qem (M:Mac) (c:Ctx):(∀ Q E D H,W M c (qbl 0) true Q E D H =
 Lz E 0 fun g t0=>B3 g (Op.lenStr [t0]) fun g t6=>Ly g E 1 fun g t1=>B3 g (Op.lenStr [t1]) fun g t8=>Bn g .geq t6 t8 fun g t9=>JN (fun (k:Bool->AV->AV->AV->AV->AV->AV->AHeap->Prop)=>B3 g (wantV true (some t9)) fun g w=>IG3 g w (fun g=>B3 g (Op.lenStr [t1]) fun g t13=>B3 g ((Op.sliceStr [none,(some 0)]) [t0,t13]) fun g t14=>Bn g .eql t14 t1 fun g t16=>k g t16 t1 t14 t13 t1 t0 H) (fun g=>k g uu uu uu uu uu uu H)) (fun g t16_1 t15_1 t14_1 t13_1 t12_1 t11_1 H1=>B3 g (Op.pick [t9,t16_1,(.bool false)]) fun g t17=>GO3 g Q .ret ((4,t17)::(4,(.bool false))::E) D H1)):=by intro _ _ _ _;refine W_unf ?_;kernel_rfl
theorem qek:(cProg Tryz.prog).func jx=some wc/\wc.results=[.tmp 4]:=zm (by kernel_rfl)
theorem qel (h:W M ⟨none,jx⟩ (qbl 0) true (FIN3 M [.tmp 4] Q) [(0,a0),(1,a1)] [] H):qap M jx [a0,a1] H Q:=callf (by decide) qek (ks:=qbk) (by kernel_rfl) h
def qiz:AFunc:=funcAt Tryz.prog qdx
def qmw:Kp:=⟨[0,2],false,[0]⟩
def qmx (k:Nat):Kp × ACode:=(qmw,part qiz.body k)
theorem qtk (M:Mac) (c:Ctx):(∀ Q E D H,W M c (qmx 0) true Q E D H =
 B32 true ((Op.buildSlice qbi 7 [(.str [])] [(0,1),(1,1),(2,1),(3,1),(4,1),(5,1),(6,1)]) [(.str [43]),(.str [45]),(.str [42]),(.str [38]),(.str [94]),(.str [60,60]),(.str [62,62])]) fun g o1 k1=>Ly g E 0 fun g t0=>Bn g .sub t0 (.int .i64 4) fun g t5=>Xl g (k1 H.next) t5 (H.alloc o1) fun g t7=>GO3 g Q .ret ((2,t7)::(2,(.str []))::E) D (H.alloc o1)):=by intro _ _ _ _;refine W_unf ?_;kernel_rfl
theorem qti:(cProg Tryz.prog).func qdx=some qiz/\qiz.results=[.tmp 2]:=zm (by kernel_rfl)
theorem qtj (h:W M ⟨none,qdx⟩ (qmx 0) true (FIN3 M [.tmp 2] Q) [(0,a0)] [] H):qap M qdx [a0] H Q:=callf (by decide) qti (ks:=qmw) (by kernel_rfl) h
def qkb:AFunc:=funcAt Tryz.prog qes
def qor:Kp:=⟨[0,2,3,4],false,[0,2,18,30,42,49]⟩
def vu (k:Nat):Kp × ACode:=(qor,part qkb.body k)
theorem qvc (M:Mac) (c:Ctx):(∀ Q E D H,W M c (vu 0) true Q E D H =
 W M c (vu 2) true Q ((3,(.int .i64 0))::(2,(.int .i64 0))::E) D H) /\
 (∀ Q E D H,W M c (vu 2) true Q E D H =
  Lz E 0 fun g t0=>Cb g .eql t0 (.str [43]) (fun g=>GO3 g (BLK3 0 (SEQ3 (W M c (vu 49)) Q)) .ret ((3,(.int .i64 1))::(2,(.int .i64 4))::(4,t0)::E) D H) (fun g=>Cb g .eql t0 (.str [45]) (fun g=>GO3 g (BLK3 0 (SEQ3 (W M c (vu 49)) Q)) .ret ((3,(.int .i64 1))::(2,(.int .i64 5))::(4,t0)::E) D H) (fun g=>W M c (vu 18) g (BLK3 0 (SEQ3 (W M c (vu 49)) Q)) ((4,t0)::E) D H))) /\
 (∀ Q E D H,W M c (vu 49) true Q E D H =
  GO3 true Q .ret ((3,(.int .i64 0))::(2,(.int .i64 0))::E) D H) /\
 (∀ Q E D H,W M c (vu 18) true Q E D H =
  Lz E 4 fun g t4=>Cb g .eql t4 (.str [94]) (fun g=>GO3 g Q .ret ((3,(.int .i64 1))::(2,(.int .i64 8))::E) D H) (fun g=>Ly g E 4 fun g t4_1=>Cb g .eql t4_1 (.str [42]) (fun g=>GO3 g Q .ret ((3,(.int .i64 2))::(2,(.int .i64 6))::E) D H) (fun g=>W M c (vu 30) g Q E D H))) /\
 (∀ Q E D H,W M c (vu 30) true Q E D H =
  Lz E 4 fun g t4=>Cb g .eql t4 (.str [38]) (fun g=>GO3 g Q .ret ((3,(.int .i64 2))::(2,(.int .i64 7))::E) D H) (fun g=>Ly g E 4 fun g t4_1=>Cb g .eql t4_1 (.str [60,60]) (fun g=>GO3 g Q .ret ((3,(.int .i64 2))::(2,(.int .i64 9))::E) D H) (fun g=>W M c (vu 42) g Q E D H))) /\
 (∀ Q E D H,W M c (vu 42) true Q E D H =
  Lz E 4 fun g t4=>Cb g .eql t4 (.str [62,62]) (fun g=>GO3 g Q .ret ((3,(.int .i64 2))::(2,(.int .i64 10))::E) D H) (fun g=>GO3 g Q .normal E D H)):=by (repeat' apply And.intro)<;>(intro _ _ _ _;refine W_unf ?_;kernel_rfl)
theorem qva:(cProg Tryz.prog).func qes=some qkb/\qkb.results=[.tmp 2,.tmp 3]:=zm (by kernel_rfl)
theorem qvb (h:W M ⟨none,qes⟩ (vu 0) true (FIN3 M [.tmp 2,.tmp 3] Q) [(0,a0)] [] H):qap M qes [a0] H Q:=callf (by decide) qva (ks:=qor) (by kernel_rfl) h
end
end Go.Am
namespace Go.Am
abbrev qbj:Nat:=8
abbrev qaj:Nat:=23
abbrev qgg:Nat:=58
abbrev qdu:Nat:=22
abbrev yq:Nat:=37
abbrev x5:Nat:=24
abbrev k9:Nat:=39
abbrev kr:Nat:=59
abbrev x1:Nat:=36
abbrev yr:Nat:=38
abbrev zh:Nat:=35
abbrev x8:Nat:=36
abbrev qb1:Nat:=24
abbrev qd4:Nat:=66
abbrev qd5:Nat:=64
noncomputable section
open Go.Proofs Go.Proofs.YtbimikjajohflaaGreatDoor
variable {M:Mac} [MK M] {H:AHeap} {Q:AEnd->AHeap->Prop} {a0 a1 a2:AV}
def qha:AFunc:=funcAt Tryz.prog qbj
def qjw:Kp:=⟨[0,1,3,4,5,6],false,[0,2,10,14,22]⟩
def yj (k:Nat):Kp × ACode:=(qjw,part qha.body k)
theorem qpq (M:Mac) (c:Ctx):(∀ Q E D H,W M c (yj 0) true Q E D H =
 Lz E 1 fun g t1=>A3 g qb1 (AV.cells t1) H fun g t3 H1=>W M c (yj 2) g Q ((5,(.int .i64 0))::(4,.nils)::(3,t3)::E) D H1) /\
 (∀ Q E D H,W M c (yj 2) true Q E D H =
  Lz E 0 fun g t0=>C3 M g (.func qdu) [t0] H fun g t8 H1=>B3 g ((Op.un .not) [t8]) fun g t9=>JN (fun (k:Bool->AV->AV->AV->AHeap->Prop)=>B3 g (wantV false (some t9)) fun g w=>IG3 g w (fun g=>Ly g E 3 fun g t3=>B3 g ((Op.loadN 3) [t3] H1) fun g t11=>C3 M g (.func qaj) [t11] H1 fun g t12 H2=>B3 g ((Op.un .not) [t12]) fun g t13=>k g t13 t12 t11 H2) (fun g=>k g uu uu uu H1)) (fun g t13_1 t12_1 t11_1 H3=>B3 g (Op.pick [t9,(.bool true),t13_1]) fun g t14=>IF3 g t14 (fun g=>GO3 g (SEQ3 (W M c (yj 10)) Q) .ret ((5,(.int .i64 2))::(4,.nils)::E) D H3) (fun g=>Gt g M c (yj 10) Q E D H3))) /\
 (∀ Q E D H,W M c (yj 10) true Q E D H =
  Lz E 0 fun g t0=>Ly g E 3 fun g t3=>B3 g ((Op.loadN 3) [t3] H) fun g t16=>B3 g ((Op.build [.nils,(.int .i64 0),(.int .i64 0),(.int .i64 0),.nils,(.bool false)] [(0,1),(1,3)]) [t0,t16]) fun g t17=>A3 g qd4 (AV.cells t17) H fun g t18 H1=>Ly g E 0 fun g t0_1=>B3 g (Op.lenSl [t0_1]) fun g t21=>Bn g .sub t21 (.int .i64 1) fun g t22=>C3 M g (.func x5) [t18,t22] H1 fun g t23 H2=>W M c (yj 14) g Q ((6,t18)::E) D H2) /\
 (∀ Q E D H,W M c (yj 14) true Q E D H =
  Lz E 6 fun g t6=>Nf g 5 t6 H fun g t27=>JN (fun (k:Bool->AV->AV->AV->AV->AV->AV->AHeap->Prop)=>B3 g (wantV false (some t27)) fun g w=>IG3 g w (fun g=>B3 g (Op.nilCheck [t6]) fun g t30=>B3 g ((Op.fieldAddr 4) [t30]) fun g t31=>B3 g (Op.load1 [t31] H) fun g t32=>B3 g (Op.lenSl [t32]) fun g t33=>Bn g .gtr t33 (.int .i64 1024) fun g t34=>k g t34 t33 t32 t31 t30 t6 H) (fun g=>k g uu uu uu uu uu uu H)) (fun g t34_1 t33_1 t32_1 t31_1 t30_1 t29_1 H1=>B3 g (Op.pick [t27,(.bool true),t34_1]) fun g t35=>IF3 g t35 (fun g=>GO3 g (SEQ3 (W M c (yj 22)) Q) .ret ((5,(.int .i64 210))::(4,.nils)::E) D H1) (fun g=>Gt g M c (yj 22) Q E D H1))) /\
 (∀ Q E D H,W M c (yj 22) true Q E D H =
  Lz E 6 fun g t6=>Nf g 4 t6 H fun g t39=>GO3 g Q .ret ((5,(.int .i64 0))::(4,t39)::E) D H):=by (repeat' apply And.intro)<;>(intro _ _ _ _;refine W_unf ?_;kernel_rfl)
theorem qpo:(cProg Tryz.prog).func qbj=some qha/\qha.results=[.tmp 4,.tmp 5]:=zm (by kernel_rfl)
theorem qpp (h:W M ⟨none,qbj⟩ (yj 0) true (FIN3 M [.tmp 4,.tmp 5] Q) [(0,a0),(1,a1)] [] H):qap M qbj [a0,a1] H Q:=callf (by decide) qpo (ks:=qjw) (by kernel_rfl) h
def qis:AFunc:=funcAt Tryz.prog qdu
def qmh:Kp:=⟨[0,2,4],false,[0]⟩
def qmi (k:Nat):Kp × ACode:=(qmh,part qis.body k)
theorem qsu (M:Mac) (c:Ctx):(∀ Q E D H,W M c (qmi 0) true Q E D H =
 Lz E 0 fun g t0=>C3 M g (.func qau) [t0] H fun g t7 H1=>B3 g ((Op.extract 0) [t7]) fun g t8=>B3 g ((Op.extract 1) [t7]) fun g t9=>Bn g .eql t9 (.int .i64 0) fun g t11=>GO3 g Q .ret ((2,t11)::(4,t9)::(2,(.bool false))::E) D H1):=by intro _ _ _ _;refine W_unf ?_;kernel_rfl
theorem qss:(cProg Tryz.prog).func qdu=some qis/\qis.results=[.tmp 2]:=zm (by kernel_rfl)
theorem qst (h:W M ⟨none,qdu⟩ (qmi 0) true (FIN3 M [.tmp 2] Q) [(0,a0)] [] H):qap M qdu [a0] H Q:=callf (by decide) qss (ks:=qmh) (by kernel_rfl) h
def qff:AFunc:=funcAt Tryz.prog qaj
def qif:Kp:=⟨[0,1,2],false,[0,2,10]⟩
def qal (k:Nat):Kp × ACode:=(qif,part qff.body k)
theorem qm8 (M:Mac) (c:Ctx):(∀ Q E D H,W M c (qal 0) true Q E D H =
 Lz E 0 fun g t0=>A3 g qb1 (AV.cells t0) H fun g t1 H1=>W M c (qal 2) g Q ((2,(.bool false))::(1,t1)::E) D H1) /\
 (∀ Q E D H,W M c (qal 2) true Q E D H =
  Lz E 1 fun g t1=>Fl g 0 t1 H fun g t4=>Bn g .lss t4 (.int .i64 0) fun g t5=>JN (fun (k:Bool->AV->AV->AV->AHeap->Prop)=>B3 g (wantV false (some t5)) fun g w=>IG3 g w (fun g=>B3 g ((Op.fieldAddr 0) [t1]) fun g t7=>B3 g (Op.load1 [t7] H) fun g t8=>Bn g .gtr t8 (.int .i64 4096) fun g t9=>k g t9 t8 t7 H) (fun g=>k g uu uu uu H)) (fun g t9_1 t8_1 t7_1 H1=>B3 g (Op.pick [t5,(.bool true),t9_1]) fun g t10=>JN (fun (k:Bool->AV->AV->AV->AHeap->Prop)=>B3 g (wantV false (some t10)) fun g w=>IG3 g w (fun g=>B3 g ((Op.fieldAddr 1) [t1]) fun g t12=>B3 g (Op.load1 [t12] H1) fun g t13=>Bn g .lss t13 (.int .i64 0) fun g t14=>k g t14 t13 t12 H1) (fun g=>k g uu uu uu H1)) (fun g t14_1 t13_1 t12_1 H2=>B3 g (Op.pick [t10,(.bool true),t14_1]) fun g t15=>JN (fun (k:Bool->AV->AV->AV->AHeap->Prop)=>B3 g (wantV false (some t15)) fun g w=>IG3 g w (fun g=>B3 g ((Op.fieldAddr 1) [t1]) fun g t17=>B3 g (Op.load1 [t17] H2) fun g t18=>Bn g .gtr t18 (.int .i64 4096) fun g t19=>k g t19 t18 t17 H2) (fun g=>k g uu uu uu H2)) (fun g t19_1 t18_1 t17_1 H3=>B3 g (Op.pick [t15,(.bool true),t19_1]) fun g t20=>JN (fun (k:Bool->AV->AV->AV->AHeap->Prop)=>B3 g (wantV false (some t20)) fun g w=>IG3 g w (fun g=>B3 g ((Op.fieldAddr 2) [t1]) fun g t22=>B3 g (Op.load1 [t22] H3) fun g t23=>Bn g .lss t23 (.int .i64 0) fun g t24=>k g t24 t23 t22 H3) (fun g=>k g uu uu uu H3)) (fun g t24_1 t23_1 t22_1 H4=>B3 g (Op.pick [t20,(.bool true),t24_1]) fun g t25=>JN (fun (k:Bool->AV->AV->AV->AHeap->Prop)=>B3 g (wantV false (some t25)) fun g w=>IG3 g w (fun g=>B3 g ((Op.fieldAddr 2) [t1]) fun g t27=>B3 g (Op.load1 [t27] H4) fun g t28=>Bn g .gtr t28 (.int .i64 4096) fun g t29=>k g t29 t28 t27 H4) (fun g=>k g uu uu uu H4)) (fun g t29_1 t28_1 t27_1 H5=>B3 g (Op.pick [t25,(.bool true),t29_1]) fun g t30=>IF3 g t30 (fun g=>GO3 g (SEQ3 (W M c (qal 10)) Q) .ret ((2,(.bool false))::E) D H5) (fun g=>Gt g M c (qal 10) Q E D H5))))))) /\
 (∀ Q E D H,W M c (qal 10) true Q E D H =
  Lz E 1 fun g t1=>Fl g 2 t1 H fun g t32=>Bn g .eql t32 (.int .i64 0) fun g t33=>JN (fun (k:Bool->AV->AV->AV->AV->AV->AV->AHeap->Prop)=>B3 g (wantV false (some t33)) fun g w=>IG3 g w (fun g=>B3 g ((Op.fieldAddr 0) [t1]) fun g t35=>B3 g (Op.load1 [t35] H) fun g t36=>Bn g .add t36 (.int .i64 8) fun g t37=>B3 g ((Op.fieldAddr 1) [t1]) fun g t38=>B3 g (Op.load1 [t38] H) fun g t39=>Bn g .leq t37 t39 fun g t40=>k g t40 t39 t38 t37 t36 t35 H) (fun g=>k g uu uu uu uu uu uu H)) (fun g t40_1 t39_1 t38_1 t37_1 t36_1 t35_1 H1=>B3 g (Op.pick [t33,(.bool true),t40_1]) fun g t41=>JN (fun (k:Bool->AV->AV->AV->AV->AV->AV->AV->AV->AHeap->Prop)=>B3 g (wantV false (some t41)) fun g w=>IG3 g w (fun g=>B3 g ((Op.fieldAddr 1) [t1]) fun g t43=>B3 g (Op.load1 [t43] H1) fun g t44=>B3 g ((Op.fieldAddr 2) [t1]) fun g t45=>B3 g (Op.load1 [t45] H1) fun g t46=>Bn g .add t44 t46 fun g t47=>B3 g ((Op.fieldAddr 0) [t1]) fun g t48=>B3 g (Op.load1 [t48] H1) fun g t49=>Bn g .leq t47 t49 fun g t50=>k g t50 t49 t48 t47 t46 t45 t44 t43 H1) (fun g=>k g uu uu uu uu uu uu uu uu H1)) (fun g t50_1 t49_1 t48_1 t47_1 t46_1 t45_1 t44_1 t43_1 H2=>B3 g (Op.pick [t41,(.bool true),t50_1]) fun g t51=>GO3 g Q .ret ((2,t51)::E) D H2))):=by (repeat' apply And.intro)<;>(intro _ _ _ _;refine W_unf ?_;kernel_rfl)
theorem qm6:(cProg Tryz.prog).func qaj=some qff/\qff.results=[.tmp 2]:=zm (by kernel_rfl)
theorem qm7 (h:W M ⟨none,qaj⟩ (qal 0) true (FIN3 M [.tmp 2] Q) [(0,a0)] [] H):qap M qaj [a0] H Q:=callf (by decide) qm6 (ks:=qif) (by kernel_rfl) h
def qfg:AFunc:=funcAt Tryz.prog x5
def qig:Kp:=⟨[0,1,4,6,7,8,9,10,19,23,24,25],false,[0,8,12,18,23,24,40,45,61,70]⟩
def xw (k:Nat):Kp × ACode:=(qig,part qfg.body k)
theorem v7 (M:Mac) (c:Ctx):(∀ Q E D H,W M c (xw 0) true Q E D H =
 Lz E 0 fun g t0=>Nf g 0 t0 H fun g t14=>Ly g E 1 fun g t1=>B3 g ((Op.indexSl 3) [t14,t1]) fun g t16=>B3 g ((Op.loadN 3) [t16] H) fun g t17=>A3 g xr [(.int .i64 0),(.int .u64 0),.nils] H fun g t4 H1=>B32 g ((Op.store 3) [t4,t17] H1) fun g u H2=>Fl g 0 t4 H2 fun g t19=>Cb g .eql t19 (.int .i64 20) (fun g=>W M c (xw 8) g (BLK3 0 Q) ((19,t19)::(4,t4)::E) D H2) (fun g=>W M c (xw 24) g (BLK3 0 Q) ((19,t19)::(4,t4)::E) D H2)) /\
 (∀ Q E D H,W M c (xw 8) true Q E D H =
  Lz E 4 fun g t4=>Fl g 2 t4 H fun g t23=>B3 g (Op.lenSl [t23]) fun g t24=>LOOP3 (W M c (xw 12)) (BLK3 1 Q) ((25,(.int .i64 0))::(24,t24)::(23,t23)::E) D H) /\
 (∀ Q E D H,W M c (xw 24) true Q E D H =
  Lz E 19 fun g t19=>Cb g .eql t19 (.int .i64 14) (fun g=>Ly g E 0 fun g t0=>Ly g E 4 fun g t4=>Fl g 2 t4 H fun g t37=>Xl g t37 (.int .i64 0) H fun g t39=>C3 M g (.func zh) [t0,t39,(.int .i64 0)] H fun g t40 H1=>Ly g E 0 fun g t0_1=>B3 g (Op.nilCheck [t0_1]) fun g t43=>B3 g ((Op.fieldAddr 1) [t43]) fun g t44=>Fl g 0 t44 H1 fun g t46=>Ly g E 4 fun g t4_1=>Fl g 1 t4_1 H1 fun g t48=>B3 g ((Op.wrap .i64) [t48]) fun g t49=>Bn g .add t46 t49 fun g t50=>B3 g ((Op.build [(.int .i64 0),(.int .i64 0),(.int .i64 0),(.int .i64 0),(.int .i64 0)] [(0,1),(1,1),(2,1),(4,1)]) [(.int .i64 12),(.int .i64 0),(.int .i64 7),t50]) fun g t51=>B32 g ((Op.buildSlice x8 1 [(.int .i64 0),(.int .i64 0),(.int .i64 0),(.int .i64 0),(.int .i64 0)] [(0,5)]) [t51]) fun g o2 k2=>C3 M g (.func x1) [t0_1,(k2 H1.next)] (H1.alloc o2) fun g t53 H3=>GO3 g Q .normal E D H3) (fun g=>Ly g E 19 fun g t19_1=>Cb g .eql t19_1 (.int .i64 15) (fun g=>Ly g E 0 fun g t0=>Ly g E 4 fun g t4=>Fl g 2 t4 H fun g t58=>Xl g t58 (.int .i64 0) H fun g t60=>C3 M g (.func zh) [t0,t60,(.int .i64 0)] H fun g t61 H1=>Ly g E 0 fun g t0_1=>Ly g E 4 fun g t4_1=>Fl g 2 t4_1 H1 fun g t64=>Xl g t64 (.int .i64 1) H1 fun g t66=>C3 M g (.func zh) [t0_1,t66,(.int .i64 1)] H1 fun g t67 H2=>Ly g E 0 fun g t0_2=>C3 M g (.func yq) [t0_2,(.int .i64 0)] H2 fun g t69 H3=>Ly g E 0 fun g t0_3=>B3 g (Op.nilCheck [t0_3]) fun g t72=>B3 g ((Op.fieldAddr 1) [t72]) fun g t73=>Fl g 1 t73 H3 fun g t75=>B3 g ((Op.build [(.int .i64 0),(.int .i64 0),(.int .i64 0),(.int .i64 0),(.int .i64 0)] [(0,1),(1,1),(2,1),(4,1)]) [(.int .i64 12),(.int .i64 1),(.int .i64 0),t75]) fun g t76=>B32 g ((Op.buildSlice x8 1 [(.int .i64 0),(.int .i64 0),(.int .i64 0),(.int .i64 0),(.int .i64 0)] [(0,5)]) [t76]) fun g o4 k4=>C3 M g (.func x1) [t0_3,(k4 H3.next)] (H3.alloc o4) fun g t78 H5=>GO3 g Q .normal E D H5) (fun g=>W M c (xw 40) g Q E D H))) /\
 (∀ Q E D H,W M c (xw 12) true Q E D H =
  Lz E 25 fun g t25=>Ly g E 24 fun g t24=>Cb g .lss t25 t24 (fun g=>Gt g M c (xw 18) Q E D H) (fun g=>GO3 g (SEQ3 (W M c (xw 18)) Q) (.exit 1) E D H)) /\
 (∀ Q E D H,W M c (xw 40) true Q E D H =
  Lz E 19 fun g t19=>Cb g .eql t19 (.int .i64 16) (fun g=>Ly g E 0 fun g t0=>Ly g E 4 fun g t4=>Fl g 2 t4 H fun g t83=>Xl g t83 (.int .i64 0) H fun g t85=>C3 M g (.func yr) [t0,t85] H fun g t86 H1=>W M c (xw 45) g Q ((7,t86)::E) D H1) (fun g=>Ly g E 19 fun g t19_1=>Cb g .eql t19_1 (.int .i64 17) (fun g=>W M c (xw 61) g Q E D H) (fun g=>W M c (xw 70) g Q E D H))) /\
 (∀ Q E D H,W M c (xw 18) true Q E D H =
  Lz E 23 fun g t23=>Ly g E 25 fun g t25=>Xl g t23 t25 H fun g t28=>Ly g E 0 fun g t0=>C3 M g (.func x5) [t0,t28] H fun g t31 H1=>GO3 g (BLK3 2 (SEQ3 (W M c (xw 23)) Q)) .normal ((6,t28)::E) D H1) /\
 (∀ Q E D H,W M c (xw 45) true Q E D H =
  Lz E 0 fun g t0=>Ly g E 4 fun g t4=>Fl g 2 t4 H fun g t89=>Xl g t89 (.int .i64 1) H fun g t91=>C3 M g (.func x5) [t0,t91] H fun g t92 H1=>Ly g E 4 fun g t4_1=>Fl g 2 t4_1 H1 fun g t94=>B3 g (Op.lenSl [t94]) fun g t95=>Cb g .eql t95 (.int .i64 3) (fun g=>Ly g E 0 fun g t0_1=>B3 g ((Op.build [(.int .i64 0),(.int .i64 0),(.int .i64 0),(.int .i64 0),(.int .i64 0)] [(0,1)]) [(.int .i64 13)]) fun g t98=>C3 M g (.func k9) [t0_1,t98] H1 fun g t99 H2=>Ly g E 7 fun g t7=>V3 g [t7] fun g f vs=>C3 M g f vs H2 fun g t101 H3=>Ly g E 0 fun g t0_2=>Ly g E 4 fun g t4_2=>Fl g 2 t4_2 H3 fun g t104=>Xl g t104 (.int .i64 2) H3 fun g t106=>C3 M g (.func x5) [t0_2,t106] H3 fun g t107 H4=>V3 g [t99] fun g f vs=>C3 M g f vs H4 fun g t109 H5=>GO3 g Q .normal ((8,t99)::E) D H5) (fun g=>Ly g E 7 fun g t7=>V3 g [t7] fun g f vs=>C3 M g f vs H1 fun g t111 H2=>GO3 g Q .normal E D H2)) /\
 (∀ Q E D H,W M c (xw 61) true Q E D H =
  Lz E 0 fun g t0=>Nf g 4 t0 H fun g t117=>B3 g (Op.lenSl [t117]) fun g t118=>Ly g E 0 fun g t0_1=>Ly g E 4 fun g t4=>Fl g 2 t4 H fun g t121=>Xl g t121 (.int .i64 0) H fun g t123=>C3 M g (.func yr) [t0_1,t123] H fun g t124 H1=>Ly g E 0 fun g t0_2=>Ly g E 4 fun g t4_1=>Fl g 2 t4_1 H1 fun g t127=>Xl g t127 (.int .i64 1) H1 fun g t129=>C3 M g (.func x5) [t0_2,t129] H1 fun g t130 H2=>Ly g E 0 fun g t0_3=>B3 g ((Op.build [(.int .i64 0),(.int .i64 0),(.int .i64 0),(.int .i64 0),(.int .i64 0)] [(0,1),(4,1)]) [(.int .i64 13),t118]) fun g t133=>B32 g ((Op.buildSlice x8 1 [(.int .i64 0),(.int .i64 0),(.int .i64 0),(.int .i64 0),(.int .i64 0)] [(0,5)]) [t133]) fun g o3 k3=>C3 M g (.func x1) [t0_3,(k3 H2.next)] (H2.alloc o3) fun g t135 H4=>V3 g [t124] fun g f vs=>C3 M g f vs H4 fun g t137 H5=>GO3 g Q .normal ((10,t124)::(9,t118)::E) D H5) /\
 (∀ Q E D H,W M c (xw 70) true Q E D H =
  Lz E 19 fun g t19=>Cb g .eql t19 (.int .i64 18) (fun g=>Ly g E 0 fun g t0=>B3 g ((Op.build [(.int .i64 0),(.int .i64 0),(.int .i64 0),(.int .i64 0),(.int .i64 0)] [(0,1)]) [(.int .i64 17)]) fun g t141=>B32 g ((Op.buildSlice x8 1 [(.int .i64 0),(.int .i64 0),(.int .i64 0),(.int .i64 0),(.int .i64 0)] [(0,5)]) [t141]) fun g o1 k1=>C3 M g (.func x1) [t0,(k1 H.next)] (H.alloc o1) fun g t143 H2=>Ly g E 0 fun g t0_1=>Ly g E 4 fun g t4=>Fl g 2 t4 H2 fun g t146=>Xl g t146 (.int .i64 0) H2 fun g t148=>C3 M g (.func x5) [t0_1,t148] H2 fun g t149 H3=>Ly g E 0 fun g t0_2=>B3 g ((Op.build [(.int .i64 0),(.int .i64 0),(.int .i64 0),(.int .i64 0),(.int .i64 0)] [(0,1)]) [(.int .i64 18)]) fun g t151=>B32 g ((Op.buildSlice x8 1 [(.int .i64 0),(.int .i64 0),(.int .i64 0),(.int .i64 0),(.int .i64 0)] [(0,5)]) [t151]) fun g o4 k4=>C3 M g (.func x1) [t0_2,(k4 H3.next)] (H3.alloc o4) fun g t153 H5=>GO3 g Q .normal E D H5) (fun g=>Ly g E 19 fun g t19_1=>Cb g .eql t19_1 (.int .i64 19) (fun g=>Ly g E 0 fun g t0=>B3 g ((Op.build [(.int .i64 0),(.int .i64 0),(.int .i64 0),(.int .i64 0),(.int .i64 0)] [(0,1)]) [(.int .i64 1)]) fun g t157=>B32 g ((Op.buildSlice x8 1 [(.int .i64 0),(.int .i64 0),(.int .i64 0),(.int .i64 0),(.int .i64 0)] [(0,5)]) [t157]) fun g o1 k1=>C3 M g (.func x1) [t0,(k1 H.next)] (H.alloc o1) fun g t159 H2=>GO3 g Q .normal E D H2) (fun g=>GO3 g Q .normal E D H))) /\
 (∀ Q E D H,W M c (xw 23) true Q E D H =
  Lz E 25 fun g t25=>Bn g .add t25 (.int .i64 1) fun g t32=>GO3 g Q .normal ((25,t32)::E) D H):=by (repeat' apply And.intro)<;>(intro _ _ _ _;refine W_unf ?_;kernel_rfl)
theorem qm9:(cProg Tryz.prog).func x5=some qfg/\qfg.results=[]:=zm (by kernel_rfl)
theorem vz (h:W M ⟨none,x5⟩ (xw 0) true (FIN3 M [] Q) [(0,a0),(1,a1)] [] H):qap M x5 [a0,a1] H Q:=callf (by decide) qm9 (ks:=qig) (by kernel_rfl) h
def qdm:AFunc:=funcAt Tryz.prog zh
def qgh:Kp:=⟨[0,1,2,6,20],false,[0,8,17,29]⟩
def ko (k:Nat):Kp × ACode:=(qgh,part qdm.body k)
theorem qa5 (M:Mac) (c:Ctx):(∀ Q E D H,W M c (ko 0) true Q E D H =
 Lz E 2 fun g t2=>Cb g .geq t2 (.int .i64 6) (fun g=>Ly g E 0 fun g t0=>Ns g 5 t0 (.bool true) H fun g u H1=>GO3 g (SEQ3 (W M c (ko 8)) Q) .ret E D H1) (fun g=>Gt g M c (ko 8) Q E D H)) /\
 (∀ Q E D H,W M c (ko 8) true Q E D H =
  Lz E 0 fun g t0=>Nf g 0 t0 H fun g t15=>Ly g E 1 fun g t1=>B3 g ((Op.indexSl 3) [t15,t1]) fun g t17=>B3 g ((Op.loadN 3) [t17] H) fun g t18=>A3 g xr [(.int .i64 0),(.int .u64 0),.nils] H fun g t6 H1=>B32 g ((Op.store 3) [t6,t18] H1) fun g u H2=>Fl g 0 t6 H2 fun g t20=>Cb g .eql t20 (.int .i64 1) (fun g=>Ly g E 0 fun g t0_1=>Ly g E 2 fun g t2=>Fl g 1 t6 H2 fun g t52=>B3 g ((Op.wrap .i64) [t52]) fun g t53=>B3 g ((Op.build [(.int .i64 0),(.int .i64 0),(.int .i64 0),(.int .i64 0),(.int .i64 0)] [(0,1),(1,1),(4,1)]) [(.int .i64 2),t2,t53]) fun g t54=>B32 g ((Op.buildSlice x8 1 [(.int .i64 0),(.int .i64 0),(.int .i64 0),(.int .i64 0),(.int .i64 0)] [(0,5)]) [t54]) fun g o3 k3=>C3 M g (.func x1) [t0_1,(k3 H2.next)] (H2.alloc o3) fun g t56 H4=>GO3 g (BLK3 0 Q) .normal ((20,t20)::(6,t6)::E) D H4) (fun g=>W M c (ko 17) g (BLK3 0 Q) ((20,t20)::(6,t6)::E) D H2)) /\
 (∀ Q E D H,W M c (ko 17) true Q E D H =
  Lz E 20 fun g t20=>Cb g .eql t20 (.int .i64 2) (fun g=>Ly g E 0 fun g t0=>Ly g E 2 fun g t2=>B3 g (Op.nilCheck [t0]) fun g t62=>B3 g ((Op.fieldAddr 1) [t62]) fun g t63=>Fl g 0 t63 H fun g t65=>Ly g E 6 fun g t6=>Fl g 1 t6 H fun g t67=>B3 g ((Op.wrap .i64) [t67]) fun g t68=>Bn g .add t65 t68 fun g t69=>B3 g ((Op.build [(.int .i64 0),(.int .i64 0),(.int .i64 0),(.int .i64 0),(.int .i64 0)] [(0,1),(1,1),(2,1),(4,1)]) [(.int .i64 11),t2,(.int .i64 7),t69]) fun g t70=>B32 g ((Op.buildSlice x8 1 [(.int .i64 0),(.int .i64 0),(.int .i64 0),(.int .i64 0),(.int .i64 0)] [(0,5)]) [t70]) fun g o1 k1=>C3 M g (.func x1) [t0,(k1 H.next)] (H.alloc o1) fun g t72 H2=>GO3 g Q .normal E D H2) (fun g=>Ly g E 20 fun g t20_1=>Cb g .eql t20_1 (.int .i64 3) (fun g=>Ly g E 0 fun g t0=>Ly g E 6 fun g t6=>Fl g 2 t6 H fun g t77=>Xl g t77 (.int .i64 0) H fun g t79=>Ly g E 2 fun g t2=>C3 M g (.func zh) [t0,t79,t2] H fun g t81 H1=>Ly g E 0 fun g t0_1=>Ly g E 2 fun g t2_1=>C3 M g (.func yq) [t0_1,t2_1] H1 fun g t84 H2=>Ly g E 0 fun g t0_2=>Ly g E 2 fun g t2_2=>B3 g (Op.nilCheck [t0_2]) fun g t89=>B3 g ((Op.fieldAddr 1) [t89]) fun g t90=>Fl g 1 t90 H2 fun g t92=>B3 g ((Op.build [(.int .i64 0),(.int .i64 0),(.int .i64 0),(.int .i64 0),(.int .i64 0)] [(0,1),(1,1),(2,1),(4,1)]) [(.int .i64 11),t2_2,t2_2,t92]) fun g t93=>B32 g ((Op.buildSlice x8 1 [(.int .i64 0),(.int .i64 0),(.int .i64 0),(.int .i64 0),(.int .i64 0)] [(0,5)]) [t93]) fun g o3 k3=>C3 M g (.func x1) [t0_2,(k3 H2.next)] (H2.alloc o3) fun g t95 H4=>GO3 g Q .normal E D H4) (fun g=>W M c (ko 29) g Q E D H))) /\
 (∀ Q E D H,W M c (ko 29) true Q E D H =
  Lz E 0 fun g t0=>Ly g E 6 fun g t6=>Fl g 2 t6 H fun g t23=>Xl g t23 (.int .i64 0) H fun g t25=>Ly g E 2 fun g t2=>C3 M g (.func zh) [t0,t25,t2] H fun g t27 H1=>Ly g E 0 fun g t0_1=>Ly g E 6 fun g t6_1=>Fl g 2 t6_1 H1 fun g t30=>Xl g t30 (.int .i64 1) H1 fun g t32=>Ly g E 2 fun g t2_1=>Bn g .add t2_1 (.int .i64 1) fun g t34=>C3 M g (.func zh) [t0_1,t32,t34] H1 fun g t35 H2=>Ly g E 0 fun g t0_2=>Ly g E 6 fun g t6_2=>Fl g 0 t6_2 H2 fun g t38=>C3 M g (.func qgg) [t38] H2 fun g t39 H3=>Ly g E 2 fun g t2_2=>Bn g .add t2_2 (.int .i64 1) fun g t43=>B3 g ((Op.build [(.int .i64 0),(.int .i64 0),(.int .i64 0),(.int .i64 0),(.int .i64 0)] [(0,1),(1,1),(2,1),(3,1)]) [t39,t2_2,t2_2,t43]) fun g t44=>B32 g ((Op.buildSlice x8 1 [(.int .i64 0),(.int .i64 0),(.int .i64 0),(.int .i64 0),(.int .i64 0)] [(0,5)]) [t44]) fun g o4 k4=>C3 M g (.func x1) [t0_2,(k4 H3.next)] (H3.alloc o4) fun g t46 H5=>GO3 g Q .normal E D H5):=by (repeat' apply And.intro)<;>(intro _ _ _ _;refine W_unf ?_;kernel_rfl)
theorem qj6:(cProg Tryz.prog).func zh=some qdm/\qdm.results=[]:=zm (by kernel_rfl)
theorem qa4 (h:W M ⟨none,zh⟩ (ko 0) true (FIN3 M [] Q) [(0,a0),(1,a1),(2,a2)] [] H):qap M zh [a0,a1,a2] H Q:=callf (by decide) qj6 (ks:=qgh) (by kernel_rfl) h
def qeu:AFunc:=funcAt Tryz.prog x1
def qhf:Kp:=⟨[0,1],false,[0]⟩
def qhg (k:Nat):Kp × ACode:=(qhf,part qeu.body k)
theorem qlw (M:Mac) (c:Ctx):(∀ Q E D H,W M c (qhg 0) true Q E D H =
 Lz E 0 fun g t0=>Nf g 4 t0 H fun g t8=>Ly g E 1 fun g t1=>B32 g ((Op.append x8 5 40) [t8,t1] H) fun g t10 H1=>Ns g 4 t0 t10 H1 fun g u H2=>GO3 g Q .normal E D H2):=by intro _ _ _ _;refine W_unf ?_;kernel_rfl
theorem qlu:(cProg Tryz.prog).func x1=some qeu/\qeu.results=[]:=zm (by kernel_rfl)
theorem qlv (h:W M ⟨none,x1⟩ (qhg 0) true (FIN3 M [] Q) [(0,a0),(1,a1)] [] H):qap M x1 [a0,a1] H Q:=callf (by decide) qlu (ks:=qhf) (by kernel_rfl) h
def qda:AFunc:=funcAt Tryz.prog yq
def qfo:Kp:=⟨[0,1,4],false,[0]⟩
def qfp (k:Nat):Kp × ACode:=(qfo,part qda.body k)
theorem qjm (M:Mac) (c:Ctx):(∀ Q E D H,W M c (qfp 0) true Q E D H =
 Lz E 0 fun g t0=>B3 g (Op.nilCheck [t0]) fun g t7=>B3 g ((Op.fieldAddr 1) [t7]) fun g t8=>Fl g 2 t8 H fun g t10=>B3 g ((Op.build [(.int .i64 0),(.int .i64 0),(.int .i64 0),(.int .i64 0),(.int .i64 0)] [(0,1),(1,1),(4,1)]) [(.int .i64 2),(.int .i64 6),t10]) fun g t11=>B32 g ((Op.buildSlice x8 1 [(.int .i64 0),(.int .i64 0),(.int .i64 0),(.int .i64 0),(.int .i64 0)] [(0,5)]) [t11]) fun g o1 k1=>C3 M g (.func x1) [t0,(k1 H.next)] (H.alloc o1) fun g t13 H2=>Ly g E 0 fun g t0_1=>Ly g E 1 fun g t1=>B3 g ((Op.build [(.int .i64 0),(.int .i64 0),(.int .i64 0),(.int .i64 0),(.int .i64 0)] [(0,1),(1,1),(2,1)]) [(.int .i64 16),t1,(.int .i64 6)]) fun g t16=>C3 M g (.func k9) [t0_1,t16] H2 fun g t17 H3=>Ly g E 0 fun g t0_2=>B3 g ((Op.build [(.int .i64 0),(.int .i64 0),(.int .i64 0),(.int .i64 0),(.int .i64 0)] []) []) fun g t19=>B32 g ((Op.buildSlice x8 1 [(.int .i64 0),(.int .i64 0),(.int .i64 0),(.int .i64 0),(.int .i64 0)] [(0,5)]) [t19]) fun g o4 k4=>C3 M g (.func x1) [t0_2,(k4 H3.next)] (H3.alloc o4) fun g t21 H5=>V3 g [t17] fun g f vs=>C3 M g f vs H5 fun g t23 H6=>GO3 g Q .normal ((4,t17)::E) D H6):=by intro _ _ _ _;refine W_unf ?_;kernel_rfl
theorem qjk:(cProg Tryz.prog).func yq=some qda/\qda.results=[]:=zm (by kernel_rfl)
theorem qjl (h:W M ⟨none,yq⟩ (qfp 0) true (FIN3 M [] Q) [(0,a0),(1,a1)] [] H):qap M yq [a0,a1] H Q:=callf (by decide) qjk (ks:=qfo) (by kernel_rfl) h
def qdc:AFunc:=funcAt Tryz.prog yr
def qfs:Kp:=⟨[0,1,4,5,6,7],false,[0,4]⟩
def qbn (k:Nat):Kp × ACode:=(qfs,part qdc.body k)
theorem qjs (M:Mac) (c:Ctx):(∀ Q E D H,W M c (qbn 0) true Q E D H =
 Lz E 0 fun g t0=>Nf g 0 t0 H fun g t11=>Ly g E 1 fun g t1=>B3 g ((Op.indexSl 3) [t11,t1]) fun g t13=>B3 g ((Op.loadN 3) [t13] H) fun g t14=>A3 g xr [(.int .i64 0),(.int .u64 0),.nils] H fun g t5 H1=>B32 g ((Op.store 3) [t5,t14] H1) fun g u H2=>W M c (qbn 4) g Q ((5,t5)::(4,.nilf)::E) D H2) /\
 (∀ Q E D H,W M c (qbn 4) true Q E D H =
  Lz E 0 fun g t0=>Ly g E 5 fun g t5=>Fl g 2 t5 H fun g t17=>Xl g t17 (.int .i64 0) H fun g t19=>C3 M g (.func zh) [t0,t19,(.int .i64 0)] H fun g t20 H1=>Ly g E 0 fun g t0_1=>Ly g E 5 fun g t5_1=>Fl g 2 t5_1 H1 fun g t23=>Xl g t23 (.int .i64 1) H1 fun g t25=>C3 M g (.func zh) [t0_1,t25,(.int .i64 1)] H1 fun g t26 H2=>Ly g E 0 fun g t0_2=>Ly g E 5 fun g t5_2=>Fl g 0 t5_2 H2 fun g t29=>C3 M g (.func qgg) [t29] H2 fun g t30 H3=>B3 g ((Op.build [(.int .i64 0),(.int .i64 0),(.int .i64 0),(.int .i64 0),(.int .i64 0)] [(0,1),(1,1),(2,1)]) [t30,(.int .i64 0),(.int .i64 1)]) fun g t31=>C3 M g (.func k9) [t0_2,t31] H3 fun g t32 H4=>Ly g E 0 fun g t0_3=>B3 g ((Op.build [(.int .i64 0),(.int .i64 0),(.int .i64 0),(.int .i64 0),(.int .i64 0)] [(0,1)]) [(.int .i64 13)]) fun g t34=>C3 M g (.func k9) [t0_3,t34] H4 fun g t35 H5=>V3 g [t32] fun g f vs=>C3 M g f vs H5 fun g t37 H6=>GO3 g Q .ret ((4,t35)::(7,t35)::(6,t32)::E) D H6):=by (repeat' apply And.intro)<;>(intro _ _ _ _;refine W_unf ?_;kernel_rfl)
theorem qjq:(cProg Tryz.prog).func yr=some qdc/\qdc.results=[.tmp 4]:=zm (by kernel_rfl)
theorem qjr (h:W M ⟨none,yr⟩ (qbn 0) true (FIN3 M [.tmp 4] Q) [(0,a0),(1,a1)] [] H):qap M yr [a0,a1] H Q:=callf (by decide) qjq (ks:=qfs) (by kernel_rfl) h
def qd8:AFunc:=funcAt Tryz.prog k9
def qgy:Kp:=⟨[0,1,2,3,4,5],false,[0]⟩
def qgz (k:Nat):Kp × ACode:=(qgy,part qd8.body k)
theorem qkv (M:Mac) (c:Ctx):(∀ Q E D H,W M c (qgz 0) true Q E D H =
 Lz E 0 fun g t0=>A3 g qd5 (AV.cells t0) H fun g t2 H1=>Ly g E 1 fun g t1=>A3 g x8 (AV.cells t1) H1 fun g t3 H2=>B3 g (Op.load1 [t2] H2) fun g t6=>Nf g 4 t6 H2 fun g t9=>B3 g (Op.lenSl [t9]) fun g t10=>A3 g T_int [(.int .i64 0)] H2 fun g t5 H3=>B32 g ((Op.store 1) [t5,t10] H3) fun g u H4=>B3 g (Op.load1 [t2] H4) fun g t11=>B3 g ((Op.loadN 5) [t3] H4) fun g t12=>B32 g ((Op.buildSlice x8 1 [(.int .i64 0),(.int .i64 0),(.int .i64 0),(.int .i64 0),(.int .i64 0)] [(0,5)]) [t12]) fun g o5 k5=>C3 M g (.func x1) [t11,(k5 H4.next)] (H4.alloc o5) fun g t14 H6=>B3 g ((Op.mkFunc kr 0) [t2,t5]) fun g t15=>GO3 g Q .ret ((4,t15)::(5,t5)::(4,.nilf)::(3,t3)::(2,t2)::E) D H6):=by intro _ _ _ _;refine W_unf ?_;kernel_rfl
theorem qkt:(cProg Tryz.prog).func k9=some qd8/\qd8.results=[.tmp 4]:=zm (by kernel_rfl)
theorem qku (h:W M ⟨none,k9⟩ (qgz 0) true (FIN3 M [.tmp 4] Q) [(0,a0),(1,a1)] [] H):qap M k9 [a0,a1] H Q:=callf (by decide) qkt (ks:=qgy) (by kernel_rfl) h
def qoe:AFunc:=funcAt Tryz.prog qgg
def qsq:Kp:=⟨[0,2],false,[0]⟩
def qsr (k:Nat):Kp × ACode:=(qsq,part qoe.body k)
theorem qzv (M:Mac) (c:Ctx):(∀ Q E D H,W M c (qsr 0) true Q E D H =
 B32 true (Op.mkMap []) fun g o1 k1=>B32 g ((Op.mapUpdate .int) [(k1 H.next),(.int .i64 4),(.int .i64 4)] (H.alloc o1)) fun g u H2=>B32 g ((Op.mapUpdate .int) [(k1 H.next),(.int .i64 5),(.int .i64 5)] H2) fun g u_1 H3=>B32 g ((Op.mapUpdate .int) [(k1 H.next),(.int .i64 6),(.int .i64 6)] H3) fun g u_2 H4=>B32 g ((Op.mapUpdate .int) [(k1 H.next),(.int .i64 7),(.int .i64 7)] H4) fun g u_3 H5=>B32 g ((Op.mapUpdate .int) [(k1 H.next),(.int .i64 8),(.int .i64 8)] H5) fun g u_4 H6=>B32 g ((Op.mapUpdate .int) [(k1 H.next),(.int .i64 9),(.int .i64 9)] H6) fun g u_5 H7=>B32 g ((Op.mapUpdate .int) [(k1 H.next),(.int .i64 10),(.int .i64 10)] H7) fun g u_6 H8=>B32 g ((Op.mapUpdate .int) [(k1 H.next),(.int .i64 11),(.int .i64 14)] H8) fun g u_7 H9=>B32 g ((Op.mapUpdate .int) [(k1 H.next),(.int .i64 12),(.int .i64 15)] H9) fun g u_8 H10=>B32 g ((Op.mapUpdate .int) [(k1 H.next),(.int .i64 13),(.int .i64 16)] H10) fun g u_9 H11=>Ly g E 0 fun g t0=>B3 g ((Op.lookup .int (.int .i64 0) false) [(k1 H.next),t0] H11) fun g t6=>GO3 g Q .ret ((2,t6)::(2,(.int .i64 0))::E) D H11):=by intro _ _ _ _;refine W_unf ?_;kernel_rfl
theorem qzt:(cProg Tryz.prog).func qgg=some qoe/\qoe.results=[.tmp 2]:=zm (by kernel_rfl)
theorem qzu (h:W M ⟨none,qgg⟩ (qsr 0) true (FIN3 M [.tmp 2] Q) [(0,a0)] [] H):qap M qgg [a0] H Q:=callf (by decide) qzt (ks:=qsq) (by kernel_rfl) h
def qdb:AFunc:=funcAt Tryz.prog kr
def qfq:Kp:=⟨[0,1],false,[0]⟩
def qfr (k:Nat):Kp × ACode:=(qfq,part qdb.body k)
theorem qjp (M:Mac) (c:Ctx):(∀ Q E D H,W M c (qfr 0) true Q E D H =
 Lz E 0 fun g t0=>B3 g (Op.load1 [t0] H) fun g t2=>Nf g 4 t2 H fun g t5=>Ly g E 1 fun g t1=>B3 g (Op.load1 [t1] H) fun g t6=>B3 g (Op.load1 [t0] H) fun g t7=>Nf g 4 t7 H fun g t10=>B3 g (Op.lenSl [t10]) fun g t11=>B3 g ((Op.indexSl 5) [t5,t6]) fun g t12=>Fs g 4 t12 t11 H fun g u H1=>GO3 g Q .normal E D H1):=by intro _ _ _ _;refine W_unf ?_;kernel_rfl
theorem qjn:(cProg Tryz.prog).func kr=some qdb/\qdb.results=[]:=zm (by kernel_rfl)
theorem qjo (h:W M ⟨none,kr⟩ (qfr 0) true (FIN3 M [] Q) [(0,a0),(1,a1)] [] H):qap M kr [a0,a1] H Q:=callf (by decide) qjn (ks:=qfq) (by kernel_rfl) h
end
end Go.Am
namespace Go.Am
abbrev qct:Nat:=10
abbrev qax:Nat:=3
abbrev qb4:Nat:=9
noncomputable section
open Go.Proofs Go.Proofs.YtbimikjajohflaaGreatDoor
variable {M:Mac} [MK M] {H:AHeap} {Q:AEnd->AHeap->Prop} {a0 a1:AV}
def qey:AFunc:=funcAt Tryz.prog qax
def qhr:Kp:=⟨[0,1,3,4,5,6,7,8,9,10,11,12,13],false,[0,4,6,14,16,21,27,30,31,36,42,53,54]⟩
def qv (k:Nat):Kp × ACode:=(qhr,part qey.body k)
theorem ql1 (M:Mac) (c:Ctx):(∀ Q E D H,W M c (qv 0) true Q E D H =
 Lz E 1 fun g t1=>A3 g qb1 (AV.cells t1) H fun g t3 H1=>C3 M g (.func qko) [] H1 fun g t14 H2=>W M c (qv 4) g Q ((5,t14)::(4,(.bool false))::(3,t3)::E) D H2) /\
 (∀ Q E D H,W M c (qv 4) true Q E D H =
  Lz E 0 fun g t0=>Ly g E 3 fun g t3=>B3 g ((Op.loadN 3) [t3] H) fun g t17=>C3 M g (.func qbj) [t0,t17] H fun g t18 H1=>B3 g ((Op.extract 0) [t18]) fun g t19=>B3 g ((Op.extract 1) [t18]) fun g t20=>W M c (qv 6) g Q ((7,t20)::(6,t19)::E) D H1) /\
 (∀ Q E D H,W M c (qv 6) true Q E D H =
  Lz E 0 fun g t0=>C3 M g (.func qb4) [t0] H fun g t22 H1=>JN (fun (k:Bool->AV->AV->AHeap->Prop)=>B3 g (wantV false (some t22)) fun g w=>IG3 g w (fun g=>Ly g E 7 fun g t7=>Bn g .neq t7 (.int .i64 0) fun g t25=>k g t25 t7 H1) (fun g=>k g uu uu H1)) (fun g t25_1 t24_1 H2=>B3 g (Op.pick [t22,(.bool true),t25_1]) fun g t26=>JN (fun (k:Bool->AV->AV->AHeap->Prop)=>B3 g (wantV false (some t26)) fun g w=>IG3 g w (fun g=>Ly g E 5 fun g t5=>B3 g ((Op.un .not) [t5]) fun g t29=>k g t29 t5 H2) (fun g=>k g uu uu H2)) (fun g t29_1 t28_1 H3=>B3 g (Op.pick [t26,(.bool true),t29_1]) fun g t30=>IF3 g t30 (fun g=>Ly g E 5 fun g t5_1=>GO3 g (SEQ3 (W M c (qv 14)) Q) .ret ((4,t5_1)::E) D H3) (fun g=>Gt g M c (qv 14) Q E D H3)))) /\
 (∀ Q E D H,W M c (qv 14) true Q E D H =
  W M c (qv 16) true Q ((8,(.bool false))::E) D H) /\
 (∀ Q E D H,W M c (qv 16) true Q E D H =
  LOOP3 (W M c (qv 21)) (BLK3 0 (SEQ3 (W M c (qv 31)) Q)) ((9,(.int .i64 0))::E) D H) /\
 (∀ Q E D H,W M c (qv 31) true Q E D H =
  LOOP3 (W M c (qv 36)) (BLK3 2 (SEQ3 (W M c (qv 54)) Q)) ((10,(.int .i64 0))::E) D H) /\
 (∀ Q E D H,W M c (qv 21) true Q E D H =
  Lz E 9 fun g t9=>Ly g E 0 fun g t0=>B3 g (Op.lenSl [t0]) fun g t34=>Cb g .lss t9 t34 (fun g=>Gt g M c (qv 27) Q E D H) (fun g=>GO3 g (SEQ3 (W M c (qv 27)) Q) (.exit 0) E D H)) /\
 (∀ Q E D H,W M c (qv 54) true Q E D H =
  Lz E 6 fun g t6=>C3 M g (.func qct) [t6] H fun g t104 H1=>B3 g ((Op.extract 0) [t104]) fun g t105=>B3 g ((Op.extract 1) [t104]) fun g t106=>Ly g E 5 fun g t5=>JN (fun (k:Bool->AV->AV->AHeap->Prop)=>B3 g (wantV true (some t5)) fun g w=>IG3 g w (fun g=>Ly g E 8 fun g t8=>k g t8 t8 H1) (fun g=>k g uu uu H1)) (fun g t110_1 t109_1 H2=>JN (fun (k:Bool->AV->AV->AV->AHeap->Prop)=>B3 g (wantV false (some t110_1)) fun g w=>IG3 g w (fun g=>Bn g .eql t106 (.int .i64 0) fun g t112=>k g t112 t112 t106 H2) (fun g=>k g uu uu uu H2)) (fun g t113_1 t112_1 t111_1 H3=>JN (fun (k:Bool->AV->AV->AV->AV->AV->AV->AHeap->Prop)=>B3 g (wantV true (some t113_1)) fun g w=>IG3 g w (fun g=>B3 g (Op.lenSl [t105]) fun g t115=>Ly g E 6 fun g t6_1=>B3 g (Op.lenSl [t6_1]) fun g t117=>Bn g .mul (.int .i64 8) t117 fun g t118=>Bn g .eql t115 t118 fun g t119=>k g t119 t118 t117 t6_1 t115 t105 H3) (fun g=>k g uu uu uu uu uu uu H3)) (fun g t119_1 t118_1 t117_1 t116_1 t115_1 t114_1 H4=>JN (fun (k:Bool->AV->AHeap->Prop)=>B3 g (wantV false (some t110_1)) fun g w=>IG3 g w (fun g=>B3 g (Op.pick [t113_1,t119_1,(.bool false)]) fun g t120=>k g t120 H4) (fun g=>k g uu H4)) (fun g t120_1 H5=>JN (fun (k:Bool->AV->AHeap->Prop)=>B3 g (wantV true (some t5)) fun g w=>IG3 g w (fun g=>B3 g (Op.pick [t110_1,(.bool true),t120_1]) fun g t121=>k g t121 H5) (fun g=>k g uu H5)) (fun g t121_1 H6=>B3 g (Op.pick [t5,t121_1,(.bool false)]) fun g t122=>GO3 g Q .ret ((4,t122)::(13,t106)::(12,t105)::E) D H6)))))) /\
 (∀ Q E D H,W M c (qv 36) true Q E D H =
  Lz E 10 fun g t10=>Ly g E 6 fun g t6=>B3 g (Op.lenSl [t6]) fun g t49=>Cb g .lss t10 t49 (fun g=>Gt g M c (qv 42) Q E D H) (fun g=>GO3 g (SEQ3 (W M c (qv 42)) Q) (.exit 2) E D H)) /\
 (∀ Q E D H,W M c (qv 27) true Q E D H =
  Lz E 8 fun g t8=>JN (fun (k:Bool->AV->AV->AV->AV->AV->AV->AHeap->Prop)=>B3 g (wantV false (some t8)) fun g w=>IG3 g w (fun g=>Ly g E 0 fun g t0=>Ly g E 9 fun g t9=>B3 g ((Op.indexSl 3) [t0,t9]) fun g t42=>B3 g ((Op.fieldAddr 1) [t42]) fun g t43=>B3 g (Op.load1 [t43] H) fun g t44=>Bn g .geq t44 (.int .u64 2147483648) fun g t45=>k g t45 t44 t43 t42 t9 t0 H) (fun g=>k g uu uu uu uu uu uu H)) (fun g t45_1 t44_1 t43_1 t42_1 t41_1 t40_1 H1=>B3 g (Op.pick [t8,(.bool true),t45_1]) fun g t46=>GO3 g (BLK3 1 (SEQ3 (W M c (qv 30)) Q)) .normal ((8,t46)::E) D H1)) /\
 (∀ Q E D H,W M c (qv 42) true Q E D H =
  Lz E 6 fun g t6=>Ly g E 10 fun g t10=>B3 g ((Op.indexSl 5) [t6,t10]) fun g t55=>Fl g 0 t55 H fun g t57=>Bn g .eql t57 (.int .i64 13) fun g t58=>JN (fun (k:Bool->AV->AV->AV->AV->AV->AV->AHeap->Prop)=>B3 g (wantV false (some t58)) fun g w=>IG3 g w (fun g=>B3 g ((Op.indexSl 5) [t6,t10]) fun g t62=>B3 g ((Op.fieldAddr 0) [t62]) fun g t63=>B3 g (Op.load1 [t63] H) fun g t64=>Bn g .eql t64 (.int .i64 14) fun g t65=>k g t65 t64 t63 t62 t10 t6 H) (fun g=>k g uu uu uu uu uu uu H)) (fun g t65_1 t64_1 t63_1 t62_1 t61_1 t60_1 H1=>B3 g (Op.pick [t58,(.bool true),t65_1]) fun g t66=>JN (fun (k:Bool->AV->AV->AV->AV->AV->AV->AHeap->Prop)=>B3 g (wantV false (some t66)) fun g w=>IG3 g w (fun g=>B3 g ((Op.indexSl 5) [t6,t10]) fun g t70=>B3 g ((Op.fieldAddr 0) [t70]) fun g t71=>B3 g (Op.load1 [t71] H1) fun g t72=>Bn g .eql t72 (.int .i64 15) fun g t73=>k g t73 t72 t71 t70 t10 t6 H1) (fun g=>k g uu uu uu uu uu uu H1)) (fun g t73_1 t72_1 t71_1 t70_1 t69_1 t68_1 H2=>B3 g (Op.pick [t66,(.bool true),t73_1]) fun g t74=>JN (fun (k:Bool->AV->AV->AV->AV->AV->AV->AHeap->Prop)=>B3 g (wantV false (some t74)) fun g w=>IG3 g w (fun g=>B3 g ((Op.indexSl 5) [t6,t10]) fun g t78=>B3 g ((Op.fieldAddr 0) [t78]) fun g t79=>B3 g (Op.load1 [t79] H2) fun g t80=>Bn g .eql t80 (.int .i64 16) fun g t81=>k g t81 t80 t79 t78 t10 t6 H2) (fun g=>k g uu uu uu uu uu uu H2)) (fun g t81_1 t80_1 t79_1 t78_1 t77_1 t76_1 H3=>B3 g (Op.pick [t74,(.bool true),t81_1]) fun g t82=>JN (fun (k:Bool->AV->AV->AV->AV->AV->AV->AV->AHeap->Prop)=>B3 g (wantV true (some t82)) fun g w=>IG3 g w (fun g=>Ly g E 6 fun g t6_1=>Ly g E 10 fun g t10_1=>B3 g ((Op.indexSl 5) [t6_1,t10_1]) fun g t87=>B3 g ((Op.fieldAddr 4) [t87]) fun g t88=>B3 g (Op.load1 [t88] H3) fun g t89=>Bn g .lss t89 (.int .i64 0) fun g t90=>k g t90 t90 t89 t88 t87 t10_1 t6_1 H3) (fun g=>k g uu uu uu uu uu uu uu H3)) (fun g t91_1 t90_1 t89_1 t88_1 t87_1 t86_1 t85_1 H4=>JN (fun (k:Bool->AV->AV->AV->AV->AV->AV->AV->AV->AHeap->Prop)=>B3 g (wantV false (some t91_1)) fun g w=>IG3 g w (fun g=>Ly g E 6 fun g t6_2=>Ly g E 10 fun g t10_2=>B3 g ((Op.indexSl 5) [t6_2,t10_2]) fun g t94=>B3 g ((Op.fieldAddr 4) [t94]) fun g t95=>B3 g (Op.load1 [t95] H4) fun g t96=>B3 g (Op.lenSl [t6_2]) fun g t98=>Bn g .gtr t96 t98 fun g t99=>k g t99 t98 t6_2 t96 t95 t94 t10_2 t6_2 H4) (fun g=>k g uu uu uu uu uu uu uu uu H4)) (fun g t99_1 t98_1 t97_1 t96_1 t95_1 t94_1 t93_1 t92_1 H5=>JN (fun (k:Bool->AV->AHeap->Prop)=>B3 g (wantV true (some t82)) fun g w=>IG3 g w (fun g=>B3 g (Op.pick [t91_1,(.bool true),t99_1]) fun g t100=>k g t100 H5) (fun g=>k g uu H5)) (fun g t100_1 H6=>B3 g (Op.pick [t82,t100_1,(.bool false)]) fun g t101=>IF3 g t101 (fun g=>GO3 g (BLK3 3 (SEQ3 (W M c (qv 53)) Q)) .ret ((4,(.bool false))::(11,t82)::E) D H6) (fun g=>GO3 g (BLK3 3 (SEQ3 (W M c (qv 53)) Q)) .normal ((11,t82)::E) D H6)))))))) /\
 (∀ Q E D H,W M c (qv 30) true Q E D H =
  Lz E 9 fun g t9=>Bn g .add t9 (.int .i64 1) fun g t37=>GO3 g Q .normal ((9,t37)::E) D H) /\
 (∀ Q E D H,W M c (qv 53) true Q E D H =
  Lz E 10 fun g t10=>Bn g .add t10 (.int .i64 1) fun g t52=>GO3 g Q .normal ((10,t52)::E) D H):=by (repeat' apply And.intro)<;>(intro _ _ _ _;refine W_unf ?_;kernel_rfl)
theorem qlz:(cProg Tryz.prog).func qax=some qey/\qey.results=[.tmp 4]:=zm (by kernel_rfl)
theorem ql0 (h:W M ⟨none,qax⟩ (qv 0) true (FIN3 M [.tmp 4] Q) [(0,a0),(1,a1)] [] H):qap M qax [a0,a1] H Q:=callf (by decide) qlz (ks:=qhr) (by kernel_rfl) h
def qh5:AFunc:=funcAt Tryz.prog qb4
def qla:Kp:=⟨[0,2,3,4],false,[0,4,9,15,18,19]⟩
def ym (k:Nat):Kp × ACode:=(qla,part qh5.body k)
theorem qri (M:Mac) (c:Ctx):(∀ Q E D H,W M c (ym 0) true Q E D H =
 W M c (ym 4) true Q ((3,(.int .i64 0))::(2,(.bool false))::E) D H) /\
 (∀ Q E D H,W M c (ym 4) true Q E D H =
  LOOP3 (W M c (ym 9)) (BLK3 0 (SEQ3 (W M c (ym 19)) Q)) ((4,(.int .i64 0))::E) D H) /\
 (∀ Q E D H,W M c (ym 19) true Q E D H =
  Lz E 3 fun g t3=>Bn g .gtr t3 (.int .i64 1000) fun g t21=>GO3 g Q .ret ((2,t21)::E) D H) /\
 (∀ Q E D H,W M c (ym 9) true Q E D H =
  Lz E 4 fun g t4=>Ly g E 0 fun g t0=>B3 g (Op.lenSl [t0]) fun g t7=>Cb g .lss t4 t7 (fun g=>Gt g M c (ym 15) Q E D H) (fun g=>GO3 g (SEQ3 (W M c (ym 15)) Q) (.exit 0) E D H)) /\
 (∀ Q E D H,W M c (ym 15) true Q E D H =
  Lz E 3 fun g t3=>Bn g .add t3 (.int .i64 1) fun g t12=>Ly g E 0 fun g t0=>Ly g E 4 fun g t4=>B3 g ((Op.indexSl 3) [t0,t4]) fun g t15=>Fl g 2 t15 H fun g t17=>B3 g (Op.lenSl [t17]) fun g t18=>Bn g .add t12 t18 fun g t19=>GO3 g (BLK3 1 (SEQ3 (W M c (ym 18)) Q)) .normal ((3,t19)::E) D H) /\
 (∀ Q E D H,W M c (ym 18) true Q E D H =
  Lz E 4 fun g t4=>Bn g .add t4 (.int .i64 1) fun g t10=>GO3 g Q .normal ((4,t10)::E) D H):=by (repeat' apply And.intro)<;>(intro _ _ _ _;refine W_unf ?_;kernel_rfl)
theorem qrg:(cProg Tryz.prog).func qb4=some qh5/\qh5.results=[.tmp 2]:=zm (by kernel_rfl)
theorem qrh (h:W M ⟨none,qb4⟩ (ym 0) true (FIN3 M [.tmp 2] Q) [(0,a0)] [] H):qap M qb4 [a0] H Q:=callf (by decide) qrg (ks:=qla) (by kernel_rfl) h
def qiv:AFunc:=funcAt Tryz.prog qct
def qmq:Kp:=⟨[0,2,3,4,6,8,9,13,14,15,35,36],false,[0,2,10,12,17,23,27,35,40,46,50,58,59,60,63,64]⟩
def xj (k:Nat):Kp × ACode:=(qmq,part qiv.body k)
theorem qs9 (M:Mac) (c:Ctx):(∀ Q E D H,W M c (xj 0) true Q E D H =
 W M c (xj 2) true Q ((3,(.int .i64 0))::(2,.nils)::E) D H) /\
 (∀ Q E D H,W M c (xj 2) true Q E D H =
  Lz E 0 fun g t0=>B3 g (Op.lenSl [t0]) fun g t11=>Cb g .gtr t11 (.int .i64 1024) (fun g=>GO3 g (SEQ3 (W M c (xj 10)) Q) .ret ((3,(.int .i64 2))::(2,.nils)::E) D H) (fun g=>Gt g M c (xj 10) Q E D H)) /\
 (∀ Q E D H,W M c (xj 10) true Q E D H =
  W M c (xj 12) true Q ((4,.nils)::E) D H) /\
 (∀ Q E D H,W M c (xj 12) true Q E D H =
  Lz E 0 fun g t0=>B3 g (Op.lenSl [t0]) fun g t14=>LOOP3 (W M c (xj 17)) (BLK3 0 (SEQ3 (W M c (xj 64)) Q)) ((15,(.int .i64 0))::(14,t14)::(13,t0)::E) D H) /\
 (∀ Q E D H,W M c (xj 64) true Q E D H =
  Lz E 4 fun g t4=>GO3 g Q .ret ((3,(.int .i64 0))::(2,t4)::E) D H) /\
 (∀ Q E D H,W M c (xj 17) true Q E D H =
  Lz E 15 fun g t15=>Ly g E 14 fun g t14=>Cb g .lss t15 t14 (fun g=>Gt g M c (xj 23) Q E D H) (fun g=>GO3 g (SEQ3 (W M c (xj 23)) Q) (.exit 0) E D H)) /\
 (∀ Q E D H,W M c (xj 23) true Q E D H =
  Lz E 13 fun g t13=>Ly g E 15 fun g t15=>B3 g ((Op.indexSl 5) [t13,t15]) fun g t17=>B3 g ((Op.loadN 5) [t17] H) fun g t18=>A3 g x8 [(.int .i64 0),(.int .i64 0),(.int .i64 0),(.int .i64 0),(.int .i64 0)] H fun g t6 H1=>B32 g ((Op.store 5) [t6,t18] H1) fun g u H2=>W M c (xj 27) g (BLK3 1 (SEQ3 (W M c (xj 63)) Q)) ((6,t6)::E) D H2) /\
 (∀ Q E D H,W M c (xj 63) true Q E D H =
  Lz E 15 fun g t15=>Bn g .add t15 (.int .i64 1) fun g t69=>GO3 g Q .normal ((15,t69)::E) D H) /\
 (∀ Q E D H,W M c (xj 27) true Q E D H =
  Lz E 6 fun g t6=>Fl g 4 t6 H fun g t20=>Bn g .lss t20 (.int .i64 (-2147483648)) fun g t21=>JN (fun (k:Bool->AV->AV->AV->AHeap->Prop)=>B3 g (wantV false (some t21)) fun g w=>IG3 g w (fun g=>B3 g ((Op.fieldAddr 4) [t6]) fun g t23=>B3 g (Op.load1 [t23] H) fun g t24=>Bn g .gtr t24 (.int .i64 2147483647) fun g t25=>k g t25 t24 t23 H) (fun g=>k g uu uu uu H)) (fun g t25_1 t24_1 t23_1 H1=>B3 g (Op.pick [t21,(.bool true),t25_1]) fun g t26=>IF3 g t26 (fun g=>GO3 g (SEQ3 (W M c (xj 35)) Q) .ret ((3,(.int .i64 2))::(2,.nils)::E) D H1) (fun g=>Gt g M c (xj 35) Q E D H1))) /\
 (∀ Q E D H,W M c (xj 35) true Q E D H =
  Lz E 6 fun g t6=>Fl g 0 t6 H fun g t28=>Fl g 1 t6 H fun g t30=>Fl g 2 t6 H fun g t32=>Fl g 3 t6 H fun g t34=>B3 g ((Op.build [(.int .i64 0),(.int .i64 0),(.int .i64 0),(.int .i64 0)] [(0,1),(1,1),(2,1),(3,1)]) [t28,t30,t32,t34]) fun g t35=>LOOP3 (W M c (xj 40)) (BLK3 2 (SEQ3 (W M c (xj 60)) Q)) ((36,(.int .i64 0))::(35,t35)::E) D H) /\
 (∀ Q E D H,W M c (xj 60) true Q E D H =
  Lz E 6 fun g t6=>Fl g 4 t6 H fun g t52=>B3 g ((Op.wrap .i32) [t52]) fun g t53=>B3 g ((Op.wrap .u32) [t53]) fun g t54=>Ly g E 4 fun g t4=>Bn g .shr t54 (.int .u64 24) fun g t57=>B3 g ((Op.wrap .u8) [t57]) fun g t58=>Bn g .shr t54 (.int .u64 16) fun g t60=>B3 g ((Op.wrap .u8) [t60]) fun g t61=>Bn g .shr t54 (.int .u64 8) fun g t63=>B3 g ((Op.wrap .u8) [t63]) fun g t64=>B3 g ((Op.wrap .u8) [t54]) fun g t66=>B32 g ((Op.buildSlice qak 4 [(.int .u8 0)] [(0,1),(1,1),(2,1),(3,1)]) [t58,t61,t64,t66]) fun g o1 k1=>B32 g ((Op.append qak 1 1) [t4,(k1 H.next)] (H.alloc o1)) fun g t68 H2=>GO3 g Q .normal ((4,t68)::(9,t54)::E) D H2) /\
 (∀ Q E D H,W M c (xj 40) true Q E D H =
  Lz E 36 fun g t36=>Cb g .lss t36 (.int .i64 4) (fun g=>Gt g M c (xj 46) Q E D H) (fun g=>GO3 g (SEQ3 (W M c (xj 46)) Q) (.exit 2) E D H)) /\
 (∀ Q E D H,W M c (xj 46) true Q E D H =
  Lz E 35 fun g t35=>Ly g E 36 fun g t36=>B3 g ((Op.indexAgg 4 1 none) [t35,t36]) fun g t38=>W M c (xj 50) g (BLK3 3 (SEQ3 (W M c (xj 59)) Q)) ((8,t38)::E) D H) /\
 (∀ Q E D H,W M c (xj 59) true Q E D H =
  Lz E 36 fun g t36=>Bn g .add t36 (.int .i64 1) fun g t50=>GO3 g Q .normal ((36,t50)::E) D H) /\
 (∀ Q E D H,W M c (xj 50) true Q E D H =
  Lz E 8 fun g t8=>Bn g .lss t8 (.int .i64 0) fun g t40=>JN (fun (k:Bool->AV->AV->AHeap->Prop)=>B3 g (wantV false (some t40)) fun g w=>IG3 g w (fun g=>Bn g .gtr t8 (.int .i64 255) fun g t43=>k g t43 t8 H) (fun g=>k g uu uu H)) (fun g t43_1 t42_1 H1=>B3 g (Op.pick [t40,(.bool true),t43_1]) fun g t44=>IF3 g t44 (fun g=>GO3 g (SEQ3 (W M c (xj 58)) Q) .ret ((3,(.int .i64 2))::(2,.nils)::E) D H1) (fun g=>Gt g M c (xj 58) Q E D H1))) /\
 (∀ Q E D H,W M c (xj 58) true Q E D H =
  Lz E 4 fun g t4=>Ly g E 8 fun g t8=>B3 g ((Op.wrap .u8) [t8]) fun g t47=>B32 g ((Op.buildSlice qak 1 [(.int .u8 0)] [(0,1)]) [t47]) fun g o1 k1=>B32 g ((Op.append qak 1 1) [t4,(k1 H.next)] (H.alloc o1)) fun g t49 H2=>GO3 g Q .normal ((4,t49)::E) D H2):=by (repeat' apply And.intro)<;>(intro _ _ _ _;refine W_unf ?_;kernel_rfl)
theorem qs7:(cProg Tryz.prog).func qct=some qiv/\qiv.results=[.tmp 2,.tmp 3]:=zm (by kernel_rfl)
theorem qs8 (h:W M ⟨none,qct⟩ (xj 0) true (FIN3 M [.tmp 2,.tmp 3] Q) [(0,a0)] [] H):qap M qct [a0] H Q:=callf (by decide) qs7 (ks:=qmq) (by kernel_rfl) h
end
end Go.Am
