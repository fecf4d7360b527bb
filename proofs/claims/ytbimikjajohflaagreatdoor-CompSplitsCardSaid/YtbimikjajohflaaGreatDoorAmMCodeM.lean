/- CodeM: CodeS CodeLA CodeCA CodeCS. -/
import Derived.Test.YtbimikjajohflaaGreatDoorAmMB4
import Derived.Test.YtbimikjajohflaaGreatDoorAmMB1
import Derived.KernelRfl
import Derived.Test.YtbimikjajohflaaGreatDoorRows
set_option linter.unusedVariables false
set_option maxRecDepth 100000
namespace Go.Am
abbrev jm:Nat:=118
abbrev jw:Nat:=155
abbrev zu:Nat:=134
abbrev qeh:Nat:=135
abbrev jx:Nat:=153
abbrev jy:Nat:=133
abbrev ky:Nat:=132
abbrev qi4:Nat:=7
abbrev vy:Nat:=154
abbrev vn:Nat:=94
abbrev yn:Nat:=64
abbrev j7:Nat:=65
abbrev ji:Nat:=27
abbrev zo:Nat:=61
abbrev je:Nat:=89
abbrev vv:Nat:=93
abbrev qxg:Nat:=198
abbrev qay:Nat:=9
abbrev qcu:Nat:=5
abbrev zn:Nat:=2
def qw4:List UInt8:=[115,116,114,105,110,103,115,46,66,117,105,108,100,101,114,46,71,114,111,119,58,32,110,101,103,97,116,105,118,101,32,99,111,117,110,116]
def ql0:List UInt8:=[48,49,50,51,52,53,54,55,56,57,97,98,99,100,101,102,103,104,105,106,107,108,109,110,111,112,113,114,115,116,117,118,119,120,121,122]
def yr:List UInt8:=[48,48,48,49,48,50,48,51,48,52,48,53,48,54,48,55,48,56,48,57,49,48,49,49,49,50,49,51,49,52,49,53,49,54,49,55,49,56,49,57,50,48,50,49,50,50,50,51,50,52,50,53,50,54,50,55,50,56,50,57,51,48,51,49,51,50,51,51,51,52,51,53,51,54,51,55,51,56,51,57,52,48,52,49,52,50,52,51,52,52,52,53,52,54,52,55,52,56,52,57,53,48,53,49,53,50,53,51,53,52,53,53,53,54,53,55,53,56,53,57,54,48,54,49,54,50,54,51,54,52,54,53,54,54,54,55,54,56,54,57,55,48,55,49,55,50,55,51,55,52,55,53,55,54,55,55,55,56,55,57,56,48,56,49,56,50,56,51,56,52,56,53,56,54,56,55,56,56,56,57,57,48,57,49,57,50,57,51,57,52,57,53,57,54,57,55,57,56,57,57]
def qi2:List UInt8:=[0,1,2,2,3,3,3,3,4,4,4,4,4,4,4,4,5,5,5,5,5,5,5,5,5,5,5,5,5,5,5,5,6,6,6,6,6,6,6,6,6,6,6,6,6,6,6,6,6,6,6,6,6,6,6,6,6,6,6,6,6,6,6,6,7,7,7,7,7,7,7,7,7,7,7,7,7,7,7,7,7,7,7,7,7,7,7,7,7,7,7,7,7,7,7,7,7,7,7,7,7,7,7,7,7,7,7,7,7,7,7,7,7,7,7,7,7,7,7,7,7,7,7,7,7,7,7,7,8,8,8,8,8,8,8,8,8,8,8,8,8,8,8,8,8,8,8,8,8,8,8,8,8,8,8,8,8,8,8,8,8,8,8,8,8,8,8,8,8,8,8,8,8,8,8,8,8,8,8,8,8,8,8,8,8,8,8,8,8,8,8,8,8,8,8,8,8,8,8,8,8,8,8,8,8,8,8,8,8,8,8,8,8,8,8,8,8,8,8,8,8,8,8,8,8,8,8,8,8,8,8,8,8,8,8,8,8,8,8,8,8,8,8,8,8,8,8,8,8,8,8,8,8,8,8,8]
noncomputable section
open Go.Proofs Go.Proofs.YtbimikjajohflaaGreatDoor
class MK (M:Mac):Prop where
 ok:∀ n,memN n [7,16]=false->M.func n=(cProg Tryz.prog).func n
theorem MK.at {M:Mac} [h:MK M] {n:Nat} {F:AFunc} (hn:memN n [7,16]=false) (hF:(cProg Tryz.prog).func n=some F):M.func n=some F:=(h.ok n hn).trans hF
theorem callf {M:Mac} [h:MK M] {n:Nat} {F:AFunc} (hn:memN n [7,16]=false) {rs:List ARes} (hF:(cProg Tryz.prog).func n=some F/\F.results=rs) {ks:Kp} {vs:List AV} (hk:keepB 0 vs.length ks.keep=true) {H:AHeap} {Q:AEnd->AHeap->Prop} (hw:W M ⟨none,n⟩ (ks,part F.body 0) true (FIN3 M rs Q) (envA 0 vs) [] H):qa6 M n vs H Q:=calle (MK.at hn hF.1) hk (hF.2 ▸ hw)
variable {M:Mac} [MK M] {H:AHeap} {Q:AEnd->AHeap->Prop} {a0 a1:AV}
def qck:AFunc:=funcAt Tryz.prog vn
def qeq:Kp:=⟨[0,1,4],false,[0]⟩
def qer (k:Nat):Kp × ACode:=(qeq,part qck.body k)
theorem qes (M:Mac) (c:Ctx):(∀ Q E D H,W M c (qer 0) true Q E D H =
 Lz E 0 fun g t0=>Ly g E 1 fun g t1=>C3 M g (.func jm) [t0,t1] H fun g t7 H1=>GO3 g Q .ret ((4,t7)::(4,(.str []))::E) D H1):=by intro _ _ _ _;refine W_unf ?_;kernel_rfl
theorem qib:(cProg Tryz.prog).func vn=some qck/\qck.results=[.tmp 4]:=jh (by kernel_rfl)
theorem qic (h:W M ⟨none,vn⟩ (qer 0) true (FIN3 M [.tmp 4] Q) [(0,a0),(1,a1)] [] H):qa6 M vn [a0,a1] H Q:=callf (by decide) qib (ks:=qeq) (by kernel_rfl) h
def qbr:AFunc:=funcAt Tryz.prog yn
def qdw:Kp:=⟨[0,1],false,[0,2,8]⟩
def yo (k:Nat):Kp × ACode:=(qdw,part qbr.body k)
theorem qar (M:Mac) (c:Ctx):(∀ Q E D H,W M c (yo 0) true Q E D H =
 Lz E 0 fun g t0=>C3 M g (.func je) [t0] H fun g t5 H1=>W M c (yo 2) g Q E D H1) /\
 (∀ Q E D H,W M c (yo 2) true Q E D H =
  Lz E 1 fun g t1=>Cb g .lss t1 (.int .i64 0) (fun g=>B3 g ((Op.mkIface qay) [(.str qw4)]) fun g t8=>False) (fun g=>Gt g M c (yo 8) Q E D H)) /\
 (∀ Q E D H,W M c (yo 8) true Q E D H =
  Lz E 0 fun g t0=>Nf g 1 t0 H fun g t12=>B3 g (Op.cap [t12]) fun g t13=>Nf g 1 t0 H fun g t17=>B3 g (Op.lenSl [t17]) fun g t18=>Bn g .sub t13 t18 fun g t19=>Ly g E 1 fun g t1=>Cb g .lss t19 t1 (fun g=>Ly g E 0 fun g t0_1=>Ly g E 1 fun g t1_1=>C3 M g (.func vv) [t0_1,t1_1] H fun g t24 H1=>GO3 g Q .normal E D H1) (fun g=>GO3 g Q .normal E D H)):=by (repeat' apply And.intro)<;>(intro _ _ _ _;refine W_unf ?_;kernel_rfl)
theorem qg6:(cProg Tryz.prog).func yn=some qbr/\qbr.results=[]:=jh (by kernel_rfl)
theorem qg7 (h:W M ⟨none,yn⟩ (yo 0) true (FIN3 M [] Q) [(0,a0),(1,a1)] [] H):qa6 M yn [a0,a1] H Q:=callf (by decide) qg6 (ks:=qdw) (by kernel_rfl) h
def qaa:AFunc:=funcAt Tryz.prog zo
def qbn:Kp:=⟨[0,1,4,5],false,[0]⟩
def qbo (k:Nat):Kp × ACode:=(qbn,part qaa.body k)
theorem qab (M:Mac) (c:Ctx):(∀ Q E D H,W M c (qbo 0) true Q E D H =
 Lz E 0 fun g t0=>C3 M g (.func je) [t0] H fun g t7 H1=>Ly g E 0 fun g t0_1=>Nf g 1 t0_1 H1 fun g t12=>Ly g E 1 fun g t1=>B32 g ((Op.append qcu 1 1) [t12,t1] H1) fun g t14 H2=>Ns g 1 t0_1 t14 H2 fun g u H3=>Ly g E 1 fun g t1_1=>B3 g (Op.lenStr [t1_1]) fun g t18=>GO3 g Q .ret ((5,.nili)::(4,t18)::(5,.nili)::(4,(.int .i64 0))::E) D H3):=by intro _ _ _ _;refine W_unf ?_;kernel_rfl
theorem qem:(cProg Tryz.prog).func zo=some qaa/\qaa.results=[.tmp 4,.tmp 5]:=jh (by kernel_rfl)
theorem qen (h:W M ⟨none,zo⟩ (qbo 0) true (FIN3 M [.tmp 4,.tmp 5] Q) [(0,a0),(1,a1)] [] H):qa6 M zo [a0,a1] H Q:=callf (by decide) qem (ks:=qbn) (by kernel_rfl) h
def qbd:AFunc:=funcAt Tryz.prog ji
def qc9:Kp:=⟨[0,2],false,[0]⟩
def qda (k:Nat):Kp × ACode:=(qc9,part qbd.body k)
theorem qdb (M:Mac) (c:Ctx):(∀ Q E D H,W M c (qda 0) true Q E D H =
 Lz E 0 fun g t0=>Nf g 1 t0 H fun g t6=>B3 g (Op.sliceData [t6]) fun g t7=>Nf g 1 t0 H fun g t11=>B3 g (Op.lenSl [t11]) fun g t12=>B32 g ((Op.strOfPtr qcu) [t7,t12] H) fun g t13 H1=>GO3 g Q .ret ((2,t13)::(2,(.str []))::E) D H1):=by intro _ _ _ _;refine W_unf ?_;kernel_rfl
theorem qgk:(cProg Tryz.prog).func ji=some qbd/\qbd.results=[.tmp 2]:=jh (by kernel_rfl)
theorem qgl (h:W M ⟨none,ji⟩ (qda 0) true (FIN3 M [.tmp 2] Q) [(0,a0)] [] H):qa6 M ji [a0] H Q:=callf (by decide) qgk (ks:=qc9) (by kernel_rfl) h
def qb7:AFunc:=funcAt Tryz.prog j7
def qef:Kp:=⟨[0,2],false,[0]⟩
def qeg (k:Nat):Kp × ACode:=(qef,part qb7.body k)
theorem qhv (M:Mac) (c:Ctx):(∀ Q E D H,W M c (qeg 0) true Q E D H =
 Lz E 0 fun g t0=>Nf g 1 t0 H fun g t6=>B3 g (Op.lenSl [t6]) fun g t7=>GO3 g Q .ret ((2,t7)::(2,(.int .i64 0))::E) D H):=by intro _ _ _ _;refine W_unf ?_;kernel_rfl
theorem qht:(cProg Tryz.prog).func j7=some qb7/\qb7.results=[.tmp 2]:=jh (by kernel_rfl)
theorem qhu (h:W M ⟨none,j7⟩ (qeg 0) true (FIN3 M [.tmp 2] Q) [(0,a0)] [] H):qa6 M j7 [a0] H Q:=callf (by decide) qht (ks:=qef) (by kernel_rfl) h
def wz:AFunc:=funcAt Tryz.prog jm
def qbm:Kp:=⟨[0,1,4,5,6,8],false,[0,2,6,14,24]⟩
def xo (k:Nat):Kp × ACode:=(qbm,part wz.body k)
theorem yw (M:Mac) (c:Ctx):(∀ Q E D H,W M c (xo 0) true Q E D H =
 W M c (xo 2) true Q ((4,(.str []))::E) D H) /\
 (∀ Q E D H,W M c (xo 2) true Q E D H =
  Lz E 1 fun g t1=>Cb g .eql t1 (.int .i64 10) (fun g=>W M c (xo 6) g (SEQ3 (W M c (xo 24)) Q) E D H) (fun g=>Gt g M c (xo 24) Q E D H)) /\
 (∀ Q E D H,W M c (xo 24) true Q E D H =
  Lz E 0 fun g t0=>Ly g E 1 fun g t1=>C3 M g (.func qeh) [.nils,t0,t1,(.bool false),(.bool false)] H fun g t28 H1=>B3 g ((Op.extract 0) [t28]) fun g t29=>B3 g ((Op.extract 1) [t28]) fun g t30=>GO3 g Q .ret ((4,t30)::(8,t30)::E) D H1) /\
 (∀ Q E D H,W M c (xo 6) true Q E D H =
  Lz E 0 fun g t0=>Cb g .lss t0 (.int .u64 100) (fun g=>Ly g E 0 fun g t0_1=>B3 g ((Op.wrap .i64) [t0_1]) fun g t14=>C3 M g (.func ky) [t14] H fun g t15 H1=>GO3 g (SEQ3 (W M c (xo 14)) Q) .ret ((4,t15)::E) D H1) (fun g=>Gt g M c (xo 14) Q E D H)) /\
 (∀ Q E D H,W M c (xo 14) true Q E D H =
  A3 true qxg (List.replicate 24 (.int .u8 0)) H fun g t5 H1=>Ly g E 0 fun g t0=>C3 M g (.func jy) [t0] H1 fun g t17 H2=>B3 g ((Op.sliceArr 24 1 [none,(some 0),none]) [t5,t17]) fun g t19=>Ly g E 0 fun g t0_1=>C3 M g (.func zu) [t19,t0_1] H2 fun g t21 H3=>B3 g ((Op.sliceArr 24 1 [none,(some 0),none]) [t5,t17]) fun g t23=>B3 g (Op.strOfBytes [t23] H3) fun g t24=>GO3 g Q .ret ((4,t24)::(6,t17)::(5,t5)::E) D H3):=by (repeat' apply And.intro)<;>(intro _ _ _ _;refine W_unf ?_;kernel_rfl)
theorem qek:(cProg Tryz.prog).func jm=some wz/\wz.results=[.tmp 4]:=jh (by kernel_rfl)
theorem qel (h:W M ⟨none,jm⟩ (xo 0) true (FIN3 M [.tmp 4] Q) [(0,a0),(1,a1)] [] H):qa6 M jm [a0,a1] H Q:=callf (by decide) qek (ks:=qbm) (by kernel_rfl) h
def qao:AFunc:=funcAt Tryz.prog je
def qb8:Kp:=⟨[0],false,[0]⟩
def qb9 (k:Nat):Kp × ACode:=(qb8,part qao.body k)
theorem qca (M:Mac) (c:Ctx):(∀ Q E D H,W M c (qb9 0) true Q E D H =
 Lz E 0 fun g t0=>Nf g 0 t0 H fun g t5=>B3 g ((Op.eq .ptr false) [t5,.nilp] H) fun g t6=>IF3 g t6 (fun g=>Ly g E 0 fun g t0_1=>B3 g ((Op.castPtr (liesB Tryz.prog 74)) [t0_1] H) fun g t9=>B3 g (Op.noEscape [t9]) fun g t10=>B3 g ((Op.castPtr (liesB Tryz.prog 74)) [t10] H) fun g t11=>Ns g 0 t0_1 t11 H fun g u H1=>GO3 g Q .normal E D H1) (fun g=>Ly g E 0 fun g t0_1=>Nf g 0 t0_1 H fun g t17=>B3 g ((Op.eq .ptr true) [t17,t0_1] H) fun g t19=>IF3 g t19 (fun g=>False) (fun g=>GO3 g Q .normal E D H))):=by intro _ _ _ _;refine W_unf ?_;kernel_rfl
theorem qfk:(cProg Tryz.prog).func je=some qao/\qao.results=[]:=jh (by kernel_rfl)
theorem qfl (h:W M ⟨none,je⟩ (qb9 0) true (FIN3 M [] Q) [(0,a0)] [] H):qa6 M je [a0] H Q:=callf (by decide) qfk (ks:=qb8) (by kernel_rfl) h
def qbs:AFunc:=funcAt Tryz.prog vv
def qdx:Kp:=⟨[0,1,4],false,[0]⟩
def qdy (k:Nat):Kp × ACode:=(qdx,part qbs.body k)
theorem qha (M:Mac) (c:Ctx):(∀ Q E D H,W M c (qdy 0) true Q E D H =
 Lz E 0 fun g t0=>Nf g 1 t0 H fun g t8=>B3 g (Op.cap [t8]) fun g t9=>Bn g .mul (.int .i64 2) t9 fun g t10=>Ly g E 1 fun g t1=>Bn g .add t10 t1 fun g t12=>Nf g 1 t0 H fun g t17=>B3 g (Op.lenSl [t17]) fun g t18=>B32 g ((Op.makeNoZero qcu) [t12]) fun g o1 k1=>B3 g ((Op.sliceSl 1 [none,(some 0),none]) [(k1 H.next),t18]) fun g t19=>Ly g E 0 fun g t0_1=>Nf g 1 t0_1 (H.alloc o1) fun g t24=>B32 g ((Op.copy 1) [t19,t24] (H.alloc o1)) fun g t25 H2=>Ly g E 0 fun g t0_2=>Ns g 1 t0_2 t19 H2 fun g u H3=>GO3 g Q .normal ((4,t19)::E) D H3):=by intro _ _ _ _;refine W_unf ?_;kernel_rfl
theorem qg8:(cProg Tryz.prog).func vv=some qbs/\qbs.results=[]:=jh (by kernel_rfl)
theorem qg9 (h:W M ⟨none,vv⟩ (qdy 0) true (FIN3 M [] Q) [(0,a0),(1,a1)] [] H):qa6 M vv [a0,a1] H Q:=callf (by decide) qg8 (ks:=qdx) (by kernel_rfl) h
def qba:AFunc:=funcAt Tryz.prog ky
def qc6:Kp:=⟨[0,2],false,[0,2,10]⟩
def j5 (k:Nat):Kp × ACode:=(qc6,part qba.body k)
theorem qc7 (M:Mac) (c:Ctx):(∀ Q E D H,W M c (j5 0) true Q E D H =
 W M c (j5 2) true Q ((2,(.str []))::E) D H) /\
 (∀ Q E D H,W M c (j5 2) true Q E D H =
  Lz E 0 fun g t0=>Cb g .lss t0 (.int .i64 10) (fun g=>Ly g E 0 fun g t0_1=>Bn g .add t0_1 (.int .i64 1) fun g t7=>B3 g ((Op.sliceStr [(some 0),(some 1)]) [(.str ql0),t0_1,t7]) fun g t8=>GO3 g (SEQ3 (W M c (j5 10)) Q) .ret ((2,t8)::E) D H) (fun g=>Gt g M c (j5 10) Q E D H)) /\
 (∀ Q E D H,W M c (j5 10) true Q E D H =
  Lz E 0 fun g t0=>Bn g .mul t0 (.int .i64 2) fun g t10=>Bn g .mul t0 (.int .i64 2) fun g t12=>Bn g .add t12 (.int .i64 2) fun g t13=>B3 g ((Op.sliceStr [(some 0),(some 1)]) [(.str yr),t10,t13]) fun g t14=>GO3 g Q .ret ((2,t14)::E) D H):=by (repeat' apply And.intro)<;>(intro _ _ _ _;refine W_unf ?_;kernel_rfl)
theorem qgc:(cProg Tryz.prog).func ky=some qba/\qba.results=[.tmp 2]:=jh (by kernel_rfl)
theorem qgd (h:W M ⟨none,ky⟩ (j5 0) true (FIN3 M [.tmp 2] Q) [(0,a0)] [] H):qa6 M ky [a0] H Q:=callf (by decide) qgc (ks:=qc6) (by kernel_rfl) h
def qai:AFunc:=funcAt Tryz.prog jy
def qbw:Kp:=⟨[0,2,3],false,[0]⟩
def qbx (k:Nat):Kp × ACode:=(qbw,part qai.body k)
theorem kr (M:Mac) (c:Ctx):(∀ Q E D H,W M c (qbx 0) true Q E D H =
 Lz E 0 fun g t0=>C3 M g (.func vy) [t0] H fun g t5 H1=>C3 M g (.func jx) [t5] H1 fun g t6 H2=>Ly g E 0 fun g t0_1=>B3 g ((Op.indexArr 20 1) [(.ptr zn 0),t6]) fun g t10=>B3 g (Op.load1 [t10] H2) fun g t11=>Bn g .geq t0_1 t11 fun g t12=>C3 M g (.func jw) [t12] H2 fun g t13 H3=>Bn g .add t6 t13 fun g t14=>GO3 g Q .ret ((2,t14)::(3,t6)::(2,(.int .i64 0))::E) D H3):=by intro _ _ _ _;refine W_unf ?_;kernel_rfl
theorem qe2:(cProg Tryz.prog).func jy=some qai/\qai.results=[.tmp 2]:=jh (by kernel_rfl)
theorem qe3 (h:W M ⟨none,jy⟩ (qbx 0) true (FIN3 M [.tmp 2] Q) [(0,a0)] [] H):qa6 M jy [a0] H Q:=callf (by decide) qe2 (ks:=qbw) (by kernel_rfl) h
def v8:AFunc:=funcAt Tryz.prog zu
def qa9:Kp:=⟨[0,1,4,5,6,7,8,9,10,11,12,13,14,15,16],false,[0,2,5,11,16,20,24,31,33,39,43,49,61]⟩
def qf (k:Nat):Kp × ACode:=(qa9,part v8.body k)
theorem zf (M:Mac) (c:Ctx):(∀ Q E D H,W M c (qf 0) true Q E D H =
 Lz E 0 fun g t0=>B3 g (Op.lenSl [t0]) fun g t18=>W M c (qf 2) g Q ((4,t18)::E) D H) /\
 (∀ Q E D H,W M c (qf 2) true Q E D H =
  LOOP3 (W M c (qf 5)) (BLK3 0 (SEQ3 (W M c (qf 31)) Q)) E D H) /\
 (∀ Q E D H,W M c (qf 31) true Q E D H =
  Lz E 1 fun g t1=>B3 g ((Op.wrap .u32) [t1]) fun g t97=>W M c (qf 33) g Q ((12,t97)::E) D H) /\
 (∀ Q E D H,W M c (qf 5) true Q E D H =
  Lz E 4 fun g t4=>Cb g .geq t4 (.int .i64 8) (fun g=>Gt g M c (qf 11) Q E D H) (fun g=>GO3 g (SEQ3 (W M c (qf 11)) Q) (.exit 0) E D H)) /\
 (∀ Q E D H,W M c (qf 33) true Q E D H =
  Lz E 4 fun g t4=>Cb g .geq t4 (.int .i64 4) (fun g=>Ly g E 12 fun g t12=>Bn g .rem t12 (.int .u32 10000) fun g t101=>W M c (qf 39) g (SEQ3 (W M c (qf 49)) Q) ((13,t101)::E) D H) (fun g=>Gt g M c (qf 49) Q E D H)) /\
 (∀ Q E D H,W M c (qf 11) true Q E D H =
  Lz E 1 fun g t1=>Bn g .rem t1 (.int .u64 100000000) fun g t22=>B3 g ((Op.wrap .u32) [t22]) fun g t23=>Ly g E 1 fun g t1_1=>Bn g .quo t1_1 (.int .u64 100000000) fun g t25=>W M c (qf 16) g (BLK3 1 Q) ((1,t25)::(5,t23)::E) D H) /\
 (∀ Q E D H,W M c (qf 49) true Q E D H =
  Lz E 4 fun g t4=>Cb g .geq t4 (.int .i64 2) (fun g=>Ly g E 12 fun g t12=>Bn g .rem t12 (.int .u32 100) fun g t141=>Bn g .mul t141 (.int .u32 2) fun g t142=>Ly g E 12 fun g t12_1=>Bn g .quo t12_1 (.int .u32 100) fun g t144=>Ly g E 0 fun g t0=>Ly g E 4 fun g t4_1=>Bn g .sub t4_1 (.int .i64 1) fun g t147=>Bn g .sub t4_1 (.int .i64 2) fun g t150=>Bn g .add t142 (.int .u32 1) fun g t152=>B3 g (Op.indexStr [(.str yr),t152]) fun g t153=>B3 g (Op.indexStr [(.str yr),t142]) fun g t155=>Xs g t0 t147 t153 H fun g u H1=>Xs g t0 t150 t155 H1 fun g u_1 H2=>Ly g E 4 fun g t4_2=>Bn g .sub t4_2 (.int .i64 2) fun g t159=>Gt g M c (qf 61) Q ((4,t159)::(12,t144)::(16,t142)::E) D H2) (fun g=>Gt g M c (qf 61) Q E D H)) /\
 (∀ Q E D H,W M c (qf 39) true Q E D H =
  Lz E 12 fun g t12=>Bn g .quo t12 (.int .u32 10000) fun g t103=>Ly g E 13 fun g t13=>Bn g .quo t13 (.int .u32 100) fun g t105=>Bn g .mul t105 (.int .u32 2) fun g t106=>Bn g .rem t13 (.int .u32 100) fun g t108=>Bn g .mul t108 (.int .u32 2) fun g t109=>W M c (qf 43) g Q ((15,t109)::(14,t106)::(12,t103)::E) D H) /\
 (∀ Q E D H,W M c (qf 16) true Q E D H =
  Lz E 5 fun g t5=>Bn g .quo t5 (.int .u32 10000) fun g t27=>Bn g .rem t5 (.int .u32 10000) fun g t29=>Bn g .quo t29 (.int .u32 100) fun g t31=>Bn g .mul t31 (.int .u32 2) fun g t32=>Bn g .rem t29 (.int .u32 100) fun g t34=>Bn g .mul t34 (.int .u32 2) fun g t35=>W M c (qf 20) g Q ((9,t35)::(8,t32)::(7,t29)::(6,t27)::E) D H) /\
 (∀ Q E D H,W M c (qf 61) true Q E D H =
  Lz E 4 fun g t4=>Cb g .gtr t4 (.int .i64 0) (fun g=>Ly g E 0 fun g t0=>Ly g E 12 fun g t12=>Bn g .add (.int .u32 48) t12 fun g t164=>B3 g ((Op.wrap .u8) [t164]) fun g t165=>Xs g t0 (.int .i64 0) t165 H fun g u H1=>GO3 g Q .normal E D H1) (fun g=>GO3 g Q .normal E D H)) /\
 (∀ Q E D H,W M c (qf 43) true Q E D H =
  Lz E 0 fun g t0=>Ly g E 4 fun g t4=>Bn g .sub t4 (.int .i64 1) fun g t112=>Bn g .sub t4 (.int .i64 2) fun g t115=>Ly g E 15 fun g t15=>Bn g .add t15 (.int .u32 1) fun g t117=>B3 g (Op.indexStr [(.str yr),t117]) fun g t118=>B3 g (Op.indexStr [(.str yr),t15]) fun g t120=>Xs g t0 t112 t118 H fun g u H1=>Xs g t0 t115 t120 H1 fun g u_1 H2=>Ly g E 0 fun g t0_1=>Ly g E 4 fun g t4_1=>Bn g .sub t4_1 (.int .i64 3) fun g t125=>Bn g .sub t4_1 (.int .i64 4) fun g t128=>Ly g E 14 fun g t14=>Bn g .add t14 (.int .u32 1) fun g t130=>B3 g (Op.indexStr [(.str yr),t130]) fun g t131=>B3 g (Op.indexStr [(.str yr),t14]) fun g t133=>Xs g t0_1 t125 t131 H2 fun g u_2 H3=>Xs g t0_1 t128 t133 H3 fun g u_3 H4=>Ly g E 4 fun g t4_2=>Bn g .sub t4_2 (.int .i64 4) fun g t137=>GO3 g Q .normal ((4,t137)::E) D H4) /\
 (∀ Q E D H,W M c (qf 20) true Q E D H =
  Lz E 6 fun g t6=>Bn g .quo t6 (.int .u32 100) fun g t37=>Bn g .mul t37 (.int .u32 2) fun g t38=>Bn g .rem t6 (.int .u32 100) fun g t40=>Bn g .mul t40 (.int .u32 2) fun g t41=>Ly g E 0 fun g t0=>Ly g E 4 fun g t4=>Bn g .sub t4 (.int .i64 1) fun g t44=>Bn g .sub t4 (.int .i64 2) fun g t47=>Ly g E 9 fun g t9=>Bn g .add t9 (.int .u32 1) fun g t49=>B3 g (Op.indexStr [(.str yr),t49]) fun g t50=>B3 g (Op.indexStr [(.str yr),t9]) fun g t52=>Xs g t0 t44 t50 H fun g u H1=>Xs g t0 t47 t52 H1 fun g u_1 H2=>W M c (qf 24) g Q ((11,t41)::(10,t38)::E) D H2) /\
 (∀ Q E D H,W M c (qf 24) true Q E D H =
  Lz E 0 fun g t0=>Ly g E 4 fun g t4=>Bn g .sub t4 (.int .i64 3) fun g t57=>Bn g .sub t4 (.int .i64 4) fun g t60=>Ly g E 8 fun g t8=>Bn g .add t8 (.int .u32 1) fun g t62=>B3 g (Op.indexStr [(.str yr),t62]) fun g t63=>B3 g (Op.indexStr [(.str yr),t8]) fun g t65=>Xs g t0 t57 t63 H fun g u H1=>Xs g t0 t60 t65 H1 fun g u_1 H2=>Ly g E 0 fun g t0_1=>Ly g E 4 fun g t4_1=>Bn g .sub t4_1 (.int .i64 5) fun g t70=>Bn g .sub t4_1 (.int .i64 6) fun g t73=>Ly g E 11 fun g t11=>Bn g .add t11 (.int .u32 1) fun g t75=>B3 g (Op.indexStr [(.str yr),t75]) fun g t76=>B3 g (Op.indexStr [(.str yr),t11]) fun g t78=>Xs g t0_1 t70 t76 H2 fun g u_2 H3=>Xs g t0_1 t73 t78 H3 fun g u_3 H4=>Ly g E 0 fun g t0_2=>Ly g E 4 fun g t4_2=>Bn g .sub t4_2 (.int .i64 7) fun g t83=>Bn g .sub t4_2 (.int .i64 8) fun g t86=>Ly g E 10 fun g t10=>Bn g .add t10 (.int .u32 1) fun g t88=>B3 g (Op.indexStr [(.str yr),t88]) fun g t89=>B3 g (Op.indexStr [(.str yr),t10]) fun g t91=>Xs g t0_2 t83 t89 H4 fun g u_4 H5=>Xs g t0_2 t86 t91 H5 fun g u_5 H6=>Ly g E 4 fun g t4_3=>Bn g .sub t4_3 (.int .i64 8) fun g t95=>GO3 g Q .normal ((4,t95)::E) D H6):=by (repeat' apply And.intro)<;>(intro _ _ _ _;refine W_unf ?_;kernel_rfl)
theorem qd3:(cProg Tryz.prog).func zu=some v8/\v8.results=[]:=jh (by kernel_rfl)
theorem qd4 (h:W M ⟨none,zu⟩ (qf 0) true (FIN3 M [] Q) [(0,a0),(1,a1)] [] H):qa6 M zu [a0,a1] H Q:=callf (by decide) qd3 (ks:=qa9) (by kernel_rfl) h
def qah:AFunc:=funcAt Tryz.prog jx
def qbu:Kp:=⟨[0,2],false,[0]⟩
def qbv (k:Nat):Kp × ACode:=(qbu,part qah.body k)
theorem qe1 (M:Mac) (c:Ctx):(∀ Q E D H,W M c (qbv 0) true Q E D H =
 Lz E 0 fun g t0=>Bn g .mul t0 (.int .i64 78913) fun g t4=>Bn g .shr t4 (.int .u64 18) fun g t5=>GO3 g Q .ret ((2,t5)::(2,(.int .i64 0))::E) D H):=by intro _ _ _ _;refine W_unf ?_;kernel_rfl
theorem qez:(cProg Tryz.prog).func jx=some qah/\qah.results=[.tmp 2]:=jh (by kernel_rfl)
theorem qe0 (h:W M ⟨none,jx⟩ (qbv 0) true (FIN3 M [.tmp 2] Q) [(0,a0)] [] H):qa6 M jx [a0] H Q:=callf (by decide) qez (ks:=qbu) (by kernel_rfl) h
def qd5:AFunc:=funcAt Tryz.prog vy
def qgh:Kp:=⟨[0,2],false,[0,2,10,18,26]⟩
def zm (k:Nat):Kp × ACode:=(qgh,part qd5.body k)
theorem qci (M:Mac) (c:Ctx):(∀ Q E D H,W M c (zm 0) true Q E D H =
 W M c (zm 2) true Q ((2,(.int .i64 0))::E) D H) /\
 (∀ Q E D H,W M c (zm 2) true Q E D H =
  Lz E 0 fun g t0=>Cb g .geq t0 (.int .u64 4294967296) (fun g=>Ly g E 0 fun g t0_1=>Bn g .shr t0_1 (.int .u64 32) fun g t6=>Gt g M c (zm 10) Q ((2,(.int .i64 32))::(0,t6)::E) D H) (fun g=>Gt g M c (zm 10) Q E D H)) /\
 (∀ Q E D H,W M c (zm 10) true Q E D H =
  Lz E 0 fun g t0=>Cb g .geq t0 (.int .u64 65536) (fun g=>Ly g E 0 fun g t0_1=>Bn g .shr t0_1 (.int .u64 16) fun g t10=>Ly g E 2 fun g t2=>Bn g .add t2 (.int .i64 16) fun g t12=>Gt g M c (zm 18) Q ((2,t12)::(0,t10)::E) D H) (fun g=>Gt g M c (zm 18) Q E D H)) /\
 (∀ Q E D H,W M c (zm 18) true Q E D H =
  Lz E 0 fun g t0=>Cb g .geq t0 (.int .u64 256) (fun g=>Ly g E 0 fun g t0_1=>Bn g .shr t0_1 (.int .u64 8) fun g t16=>Ly g E 2 fun g t2=>Bn g .add t2 (.int .i64 8) fun g t18=>Gt g M c (zm 26) Q ((2,t18)::(0,t16)::E) D H) (fun g=>Gt g M c (zm 26) Q E D H)) /\
 (∀ Q E D H,W M c (zm 26) true Q E D H =
  Lz E 2 fun g t2=>Ly g E 0 fun g t0=>B3 g ((Op.wrap .u8) [t0]) fun g t21=>B3 g (Op.indexStr [(.str qi2),t21]) fun g t22=>B3 g ((Op.wrap .i64) [t22]) fun g t23=>Bn g .add t2 t23 fun g t24=>GO3 g Q .ret ((2,t24)::E) D H):=by (repeat' apply And.intro)<;>(intro _ _ _ _;refine W_unf ?_;kernel_rfl)
theorem qkb:(cProg Tryz.prog).func vy=some qd5/\qd5.results=[.tmp 2]:=jh (by kernel_rfl)
theorem qkc (h:W M ⟨none,vy⟩ (zm 0) true (FIN3 M [.tmp 2] Q) [(0,a0)] [] H):qa6 M vy [a0] H Q:=callf (by decide) qkb (ks:=qgh) (by kernel_rfl) h
def qag:AFunc:=funcAt Tryz.prog jw
def qbt:Kp:=⟨[0,2],false,[0,2,10]⟩
def z8 (k:Nat):Kp × ACode:=(qbt,part qag.body k)
theorem qey (M:Mac) (c:Ctx):(∀ Q E D H,W M c (z8 0) true Q E D H =
 W M c (z8 2) true Q ((2,(.int .i64 0))::E) D H) /\
 (∀ Q E D H,W M c (z8 2) true Q E D H =
  Lz E 0 fun g t0=>IF3 g t0 (fun g=>GO3 g (SEQ3 (W M c (z8 10)) Q) .ret ((2,(.int .i64 1))::E) D H) (fun g=>Gt g M c (z8 10) Q E D H)) /\
 (∀ Q E D H,W M c (z8 10) true Q E D H =
  GO3 true Q .ret ((2,(.int .i64 0))::E) D H):=by (repeat' apply And.intro)<;>(intro _ _ _ _;refine W_unf ?_;kernel_rfl)
theorem qew:(cProg Tryz.prog).func jw=some qag/\qag.results=[.tmp 2]:=jh (by kernel_rfl)
theorem qex (h:W M ⟨none,jw⟩ (z8 0) true (FIN3 M [.tmp 2] Q) [(0,a0)] [] H):qa6 M jw [a0] H Q:=callf (by decide) qew (ks:=qbt) (by kernel_rfl) h
end
end Go.Am
namespace Go.Am
abbrev jz:Nat:=92
abbrev yz:Nat:=11
abbrev qc3:Nat:=41
abbrev we:Nat:=25
abbrev qc4:Nat:=40
abbrev qd1:Nat:=96
abbrev qc5:Nat:=95
abbrev ke:Nat:=68
abbrev wg:Nat:=67
abbrev zk:Nat:=66
abbrev vi:Nat:=26
abbrev zl:Nat:=44
abbrev qu:Nat:=42
abbrev qam:Nat:=62
abbrev qj5:Nat:=90
abbrev qak:Nat:=91
abbrev yx:Nat:=60
abbrev ju:Nat:=63
abbrev vp:Nat:=43
abbrev xh:Nat:=34
abbrev qqo:Nat:=4
abbrev T_int:Nat:=3
abbrev jq:Nat:=76
abbrev qa8:Nat:=74
def qvf:List UInt8:=[115,116,114,105,110,103,115,58,32,110,101,103,97,116,105,118,101,32,82,101,112,101,97,116,32,99,111,117,110,116]
def qvg:List UInt8:=[115,116,114,105,110,103,115,58,32,82,101,112,101,97,116,32,111,117,116,112,117,116,32,108,101,110,103,116,104,32,111,118,101,114,102,108,111,119]
def qd0:List UInt8:=[32,32,32,32,32,32,32,32,32,32,32,32,32,32,32,32,32,32,32,32,32,32,32,32,32,32,32,32,32,32,32,32,32,32,32,32,32,32,32,32,32,32,32,32,32,32,32,32,32,32,32,32,32,32,32,32,32,32,32,32,32,32,32,32,32,32,32,32,32,32,32,32,32,32,32,32,32,32,32,32,32,32,32,32,32,32,32,32,32,32,32,32,32,32,32,32,32,32,32,32,32,32,32,32,32,32,32,32,32,32,32,32,32,32,32,32,32,32,32,32,32,32,32,32,32,32,32,32]
def qnx:List UInt8:=[45,45,45,45,45,45,45,45,45,45,45,45,45,45,45,45,45,45,45,45,45,45,45,45,45,45,45,45,45,45,45,45,45,45,45,45,45,45,45,45,45,45,45,45,45,45,45,45,45,45,45,45,45,45,45,45,45,45,45,45,45,45,45,45,45,45,45,45,45,45,45,45,45,45,45,45,45,45,45,45,45,45,45,45,45,45,45,45,45,45,45,45,45,45,45,45,45,45,45,45,45,45,45,45,45,45,45,45,45,45,45,45,45,45,45,45,45,45,45,45,45,45,45,45,45,45,45,45]
def qny:List UInt8:=[48,48,48,48,48,48,48,48,48,48,48,48,48,48,48,48,48,48,48,48,48,48,48,48,48,48,48,48,48,48,48,48,48,48,48,48,48,48,48,48,48,48,48,48,48,48,48,48,48,48,48,48,48,48,48,48,48,48,48,48,48,48,48,48]
def qnz:List UInt8:=[61,61,61,61,61,61,61,61,61,61,61,61,61,61,61,61,61,61,61,61,61,61,61,61,61,61,61,61,61,61,61,61,61,61,61,61,61,61,61,61,61,61,61,61,61,61,61,61,61,61,61,61,61,61,61,61,61,61,61,61,61,61,61,61,61,61,61,61,61,61,61,61,61,61,61,61,61,61,61,61,61,61,61,61,61,61,61,61,61,61,61,61,61,61,61,61,61,61,61,61,61,61,61,61,61,61,61,61,61,61,61,61,61,61,61,61,61,61,61,61,61,61,61,61,61,61,61,61]
def qn0:List UInt8:=[9,9,9,9,9,9,9,9,9,9,9,9,9,9,9,9,9,9,9,9,9,9,9,9,9,9,9,9,9,9,9,9,9,9,9,9,9,9,9,9,9,9,9,9,9,9,9,9,9,9,9,9,9,9,9,9,9,9,9,9,9,9,9,9]
def qvh:List UInt8:=[116,104,101,32,114,101,115,117,108,116,32,111,102,32,40,108,101,110,40,120,41,32,42,32,99,111,117,110,116,41,32,111,118,101,114,102,108,111,119,115]
noncomputable section
open Go.Proofs Go.Proofs.YtbimikjajohflaaGreatDoor
variable {M:Mac} [MK M] {H:AHeap} {Q:AEnd->AHeap->Prop} {a0 a1 a2:AV}
def qhl:AFunc:=funcAt Tryz.prog yz
def qky:Kp:=⟨[0,2,3,4],false,[0,2,10,14,22]⟩
def vq (k:Nat):Kp × ACode:=(qky,part qhl.body k)
theorem qk0 (M:Mac) (c:Ctx):(∀ Q E D H,W M c (vq 0) true Q E D H =
 W M c (vq 2) true Q ((3,(.int .i64 0))::(2,(.str []))::E) D H) /\
 (∀ Q E D H,W M c (vq 2) true Q E D H =
  Lz E 0 fun g t0=>C3 M g (.func we) [t0] H fun g t6 H1=>B3 g ((Op.un .not) [t6]) fun g t7=>IF3 g t7 (fun g=>GO3 g (SEQ3 (W M c (vq 10)) Q) .ret ((3,(.int .i64 2))::(2,(.str []))::E) D H1) (fun g=>Gt g M c (vq 10) Q E D H1)) /\
 (∀ Q E D H,W M c (vq 10) true Q E D H =
  Lz E 0 fun g t0=>B3 g ((Op.build [.nilp,.nils,.nils,(.int .i64 0),(.int .i64 0)] [(2,1)]) [t0]) fun g t9=>A3 g jq (AV.cells t9) H fun g t10 H1=>Ly g E 0 fun g t0_1=>B3 g (Op.lenSl [t0_1]) fun g t13=>Bn g .sub t13 (.int .i64 1) fun g t14=>C3 M g (.func vi) [t10,t14,(.int .i64 0)] H1 fun g t15 H2=>W M c (vq 14) g Q ((4,t10)::E) D H2) /\
 (∀ Q E D H,W M c (vq 14) true Q E D H =
  Lz E 4 fun g t4=>Nf g 4 t4 H fun g t19=>Cb g .gtr t19 (.int .i64 50) (fun g=>GO3 g (SEQ3 (W M c (vq 22)) Q) .ret ((3,(.int .i64 2))::(2,(.str []))::E) D H) (fun g=>Gt g M c (vq 22) Q E D H)) /\
 (∀ Q E D H,W M c (vq 22) true Q E D H =
  Lz E 4 fun g t4=>B3 g (Op.nilCheck [t4]) fun g t22=>B3 g ((Op.fieldAddr 0) [t22]) fun g t23=>C3 M g (.func ji) [t23] H fun g t24 H1=>GO3 g Q .ret ((3,(.int .i64 0))::(2,t24)::E) D H1):=by (repeat' apply And.intro)<;>(intro _ _ _ _;refine W_unf ?_;kernel_rfl)
theorem qrf:(cProg Tryz.prog).func yz=some qhl/\qhl.results=[.tmp 2,.tmp 3]:=jh (by kernel_rfl)
theorem qkz (h:W M ⟨none,yz⟩ (vq 0) true (FIN3 M [.tmp 2,.tmp 3] Q) [(0,a0)] [] H):qa6 M yz [a0] H Q:=callf (by decide) qrf (ks:=qky) (by kernel_rfl) h
def qka:AFunc:=funcAt Tryz.prog we
def qoc:Kp:=⟨[0,2,3,4,5,6,7,8,9,10,11,33,34,35,70,71,72],false,[0,2,10,14,19,25,31,39,41,46,52,56,64,65,66,70,78,80,81,82]⟩
def xb (k:Nat):Kp × ACode:=(qoc,part qka.body k)
theorem qod (M:Mac) (c:Ctx):(∀ Q E D H,W M c (xb 0) true Q E D H =
 W M c (xb 2) true Q ((2,(.bool false))::E) D H) /\
 (∀ Q E D H,W M c (xb 2) true Q E D H =
  Lz E 0 fun g t0=>B3 g (Op.lenSl [t0]) fun g t13=>Bn g .lss t13 (.int .i64 1) fun g t14=>JN (fun (k:Bool->AV->AV->AV->AHeap->Prop)=>B3 g (wantV false (some t14)) fun g w=>IG3 g w (fun g=>B3 g (Op.lenSl [t0]) fun g t17=>Bn g .gtr t17 (.int .i64 2000) fun g t18=>k g t18 t17 t0 H) (fun g=>k g uu uu uu H)) (fun g t18_1 t17_1 t16_1 H1=>B3 g (Op.pick [t14,(.bool true),t18_1]) fun g t19=>JN (fun (k:Bool->AV->AV->AV->AV->AV->AV->AV->AV->AHeap->Prop)=>B3 g (wantV false (some t19)) fun g w=>IG3 g w (fun g=>B3 g (Op.lenSl [t0]) fun g t23=>Bn g .sub t23 (.int .i64 1) fun g t24=>B3 g ((Op.indexSl 3) [t0,t24]) fun g t25=>B3 g ((Op.fieldAddr 0) [t25]) fun g t26=>B3 g (Op.load1 [t26] H1) fun g t27=>Bn g .neq t27 (.int .i64 20) fun g t28=>k g t28 t27 t26 t25 t24 t23 t0 t0 H1) (fun g=>k g uu uu uu uu uu uu uu uu H1)) (fun g t28_1 t27_1 t26_1 t25_1 t24_1 t23_1 t22_1 t21_1 H2=>B3 g (Op.pick [t19,(.bool true),t28_1]) fun g t29=>IF3 g t29 (fun g=>GO3 g (SEQ3 (W M c (xb 10)) Q) .ret ((2,(.bool false))::E) D H2) (fun g=>Gt g M c (xb 10) Q E D H2)))) /\
 (∀ Q E D H,W M c (xb 10) true Q E D H =
  Lz E 0 fun g t0=>B3 g (Op.lenSl [t0]) fun g t31=>B32 g ((Op.mkSlice qqo 1 [(.bool false)]) [t31,t31]) fun g o1 k1=>W M c (xb 14) g Q ((4,(k1 H.next))::(3,.nils)::E) D (H.alloc o1)) /\
 (∀ Q E D H,W M c (xb 14) true Q E D H =
  Lz E 0 fun g t0=>B3 g (Op.lenSl [t0]) fun g t34=>LOOP3 (W M c (xb 19)) (BLK3 0 (SEQ3 (W M c (xb 82)) Q)) ((35,(.int .i64 0))::(34,t34)::(33,t0)::E) D H) /\
 (∀ Q E D H,W M c (xb 82) true Q E D H =
  Lz E 3 fun g t3=>B3 g (Op.lenSl [t3]) fun g t132=>Bn g .eql t132 (.int .i64 1) fun g t133=>GO3 g Q .ret ((2,t133)::E) D H) /\
 (∀ Q E D H,W M c (xb 19) true Q E D H =
  Lz E 35 fun g t35=>Ly g E 34 fun g t34=>Cb g .lss t35 t34 (fun g=>Gt g M c (xb 25) Q E D H) (fun g=>GO3 g (SEQ3 (W M c (xb 25)) Q) (.exit 0) E D H)) /\
 (∀ Q E D H,W M c (xb 25) true Q E D H =
  Lz E 35 fun g t35=>Ly g E 33 fun g t33=>B3 g ((Op.indexSl 3) [t33,t35]) fun g t38=>B3 g ((Op.loadN 3) [t38] H) fun g t39=>A3 g xh [(.int .i64 0),(.int .u64 0),.nils] H fun g t6 H1=>B32 g ((Op.store 3) [t6,t39] H1) fun g u H2=>B3 g ((Op.loadN 3) [t6] H2) fun g t41=>C3 M g (.func qc4) [t41] H2 fun g t42 H3=>B3 g ((Op.extract 0) [t42]) fun g t43=>B3 g ((Op.extract 1) [t42]) fun g t44=>W M c (xb 31) g (BLK3 1 (SEQ3 (W M c (xb 81)) Q)) ((8,t44)::(7,t43)::(5,t35)::(6,t6)::E) D H3) /\
 (∀ Q E D H,W M c (xb 81) true Q E D H =
  Lz E 35 fun g t35=>Bn g .add t35 (.int .i64 1) fun g t130=>GO3 g Q .normal ((35,t130)::E) D H) /\
 (∀ Q E D H,W M c (xb 31) true Q E D H =
  Lz E 8 fun g t8=>B3 g ((Op.un .not) [t8]) fun g t46=>JN (fun (k:Bool->AV->AV->AV->AV->AV->AV->AHeap->Prop)=>B3 g (wantV false (some t46)) fun g w=>IG3 g w (fun g=>Ly g E 7 fun g t7=>B3 g (Op.lenSl [t7]) fun g t49=>Ly g E 6 fun g t6=>B3 g ((Op.fieldAddr 2) [t6]) fun g t50=>B3 g (Op.load1 [t50] H) fun g t51=>B3 g (Op.lenSl [t51]) fun g t52=>Bn g .neq t49 t52 fun g t53=>k g t53 t52 t51 t50 t49 t7 H) (fun g=>k g uu uu uu uu uu uu H)) (fun g t53_1 t52_1 t51_1 t50_1 t49_1 t48_1 H1=>B3 g (Op.pick [t46,(.bool true),t53_1]) fun g t54=>JN (fun (k:Bool->AV->AV->AV->AV->AV->AHeap->Prop)=>B3 g (wantV false (some t54)) fun g w=>IG3 g w (fun g=>Ly g E 7 fun g t7_1=>B3 g (Op.lenSl [t7_1]) fun g t57=>Ly g E 3 fun g t3=>B3 g (Op.lenSl [t3]) fun g t59=>Bn g .gtr t57 t59 fun g t60=>k g t60 t59 t3 t57 t7_1 H1) (fun g=>k g uu uu uu uu uu H1)) (fun g t60_1 t59_1 t58_1 t57_1 t56_1 H2=>B3 g (Op.pick [t54,(.bool true),t60_1]) fun g t61=>IF3 g t61 (fun g=>GO3 g (SEQ3 (W M c (xb 39)) Q) .ret ((2,(.bool false))::E) D H2) (fun g=>Gt g M c (xb 39) Q E D H2)))) /\
 (∀ Q E D H,W M c (xb 39) true Q E D H =
  Lz E 3 fun g t3=>B3 g (Op.lenSl [t3]) fun g t64=>Ly g E 7 fun g t7=>B3 g (Op.lenSl [t7]) fun g t66=>Bn g .sub t64 t66 fun g t67=>B3 g ((Op.sliceSl 1 [(some 0),none,none]) [t3,t67]) fun g t68=>W M c (xb 41) g Q ((9,t68)::E) D H) /\
 (∀ Q E D H,W M c (xb 41) true Q E D H =
  Lz E 6 fun g t6=>Fl g 2 t6 H fun g t70=>B3 g (Op.lenSl [t70]) fun g t71=>LOOP3 (W M c (xb 46)) (BLK3 2 (SEQ3 (W M c (xb 66)) Q)) ((72,(.int .i64 0))::(71,t71)::(70,t70)::E) D H) /\
 (∀ Q E D H,W M c (xb 66) true Q E D H =
  Lz E 6 fun g t6=>Fl g 0 t6 H fun g t111=>Cb g .eql t111 (.int .i64 18) (fun g=>W M c (xb 70) g (SEQ3 (W M c (xb 80)) Q) E D H) (fun g=>Gt g M c (xb 80) Q E D H)) /\
 (∀ Q E D H,W M c (xb 46) true Q E D H =
  Lz E 72 fun g t72=>Ly g E 71 fun g t71=>Cb g .lss t72 t71 (fun g=>Gt g M c (xb 52) Q E D H) (fun g=>GO3 g (SEQ3 (W M c (xb 52)) Q) (.exit 2) E D H)) /\
 (∀ Q E D H,W M c (xb 80) true Q E D H =
  Lz E 3 fun g t3=>B3 g (Op.lenSl [t3]) fun g t122=>Ly g E 7 fun g t7=>B3 g (Op.lenSl [t7]) fun g t124=>Bn g .sub t122 t124 fun g t125=>B3 g ((Op.sliceSl 1 [none,(some 0),none]) [t3,t125]) fun g t126=>Ly g E 5 fun g t5=>B32 g ((Op.buildSlice T_int 1 [(.int .i64 0)] [(0,1)]) [t5]) fun g o1 k1=>B32 g ((Op.append T_int 1 8) [t126,(k1 H.next)] (H.alloc o1)) fun g t129 H2=>GO3 g Q .normal ((3,t129)::E) D H2) /\
 (∀ Q E D H,W M c (xb 70) true Q E D H =
  Lz E 4 fun g t4=>Ly g E 5 fun g t5=>Xl g t4 t5 H fun g t116=>IF3 g t116 (fun g=>GO3 g (SEQ3 (W M c (xb 78)) Q) .ret ((2,(.bool false))::E) D H) (fun g=>Gt g M c (xb 78) Q E D H)) /\
 (∀ Q E D H,W M c (xb 52) true Q E D H =
  Lz E 72 fun g t72=>Ly g E 70 fun g t70=>Xl g t70 t72 H fun g t76=>W M c (xb 56) g (BLK3 3 (SEQ3 (W M c (xb 65)) Q)) ((11,t76)::(10,t72)::E) D H) /\
 (∀ Q E D H,W M c (xb 78) true Q E D H =
  Lz E 4 fun g t4=>Ly g E 5 fun g t5=>Xs g t4 t5 (.bool true) H fun g u H1=>GO3 g Q .normal E D H1) /\
 (∀ Q E D H,W M c (xb 65) true Q E D H =
  Lz E 72 fun g t72=>Bn g .add t72 (.int .i64 1) fun g t109=>GO3 g Q .normal ((72,t109)::E) D H) /\
 (∀ Q E D H,W M c (xb 56) true Q E D H =
  Lz E 9 fun g t9=>Ly g E 10 fun g t10=>Xl g t9 t10 H fun g t80=>Ly g E 11 fun g t11=>Bn g .neq t80 t11 fun g t82=>JN (fun (k:Bool->AV->AV->AV->AV->AV->AV->AV->AV->AV->AV->AV->AHeap->Prop)=>B3 g (wantV false (some t82)) fun g w=>IG3 g w (fun g=>Ly g E 0 fun g t0=>B3 g ((Op.indexSl 3) [t0,t11]) fun g t86=>B3 g ((Op.fieldAddr 0) [t86]) fun g t87=>B3 g (Op.load1 [t87] H) fun g t88=>Ly g E 7 fun g t7=>B3 g ((Op.indexSl 1) [t7,t10]) fun g t92=>B3 g (Op.load1 [t92] H) fun g t93=>C3 M g (.func qc3) [t88] H fun g t89 H1=>CK3 g (Op.load1 [t92] H1) (some t93) fun g=>Bn g .neq t89 t93 fun g t94=>k g t94 t89 t93 t92 t10 t7 t88 t87 t86 t11 t0 H1) (fun g=>k g uu uu uu uu uu uu uu uu uu uu uu H)) (fun g t94_1 t89_1 t93_1 t92_1 t91_1 t90_1 t88_1 t87_1 t86_1 t85_1 t84_1 H2=>B3 g (Op.pick [t82,(.bool true),t94_1]) fun g t95=>IF3 g t95 (fun g=>GO3 g (SEQ3 (W M c (xb 64)) Q) .ret ((2,(.bool false))::E) D H2) (fun g=>Gt g M c (xb 64) Q E D H2))) /\
 (∀ Q E D H,W M c (xb 64) true Q E D H =
  Lz E 4 fun g t4=>Ly g E 5 fun g t5=>Xl g t4 t5 H fun g t101=>JN (fun (k:Bool->AV->AV->AV->AV->AHeap->Prop)=>B3 g (wantV false (some t101)) fun g w=>IG3 g w (fun g=>Ly g E 11 fun g t11=>B3 g ((Op.indexSl 1) [t4,t11]) fun g t105=>B3 g (Op.load1 [t105] H) fun g t106=>k g t106 t105 t11 t4 H) (fun g=>k g uu uu uu uu H)) (fun g t106_1 t105_1 t104_1 t103_1 H1=>B3 g (Op.pick [t101,(.bool true),t106_1]) fun g t107=>Xs g t4 t5 t107 H1 fun g u H2=>GO3 g Q .normal E D H2)):=by (repeat' apply And.intro)<;>(intro _ _ _ _;refine W_unf ?_;kernel_rfl)
theorem qv7:(cProg Tryz.prog).func we=some qka/\qka.results=[.tmp 2]:=jh (by kernel_rfl)
theorem qv8 (h:W M ⟨none,we⟩ (xb 0) true (FIN3 M [.tmp 2] Q) [(0,a0)] [] H):qa6 M we [a0] H Q:=callf (by decide) qv7 (ks:=qoc) (by kernel_rfl) h
def qdi:AFunc:=funcAt Tryz.prog vi
def qfv:Kp:=⟨[0,1,2,7,15,16,17],false,[0,4,10,19]⟩
def kw (k:Nat):Kp × ACode:=(qfv,part qdi.body k)
theorem wo (M:Mac) (c:Ctx):(∀ Q E D H,W M c (kw 0) true Q E D H =
 Lz E 0 fun g t0=>Nf g 2 t0 H fun g t11=>Ly g E 1 fun g t1=>B3 g ((Op.indexSl 3) [t11,t1]) fun g t13=>Fl g 2 t13 H fun g t15=>B3 g (Op.lenSl [t15]) fun g t16=>LOOP3 (W M c (kw 4)) (BLK3 0 Q) ((17,(.int .i64 0))::(16,t16)::(15,t15)::E) D H) /\
 (∀ Q E D H,W M c (kw 4) true Q E D H =
  Lz E 17 fun g t17=>Ly g E 16 fun g t16=>Cb g .lss t17 t16 (fun g=>Gt g M c (kw 10) Q E D H) (fun g=>GO3 g (SEQ3 (W M c (kw 10)) Q) (.exit 0) E D H)) /\
 (∀ Q E D H,W M c (kw 10) true Q E D H =
  Lz E 15 fun g t15=>Ly g E 17 fun g t17=>Xl g t15 t17 H fun g t20=>Ly g E 0 fun g t0=>Ly g E 2 fun g t2=>C3 M g (.func vp) [(.str [32,32]),t2] H fun g t23 H1=>C3 M g (.func qu) [t0,t23] H1 fun g t24 H2=>Ly g E 0 fun g t0_1=>Ly g E 2 fun g t2_1=>C3 M g (.func zl) [t0_1,t20,t2_1] H2 fun g t28 H3=>Ly g E 0 fun g t0_2=>C3 M g (.func qu) [t0_2,(.str [10])] H3 fun g t30 H4=>GO3 g (BLK3 1 (SEQ3 (W M c (kw 19)) Q)) .normal ((7,t20)::E) D H4) /\
 (∀ Q E D H,W M c (kw 19) true Q E D H =
  Lz E 17 fun g t17=>Bn g .add t17 (.int .i64 1) fun g t31=>GO3 g Q .normal ((17,t31)::E) D H):=by (repeat' apply And.intro)<;>(intro _ _ _ _;refine W_unf ?_;kernel_rfl)
theorem qji:(cProg Tryz.prog).func vi=some qdi/\qdi.results=[]:=jh (by kernel_rfl)
theorem qjj (h:W M ⟨none,vi⟩ (kw 0) true (FIN3 M [] Q) [(0,a0),(1,a1),(2,a2)] [] H):qa6 M vi [a0,a1,a2] H Q:=callf (by decide) qji (ks:=qfv) (by kernel_rfl) h
def qhn:AFunc:=funcAt Tryz.prog qc4
def qk2:Kp:=⟨[0,1,2,3,4,33,43,51,75],false,[0,4,12,24,28,34,38,44,54,60,70,77]⟩
def xv (k:Nat):Kp × ACode:=(qk2,part qhn.body k)
theorem jr (M:Mac) (c:Ctx):(∀ Q E D H,W M c (xv 0) true Q E D H =
 Lz E 0 fun g t0=>A3 g xh (AV.cells t0) H fun g t1 H1=>Fl g 0 t1 H1 fun g t6=>Bn g .eql t6 (.int .i64 2) fun g t7=>JN (fun (k:Bool->AV->AV->AV->AHeap->Prop)=>B3 g (wantV false (some t7)) fun g w=>IG3 g w (fun g=>B3 g ((Op.fieldAddr 0) [t1]) fun g t9=>B3 g (Op.load1 [t9] H1) fun g t10=>Bn g .eql t10 (.int .i64 14) fun g t11=>k g t11 t10 t9 H1) (fun g=>k g uu uu uu H1)) (fun g t11_1 t10_1 t9_1 H2=>B3 g (Op.pick [t7,(.bool true),t11_1]) fun g t12=>W M c (xv 4) g Q ((4,t12)::(3,(.bool false))::(2,.nils)::(1,t1)::E) D H2)) /\
 (∀ Q E D H,W M c (xv 4) true Q E D H =
  Lz E 4 fun g t4=>JN (fun (k:Bool->AV->AV->AV->AHeap->Prop)=>B3 g (wantV true (some t4)) fun g w=>IG3 g w (fun g=>Ly g E 1 fun g t1=>B3 g ((Op.fieldAddr 1) [t1]) fun g t15=>B3 g (Op.load1 [t15] H) fun g t16=>Bn g .gtr t16 (.int .u64 7) fun g t17=>k g t17 t16 t15 H) (fun g=>k g uu uu uu H)) (fun g t17_1 t16_1 t15_1 H1=>B3 g (Op.pick [t4,t17_1,(.bool false)]) fun g t18=>JN (fun (k:Bool->AV->AV->AV->AHeap->Prop)=>B3 g (wantV false (some t18)) fun g w=>IG3 g w (fun g=>B3 g ((Op.un .not) [t4]) fun g t21=>k g t21 t21 t4 H1) (fun g=>k g uu uu uu H1)) (fun g t22_1 t21_1 t20_1 H2=>JN (fun (k:Bool->AV->AV->AV->AHeap->Prop)=>B3 g (wantV true (some t22_1)) fun g w=>IG3 g w (fun g=>Ly g E 1 fun g t1_1=>B3 g ((Op.fieldAddr 0) [t1_1]) fun g t23=>B3 g (Op.load1 [t23] H2) fun g t24=>Bn g .neq t24 (.int .i64 1) fun g t25=>k g t25 t24 t23 H2) (fun g=>k g uu uu uu H2)) (fun g t25_1 t24_1 t23_1 H3=>JN (fun (k:Bool->AV->AV->AHeap->Prop)=>B3 g (wantV false (some t18)) fun g w=>IG3 g w (fun g=>B3 g (Op.pick [t22_1,t25_1,(.bool false)]) fun g t26=>k g t26 t26 H3) (fun g=>k g uu uu H3)) (fun g t27_1 t26_1 H4=>JN (fun (k:Bool->AV->AV->AV->AHeap->Prop)=>B3 g (wantV true (some t27_1)) fun g w=>IG3 g w (fun g=>Ly g E 1 fun g t1_2=>B3 g ((Op.fieldAddr 1) [t1_2]) fun g t28=>B3 g (Op.load1 [t28] H4) fun g t29=>Bn g .neq t29 (.int .u64 0) fun g t30=>k g t30 t29 t28 H4) (fun g=>k g uu uu uu H4)) (fun g t30_1 t29_1 t28_1 H5=>JN (fun (k:Bool->AV->AHeap->Prop)=>B3 g (wantV false (some t18)) fun g w=>IG3 g w (fun g=>B3 g (Op.pick [t27_1,t30_1,(.bool false)]) fun g t31=>k g t31 H5) (fun g=>k g uu H5)) (fun g t31_1 H6=>B3 g (Op.pick [t18,(.bool true),t31_1]) fun g t32=>IF3 g t32 (fun g=>GO3 g (SEQ3 (W M c (xv 12)) Q) .ret ((3,(.bool false))::(2,.nils)::E) D H6) (fun g=>Gt g M c (xv 12) Q E D H6)))))))) /\
 (∀ Q E D H,W M c (xv 12) true Q E D H =
  Lz E 1 fun g t1=>Fl g 0 t1 H fun g t35=>Bn g .eql t35 (.int .i64 1) fun g t36=>IF3 g t36 (fun g=>Gt g M c (xv 24) (BLK3 0 (SEQ3 (W M c (xv 77)) Q)) ((33,t36)::E) D H) (fun g=>Ly g E 1 fun g t1_1=>Fl g 0 t1_1 H fun g t38=>Bn g .eql t38 (.int .i64 2) fun g t39=>IF3 g t39 (fun g=>Gt g M c (xv 24) (BLK3 0 (SEQ3 (W M c (xv 77)) Q)) ((33,t39)::(33,t36)::E) D H) (fun g=>Ly g E 1 fun g t1_2=>Fl g 0 t1_2 H fun g t41=>Bn g .eql t41 (.int .i64 19) fun g t42=>Gt g M c (xv 24) (BLK3 0 (SEQ3 (W M c (xv 77)) Q)) ((33,t42)::(33,t39)::(33,t36)::E) D H))) /\
 (∀ Q E D H,W M c (xv 77) true Q E D H =
  GO3 true Q .ret ((3,(.bool false))::(2,.nils)::E) D H) /\
 (∀ Q E D H,W M c (xv 24) true Q E D H =
  Lz E 33 fun g t33=>IF3 g t33 (fun g=>GO3 g Q .ret ((3,(.bool true))::(2,.nils)::E) D H) (fun g=>W M c (xv 28) g Q E D H)) /\
 (∀ Q E D H,W M c (xv 28) true Q E D H =
  Lz E 1 fun g t1=>Fl g 0 t1 H fun g t45=>Bn g .eql t45 (.int .i64 3) fun g t46=>IF3 g t46 (fun g=>Gt g M c (xv 34) Q ((43,t46)::E) D H) (fun g=>Ly g E 1 fun g t1_1=>Fl g 0 t1_1 H fun g t48=>Bn g .eql t48 (.int .i64 14) fun g t49=>Gt g M c (xv 34) Q ((43,t49)::(43,t46)::E) D H)) /\
 (∀ Q E D H,W M c (xv 34) true Q E D H =
  Lz E 43 fun g t43=>IF3 g t43 (fun g=>B32 g ((Op.buildSlice T_int 1 [(.int .i64 0)] [(0,1)]) [(.int .i64 1)]) fun g o1 k1=>GO3 g Q .ret ((3,(.bool true))::(2,(k1 H.next))::E) D (H.alloc o1)) (fun g=>W M c (xv 38) g Q E D H)) /\
 (∀ Q E D H,W M c (xv 38) true Q E D H =
  Lz E 1 fun g t1=>Fl g 0 t1 H fun g t53=>Bn g .geq t53 (.int .i64 4) fun g t54=>JN (fun (k:Bool->AV->AV->AV->AHeap->Prop)=>B3 g (wantV true (some t54)) fun g w=>IG3 g w (fun g=>B3 g ((Op.fieldAddr 0) [t1]) fun g t56=>B3 g (Op.load1 [t56] H) fun g t57=>Bn g .leq t57 (.int .i64 13) fun g t58=>k g t58 t57 t56 H) (fun g=>k g uu uu uu H)) (fun g t58_1 t57_1 t56_1 H1=>B3 g (Op.pick [t54,t58_1,(.bool false)]) fun g t59=>IF3 g t59 (fun g=>Gt g M c (xv 44) Q ((51,t59)::E) D H1) (fun g=>Ly g E 1 fun g t1_1=>Fl g 0 t1_1 H1 fun g t61=>Bn g .eql t61 (.int .i64 15) fun g t62=>Gt g M c (xv 44) Q ((51,t62)::(51,t59)::E) D H1))) /\
 (∀ Q E D H,W M c (xv 44) true Q E D H =
  Lz E 51 fun g t51=>IF3 g t51 (fun g=>B32 g ((Op.buildSlice T_int 2 [(.int .i64 0)] [(0,1),(1,1)]) [(.int .i64 1),(.int .i64 1)]) fun g o1 k1=>GO3 g Q .ret ((3,(.bool true))::(2,(k1 H.next))::E) D (H.alloc o1)) (fun g=>Ly g E 1 fun g t1=>Fl g 0 t1 H fun g t66=>Bn g .eql t66 (.int .i64 16) fun g t67=>JN (fun (k:Bool->AV->AV->AV->AV->AHeap->Prop)=>B3 g (wantV true (some t67)) fun g w=>IG3 g w (fun g=>B3 g ((Op.fieldAddr 2) [t1]) fun g t69=>B3 g (Op.load1 [t69] H) fun g t70=>B3 g (Op.lenSl [t70]) fun g t71=>Bn g .eql t71 (.int .i64 3) fun g t72=>k g t72 t71 t70 t69 H) (fun g=>k g uu uu uu uu H)) (fun g t72_1 t71_1 t70_1 t69_1 H1=>B3 g (Op.pick [t67,t72_1,(.bool false)]) fun g t73=>IF3 g t73 (fun g=>B32 g ((Op.buildSlice T_int 3 [(.int .i64 0)] [(0,1),(1,1),(2,1)]) [(.int .i64 2),(.int .i64 4),(.int .i64 4)]) fun g o2 k2=>GO3 g Q .ret ((3,(.bool true))::(2,(k2 H1.next))::E) D (H1.alloc o2)) (fun g=>W M c (xv 54) g Q E D H1)))) /\
 (∀ Q E D H,W M c (xv 54) true Q E D H =
  Lz E 1 fun g t1=>Fl g 0 t1 H fun g t77=>Bn g .eql t77 (.int .i64 16) fun g t78=>IF3 g t78 (fun g=>Gt g M c (xv 60) Q ((75,t78)::E) D H) (fun g=>Ly g E 1 fun g t1_1=>Fl g 0 t1_1 H fun g t80=>Bn g .eql t80 (.int .i64 17) fun g t81=>Gt g M c (xv 60) Q ((75,t81)::(75,t78)::E) D H)) /\
 (∀ Q E D H,W M c (xv 60) true Q E D H =
  Lz E 75 fun g t75=>IF3 g t75 (fun g=>B32 g ((Op.buildSlice T_int 2 [(.int .i64 0)] [(0,1),(1,1)]) [(.int .i64 2),(.int .i64 4)]) fun g o1 k1=>GO3 g Q .ret ((3,(.bool true))::(2,(k1 H.next))::E) D (H.alloc o1)) (fun g=>Ly g E 1 fun g t1=>Fl g 0 t1 H fun g t85=>Cb g .eql t85 (.int .i64 18) (fun g=>B32 g ((Op.buildSlice T_int 1 [(.int .i64 0)] [(0,1)]) [(.int .i64 4)]) fun g o1 k1=>GO3 g Q .ret ((3,(.bool true))::(2,(k1 H.next))::E) D (H.alloc o1)) (fun g=>W M c (xv 70) g Q E D H))) /\
 (∀ Q E D H,W M c (xv 70) true Q E D H =
  Lz E 1 fun g t1=>Fl g 0 t1 H fun g t90=>Cb g .eql t90 (.int .i64 20) (fun g=>B32 g ((Op.buildSlice T_int 1 [(.int .i64 0)] [(0,1)]) [(.int .i64 3)]) fun g o1 k1=>Ly g E 1 fun g t1_1=>Fl g 2 t1_1 (H.alloc o1) fun g t94=>B3 g (Op.lenSl [t94]) fun g t95=>C3 M g (.func yx) [(k1 H.next),t95] (H.alloc o1) fun g t96 H2=>GO3 g Q .ret ((3,(.bool true))::(2,t96)::E) D H2) (fun g=>GO3 g Q .normal E D H)):=by (repeat' apply And.intro)<;>(intro _ _ _ _;refine W_unf ?_;kernel_rfl)
theorem qri:(cProg Tryz.prog).func qc4=some qhn/\qhn.results=[.tmp 2,.tmp 3]:=jh (by kernel_rfl)
theorem qrj (h:W M ⟨none,qc4⟩ (xv 0) true (FIN3 M [.tmp 2,.tmp 3] Q) [(0,a0)] [] H):qa6 M qc4 [a0] H Q:=callf (by decide) qri (ks:=qk2) (by kernel_rfl) h
def qhm:AFunc:=funcAt Tryz.prog qc3
def qk1:Kp:=⟨[0,2],false,[0,2,16,29]⟩
def qaj (k:Nat):Kp × ACode:=(qk1,part qhm.body k)
theorem qc8 (M:Mac) (c:Ctx):(∀ Q E D H,W M c (qaj 0) true Q E D H =
 W M c (qaj 2) true Q ((2,(.int .i64 0))::E) D H) /\
 (∀ Q E D H,W M c (qaj 2) true Q E D H =
  Lz E 0 fun g t0=>Bn g .geq t0 (.int .i64 1) fun g t5=>JN (fun (k:Bool->AV->AV->AHeap->Prop)=>B3 g (wantV true (some t5)) fun g w=>IG3 g w (fun g=>Bn g .leq t0 (.int .i64 10) fun g t8=>k g t8 t0 H) (fun g=>k g uu uu H)) (fun g t8_1 t7_1 H1=>B3 g (Op.pick [t5,t8_1,(.bool false)]) fun g t9=>IF3 g t9 (fun g=>GO3 g (BLK3 0 (SEQ3 (W M c (qaj 29)) Q)) .ret ((2,(.int .i64 1))::E) D H1) (fun g=>Ly g E 0 fun g t0_1=>Bn g .geq t0_1 (.int .i64 11) fun g t12=>JN (fun (k:Bool->AV->AV->AHeap->Prop)=>B3 g (wantV true (some t12)) fun g w=>IG3 g w (fun g=>Bn g .leq t0_1 (.int .i64 13) fun g t15=>k g t15 t0_1 H1) (fun g=>k g uu uu H1)) (fun g t15_1 t14_1 H2=>B3 g (Op.pick [t12,t15_1,(.bool false)]) fun g t16=>IF3 g t16 (fun g=>GO3 g (BLK3 0 (SEQ3 (W M c (qaj 29)) Q)) .ret ((2,(.int .i64 2))::E) D H2) (fun g=>W M c (qaj 16) g (BLK3 0 (SEQ3 (W M c (qaj 29)) Q)) E D H2))))) /\
 (∀ Q E D H,W M c (qaj 29) true Q E D H =
  GO3 true Q .ret ((2,(.int .i64 0))::E) D H) /\
 (∀ Q E D H,W M c (qaj 16) true Q E D H =
  Lz E 0 fun g t0=>Bn g .geq t0 (.int .i64 14) fun g t19=>JN (fun (k:Bool->AV->AV->AHeap->Prop)=>B3 g (wantV true (some t19)) fun g w=>IG3 g w (fun g=>Bn g .leq t0 (.int .i64 19) fun g t22=>k g t22 t0 H) (fun g=>k g uu uu H)) (fun g t22_1 t21_1 H1=>B3 g (Op.pick [t19,t22_1,(.bool false)]) fun g t23=>IF3 g t23 (fun g=>GO3 g Q .ret ((2,(.int .i64 3))::E) D H1) (fun g=>Ly g E 0 fun g t0_1=>Cb g .eql t0_1 (.int .i64 20) (fun g=>GO3 g Q .ret ((2,(.int .i64 4))::E) D H1) (fun g=>GO3 g Q .normal E D H1)))):=by (repeat' apply And.intro)<;>(intro _ _ _ _;refine W_unf ?_;kernel_rfl)
theorem qrg:(cProg Tryz.prog).func qc3=some qhm/\qhm.results=[.tmp 2]:=jh (by kernel_rfl)
theorem qrh (h:W M ⟨none,qc3⟩ (qaj 0) true (FIN3 M [.tmp 2] Q) [(0,a0)] [] H):qa6 M qc3 [a0] H Q:=callf (by decide) qrg (ks:=qk1) (by kernel_rfl) h
def qdk:AFunc:=funcAt Tryz.prog qu
def qfw:Kp:=⟨[0,1,5,7,8,11,12,34],false,[0,5,11,18,23,27,33,36]⟩
def xr (k:Nat):Kp × ACode:=(qfw,part qdk.body k)
theorem qfx (M:Mac) (c:Ctx):(∀ Q E D H,W M c (xr 0) true Q E D H =
 Lz E 1 fun g t1=>B32 g (Op.rangeStr [t1]) fun g o1 k1=>LOOP3 (W M c (xr 5)) (BLK3 0 (SEQ3 (W M c (xr 36)) Q)) ((7,(k1 H.next))::E) D (H.alloc o1)) /\
 (∀ Q E D H,W M c (xr 36) true Q E D H =
  Lz E 0 fun g t0=>B3 g (Op.nilCheck [t0]) fun g t45=>B3 g ((Op.fieldAddr 0) [t45]) fun g t46=>Ly g E 1 fun g t1=>C3 M g (.func zo) [t46,t1] H fun g t48 H1=>GO3 g Q .normal E D H1) /\
 (∀ Q E D H,W M c (xr 5) true Q E D H =
  Lz E 7 fun g t7=>B32 g (Op.nextStr [t7] H) fun g t8 H1=>B3 g ((Op.extract 0) [t8]) fun g t9=>IF3 g t9 (fun g=>Gt g M c (xr 11) Q ((8,t8)::E) D H1) (fun g=>GO3 g (SEQ3 (W M c (xr 11)) Q) (.exit 0) ((8,t8)::E) D H1)) /\
 (∀ Q E D H,W M c (xr 11) true Q E D H =
  Lz E 8 fun g t8=>B3 g ((Op.extract 2) [t8]) fun g t10=>W M c (xr 18) g (SEQ3 (W M c (xr 23)) (BLK3 2 (BLK3 1 Q))) ((11,t10)::(5,t10)::E) D H) /\
 (∀ Q E D H,W M c (xr 23) true Q E D H =
  Lz E 12 fun g t12=>IF3 g t12 (fun g=>Ly g E 0 fun g t0=>Nf g 3 t0 H fun g t18=>Bn g .add t18 (.int .i64 1) fun g t19=>Ns g 3 t0 t19 H fun g u H1=>Ly g E 0 fun g t0_1=>Nf g 4 t0_1 H1 fun g t26=>Nf g 3 t0_1 H1 fun g t30=>B3 g ((Op.minmax true) [t26,t30]) fun g t31=>Ns g 4 t0_1 t31 H1 fun g u_1 H2=>GO3 g Q .normal E D H2) (fun g=>W M c (xr 27) g Q E D H)) /\
 (∀ Q E D H,W M c (xr 18) true Q E D H =
  Lz E 11 fun g t11=>Bn g .eql t11 (.int .i32 40) fun g t13=>IF3 g t13 (fun g=>GO3 g Q .normal ((12,t13)::E) D H) (fun g=>Ly g E 11 fun g t11_1=>Bn g .eql t11_1 (.int .i32 123) fun g t14=>GO3 g Q .normal ((12,t14)::(12,t13)::E) D H)) /\
 (∀ Q E D H,W M c (xr 27) true Q E D H =
  Lz E 11 fun g t11=>Bn g .eql t11 (.int .i32 41) fun g t35=>IF3 g t35 (fun g=>Gt g M c (xr 33) Q ((34,t35)::E) D H) (fun g=>Ly g E 11 fun g t11_1=>Bn g .eql t11_1 (.int .i32 125) fun g t36=>Gt g M c (xr 33) Q ((34,t36)::(34,t35)::E) D H)) /\
 (∀ Q E D H,W M c (xr 33) true Q E D H =
  Lz E 34 fun g t34=>IF3 g t34 (fun g=>Ly g E 0 fun g t0=>Nf g 3 t0 H fun g t40=>Bn g .sub t40 (.int .i64 1) fun g t41=>Ns g 3 t0 t41 H fun g u H1=>GO3 g Q .normal E D H1) (fun g=>GO3 g Q .normal E D H)):=by (repeat' apply And.intro)<;>(intro _ _ _ _;refine W_unf ?_;kernel_rfl)
theorem qjk:(cProg Tryz.prog).func qu=some qdk/\qdk.results=[]:=jh (by kernel_rfl)
theorem qjl (h:W M ⟨none,qu⟩ (xr 0) true (FIN3 M [] Q) [(0,a0),(1,a1)] [] H):qa6 M qu [a0,a1] H Q:=callf (by decide) qjk (ks:=qfw) (by kernel_rfl) h
def qeo:AFunc:=funcAt Tryz.prog vp
def qg5:Kp:=⟨[0,1,4,5,6,7,8,9,10,11,42,43],false,[0,2,19,25,27,33,35,43,52,60,65,79,91,99,101,107,113,117,119,122,128,132]⟩
def qk (k:Nat):Kp × ACode:=(qg5,part qeo.body k)
theorem qlj (M:Mac) (c:Ctx):(∀ Q E D H,W M c (qk 0) true Q E D H =
 W M c (qk 2) true Q ((4,(.str []))::E) D H) /\
 (∀ Q E D H,W M c (qk 2) true Q E D H =
  Lz E 1 fun g t1=>Cb g .eql t1 (.int .i64 0) (fun g=>GO3 g (BLK3 0 (SEQ3 (W M c (qk 19)) Q)) .ret ((4,(.str []))::(11,t1)::E) D H) (fun g=>Cb g .eql t1 (.int .i64 1) (fun g=>Ly g E 0 fun g t0=>GO3 g (BLK3 0 (SEQ3 (W M c (qk 19)) Q)) .ret ((4,t0)::(11,t1)::E) D H) (fun g=>GO3 g (BLK3 0 (SEQ3 (W M c (qk 19)) Q)) .normal ((11,t1)::E) D H))) /\
 (∀ Q E D H,W M c (qk 19) true Q E D H =
  Lz E 1 fun g t1=>Cb g .lss t1 (.int .i64 0) (fun g=>B3 g ((Op.mkIface qay) [(.str qvf)]) fun g t19=>False) (fun g=>Gt g M c (qk 25) Q E D H)) /\
 (∀ Q E D H,W M c (qk 25) true Q E D H =
  Lz E 0 fun g t0=>B3 g (Op.lenStr [t0]) fun g t22=>B3 g ((Op.wrap .u64) [t22]) fun g t23=>Ly g E 1 fun g t1=>B3 g ((Op.wrap .u64) [t1]) fun g t25=>C3 M g (.func qam) [t23,t25] H fun g t26 H1=>B3 g ((Op.extract 0) [t26]) fun g t27=>B3 g ((Op.extract 1) [t26]) fun g t28=>W M c (qk 27) g Q ((6,t28)::(5,t27)::E) D H1) /\
 (∀ Q E D H,W M c (qk 27) true Q E D H =
  Lz E 5 fun g t5=>Bn g .gtr t5 (.int .u64 0) fun g t30=>JN (fun (k:Bool->AV->AV->AHeap->Prop)=>B3 g (wantV false (some t30)) fun g w=>IG3 g w (fun g=>Ly g E 6 fun g t6=>Bn g .gtr t6 (.int .u64 9223372036854775807) fun g t33=>k g t33 t6 H) (fun g=>k g uu uu H)) (fun g t33_1 t32_1 H1=>B3 g (Op.pick [t30,(.bool true),t33_1]) fun g t34=>IF3 g t34 (fun g=>B3 g ((Op.mkIface qay) [(.str qvg)]) fun g t35=>False) (fun g=>Gt g M c (qk 33) Q E D H1))) /\
 (∀ Q E D H,W M c (qk 33) true Q E D H =
  Lz E 6 fun g t6=>B3 g ((Op.wrap .i64) [t6]) fun g t37=>W M c (qk 35) g Q ((7,t37)::E) D H) /\
 (∀ Q E D H,W M c (qk 35) true Q E D H =
  Lz E 0 fun g t0=>B3 g (Op.lenStr [t0]) fun g t39=>Cb g .eql t39 (.int .i64 0) (fun g=>GO3 g (SEQ3 (W M c (qk 43)) Q) .ret ((4,(.str []))::E) D H) (fun g=>Gt g M c (qk 43) Q E D H)) /\
 (∀ Q E D H,W M c (qk 43) true Q E D H =
  Lz E 0 fun g t0=>B3 g (Op.indexStr [t0,(.int .i64 0)]) fun g t42=>Bn g .eql t42 (.int .u8 32) fun g t44=>IF3 g t44 (fun g=>Gt g M c (qk 65) (BLK3 1 (SEQ3 (W M c (qk 99)) Q)) ((43,t44)::(42,t42)::E) D H) (fun g=>W M c (qk 52) g (SEQ3 (W M c (qk 65)) (BLK3 1 (SEQ3 (W M c (qk 99)) Q))) ((43,t44)::(42,t42)::E) D H)) /\
 (∀ Q E D H,W M c (qk 99) true Q E D H =
  Lz E 7 fun g t7=>W M c (qk 101) g Q ((8,t7)::E) D H) /\
 (∀ Q E D H,W M c (qk 65) true Q E D H =
  Lz E 43 fun g t43=>IF3 g t43 (fun g=>Ly g E 7 fun g t7=>Bn g .leq t7 (.int .i64 128) fun g t51=>JN (fun (k:Bool->AV->AV->AHeap->Prop)=>B3 g (wantV true (some t51)) fun g w=>IG3 g w (fun g=>Ly g E 0 fun g t0=>C3 M g (.func ju) [(.str qd0),t0] H fun g t54 H1=>k g t54 t0 H1) (fun g=>k g uu uu H)) (fun g t54_1 t53_1 H2=>B3 g (Op.pick [t51,t54_1,(.bool false)]) fun g t55=>IF3 g t55 (fun g=>Ly g E 7 fun g t7_1=>B3 g ((Op.sliceStr [none,(some 0)]) [(.str qd0),t7_1]) fun g t57=>GO3 g (BLK3 2 Q) .ret ((4,t57)::E) D H2) (fun g=>Ly g E 7 fun g t7_1=>Bn g .leq t7_1 (.int .i64 128) fun g t60=>JN (fun (k:Bool->AV->AV->AHeap->Prop)=>B3 g (wantV true (some t60)) fun g w=>IG3 g w (fun g=>Ly g E 0 fun g t0_1=>C3 M g (.func ju) [(.str qnx),t0_1] H2 fun g t63 H3=>k g t63 t0_1 H3) (fun g=>k g uu uu H2)) (fun g t63_1 t62_1 H4=>B3 g (Op.pick [t60,t63_1,(.bool false)]) fun g t64=>IF3 g t64 (fun g=>Ly g E 7 fun g t7_2=>B3 g ((Op.sliceStr [none,(some 0)]) [(.str qnx),t7_2]) fun g t66=>GO3 g (BLK3 2 Q) .ret ((4,t66)::E) D H4) (fun g=>W M c (qk 79) g (BLK3 2 Q) E D H4))))) (fun g=>GO3 g Q .normal E D H)) /\
 (∀ Q E D H,W M c (qk 52) true Q E D H =
  Lz E 42 fun g t42=>Bn g .eql t42 (.int .u8 45) fun g t45=>IF3 g t45 (fun g=>GO3 g Q .normal ((43,t45)::E) D H) (fun g=>Ly g E 42 fun g t42_1=>Bn g .eql t42_1 (.int .u8 48) fun g t46=>IF3 g t46 (fun g=>GO3 g Q .normal ((43,t46)::(43,t45)::E) D H) (fun g=>W M c (qk 60) g Q ((43,t46)::(43,t45)::E) D H))) /\
 (∀ Q E D H,W M c (qk 101) true Q E D H =
  Lz E 7 fun g t7=>Cb g .gtr t7 (.int .i64 8192) (fun g=>Ly g E 0 fun g t0=>B3 g (Op.lenStr [t0]) fun g t98=>Bn g .quo (.int .i64 8192) t98 fun g t99=>B3 g (Op.lenStr [t0]) fun g t101=>Bn g .mul t99 t101 fun g t102=>W M c (qk 107) g (SEQ3 (W M c (qk 113)) Q) ((8,t102)::E) D H) (fun g=>Gt g M c (qk 113) Q E D H)) /\
 (∀ Q E D H,W M c (qk 79) true Q E D H =
  Lz E 7 fun g t7=>Bn g .leq t7 (.int .i64 64) fun g t69=>JN (fun (k:Bool->AV->AV->AHeap->Prop)=>B3 g (wantV true (some t69)) fun g w=>IG3 g w (fun g=>Ly g E 0 fun g t0=>C3 M g (.func ju) [(.str qny),t0] H fun g t72 H1=>k g t72 t0 H1) (fun g=>k g uu uu H)) (fun g t72_1 t71_1 H2=>B3 g (Op.pick [t69,t72_1,(.bool false)]) fun g t73=>IF3 g t73 (fun g=>Ly g E 7 fun g t7_1=>B3 g ((Op.sliceStr [none,(some 0)]) [(.str qny),t7_1]) fun g t75=>GO3 g Q .ret ((4,t75)::E) D H2) (fun g=>Ly g E 7 fun g t7_1=>Bn g .leq t7_1 (.int .i64 128) fun g t78=>JN (fun (k:Bool->AV->AV->AHeap->Prop)=>B3 g (wantV true (some t78)) fun g w=>IG3 g w (fun g=>Ly g E 0 fun g t0_1=>C3 M g (.func ju) [(.str qnz),t0_1] H2 fun g t81 H3=>k g t81 t0_1 H3) (fun g=>k g uu uu H2)) (fun g t81_1 t80_1 H4=>B3 g (Op.pick [t78,t81_1,(.bool false)]) fun g t82=>IF3 g t82 (fun g=>Ly g E 7 fun g t7_2=>B3 g ((Op.sliceStr [none,(some 0)]) [(.str qnz),t7_2]) fun g t84=>GO3 g Q .ret ((4,t84)::E) D H4) (fun g=>W M c (qk 91) g Q E D H4))))) /\
 (∀ Q E D H,W M c (qk 60) true Q E D H =
  Lz E 42 fun g t42=>Bn g .eql t42 (.int .u8 61) fun g t47=>IF3 g t47 (fun g=>GO3 g Q .normal ((43,t47)::E) D H) (fun g=>Ly g E 42 fun g t42_1=>Bn g .eql t42_1 (.int .u8 9) fun g t48=>GO3 g Q .normal ((43,t48)::(43,t47)::E) D H)) /\
 (∀ Q E D H,W M c (qk 113) true Q E D H =
  A3 true qa8 [.nilp,.nils] H fun g t9 H1=>Ly g E 7 fun g t7=>C3 M g (.func yn) [t9,t7] H1 fun g t108 H2=>W M c (qk 117) g Q ((9,t9)::E) D H2) /\
 (∀ Q E D H,W M c (qk 107) true Q E D H =
  Lz E 8 fun g t8=>Cb g .eql t8 (.int .i64 0) (fun g=>Ly g E 0 fun g t0=>B3 g (Op.lenStr [t0]) fun g t106=>GO3 g Q .normal ((8,t106)::E) D H) (fun g=>GO3 g Q .normal E D H)) /\
 (∀ Q E D H,W M c (qk 91) true Q E D H =
  Lz E 7 fun g t7=>Bn g .leq t7 (.int .i64 64) fun g t87=>JN (fun (k:Bool->AV->AV->AHeap->Prop)=>B3 g (wantV true (some t87)) fun g w=>IG3 g w (fun g=>Ly g E 0 fun g t0=>C3 M g (.func ju) [(.str qn0),t0] H fun g t90 H1=>k g t90 t0 H1) (fun g=>k g uu uu H)) (fun g t90_1 t89_1 H2=>B3 g (Op.pick [t87,t90_1,(.bool false)]) fun g t91=>IF3 g t91 (fun g=>Ly g E 7 fun g t7_1=>B3 g ((Op.sliceStr [none,(some 0)]) [(.str qn0),t7_1]) fun g t93=>GO3 g Q .ret ((4,t93)::E) D H2) (fun g=>GO3 g Q .normal E D H2))) /\
 (∀ Q E D H,W M c (qk 117) true Q E D H =
  Lz E 0 fun g t0=>Ly g E 9 fun g t9=>C3 M g (.func zo) [t9,t0] H fun g t110 H1=>W M c (qk 119) g Q E D H1) /\
 (∀ Q E D H,W M c (qk 119) true Q E D H =
  LOOP3 (W M c (qk 122)) (BLK3 3 (SEQ3 (W M c (qk 132)) Q)) E D H) /\
 (∀ Q E D H,W M c (qk 132) true Q E D H =
  Lz E 9 fun g t9=>C3 M g (.func ji) [t9] H fun g t124 H1=>GO3 g Q .ret ((4,t124)::E) D H1) /\
 (∀ Q E D H,W M c (qk 122) true Q E D H =
  Lz E 9 fun g t9=>C3 M g (.func j7) [t9] H fun g t111 H1=>Ly g E 7 fun g t7=>Cb g .lss t111 t7 (fun g=>Gt g M c (qk 128) Q E D H1) (fun g=>GO3 g (SEQ3 (W M c (qk 128)) Q) (.exit 3) E D H1)) /\
 (∀ Q E D H,W M c (qk 128) true Q E D H =
  Lz E 7 fun g t7=>Ly g E 9 fun g t9=>C3 M g (.func j7) [t9] H fun g t115 H1=>Bn g .sub t7 t115 fun g t116=>C3 M g (.func j7) [t9] H1 fun g t117 H2=>Ly g E 8 fun g t8=>B3 g ((Op.minmax false) [t116,t117,t8]) fun g t119=>Ly g E 9 fun g t9_1=>C3 M g (.func ji) [t9_1] H2 fun g t120 H3=>B3 g ((Op.sliceStr [none,(some 0)]) [t120,t119]) fun g t122=>C3 M g (.func zo) [t9_1,t122] H3 fun g t123 H4=>GO3 g (BLK3 4 Q) .normal ((10,t119)::E) D H4):=by (repeat' apply And.intro)<;>(intro _ _ _ _;refine W_unf ?_;kernel_rfl)
theorem qlh:(cProg Tryz.prog).func vp=some qeo/\qeo.results=[.tmp 4]:=jh (by kernel_rfl)
theorem qli (h:W M ⟨none,vp⟩ (qk 0) true (FIN3 M [.tmp 4] Q) [(0,a0),(1,a1)] [] H):qa6 M vp [a0,a1] H Q:=callf (by decide) qlh (ks:=qg5) (by kernel_rfl) h
def qbi:AFunc:=funcAt Tryz.prog zl
def qdj:Kp:=⟨[0,1,2,6,15,54],false,[0,13,25,31,34,38,53]⟩
def xn (k:Nat):Kp × ACode:=(qdj,part qbi.body k)
theorem qz (M:Mac) (c:Ctx):(∀ Q E D H,W M c (xn 0) true Q E D H =
 Lz E 0 fun g t0=>Nf g 2 t0 H fun g t10=>Ly g E 1 fun g t1=>B3 g ((Op.indexSl 3) [t10,t1]) fun g t12=>B3 g ((Op.loadN 3) [t12] H) fun g t13=>A3 g xh [(.int .i64 0),(.int .u64 0),.nils] H fun g t6 H1=>B32 g ((Op.store 3) [t6,t13] H1) fun g u H2=>Fl g 0 t6 H2 fun g t15=>Cb g .eql t15 (.int .i64 14) (fun g=>Ly g E 0 fun g t0_1=>Fl g 1 t6 H2 fun g t20=>Bn g .add (.int .u64 97) t20 fun g t21=>B3 g ((Op.wrap .i32) [t21]) fun g t22=>B3 g (Op.strOfInt [t22]) fun g t23=>Bn g .add t23 (.str [32,61,32]) fun g t24=>C3 M g (.func qu) [t0_1,t24] H2 fun g t25 H3=>Ly g E 0 fun g t0_2=>Fl g 2 t6 H3 fun g t28=>Xl g t28 (.int .i64 0) H3 fun g t30=>C3 M g (.func zk) [t0_2,t30,(.int .i64 0)] H3 fun g t31 H4=>Ly g E 0 fun g t0_3=>C3 M g (.func qu) [t0_3,(.str [59])] H4 fun g t33 H5=>GO3 g (BLK3 0 Q) .normal ((15,t15)::(6,t6)::E) D H5) (fun g=>W M c (xn 13) g (BLK3 0 Q) ((15,t15)::(6,t6)::E) D H2)) /\
 (∀ Q E D H,W M c (xn 13) true Q E D H =
  Lz E 15 fun g t15=>Cb g .eql t15 (.int .i64 15) (fun g=>Ly g E 0 fun g t0=>C3 M g (.func qu) [t0,(.str [115,116,111,114,101,40])] H fun g t37 H1=>Ly g E 0 fun g t0_1=>Ly g E 6 fun g t6=>Fl g 2 t6 H1 fun g t40=>Xl g t40 (.int .i64 0) H1 fun g t42=>C3 M g (.func zk) [t0_1,t42,(.int .i64 0)] H1 fun g t43 H2=>Ly g E 0 fun g t0_2=>C3 M g (.func qu) [t0_2,(.str [44,32])] H2 fun g t45 H3=>Ly g E 0 fun g t0_3=>Ly g E 6 fun g t6_1=>Fl g 2 t6_1 H3 fun g t48=>Xl g t48 (.int .i64 1) H3 fun g t50=>C3 M g (.func zk) [t0_3,t50,(.int .i64 0)] H3 fun g t51 H4=>Ly g E 0 fun g t0_4=>C3 M g (.func qu) [t0_4,(.str [41,59])] H4 fun g t53 H5=>GO3 g Q .normal E D H5) (fun g=>W M c (xn 25) g Q E D H)) /\
 (∀ Q E D H,W M c (xn 25) true Q E D H =
  Lz E 15 fun g t15=>Bn g .eql t15 (.int .i64 16) fun g t55=>IF3 g t55 (fun g=>Gt g M c (xn 31) Q ((54,t55)::E) D H) (fun g=>Ly g E 15 fun g t15_1=>Bn g .eql t15_1 (.int .i64 17) fun g t56=>Gt g M c (xn 31) Q ((54,t56)::(54,t55)::E) D H)) /\
 (∀ Q E D H,W M c (xn 31) true Q E D H =
  Lz E 54 fun g t54=>IF3 g t54 (fun g=>Ly g E 0 fun g t0=>B32 g ((Op.buildSlice qay 2 [(.str [])] [(0,1),(1,1)]) [(.str [105,102,32,40]),(.str [119,104,105,108,101,32,40])]) fun g o1 k1=>Ly g E 6 fun g t6=>Fl g 0 t6 (H.alloc o1) fun g t60=>Bn g .sub t60 (.int .i64 16) fun g t61=>Xl g (k1 H.next) t61 (H.alloc o1) fun g t63=>C3 M g (.func qu) [t0,t63] (H.alloc o1) fun g t64 H2=>W M c (xn 34) g Q E D H2) (fun g=>Ly g E 15 fun g t15=>Cb g .eql t15 (.int .i64 18) (fun g=>Ly g E 0 fun g t0=>C3 M g (.func qu) [t0,(.str [97,116,111,109,105,99,32])] H fun g t96 H1=>Ly g E 0 fun g t0_1=>Ly g E 6 fun g t6=>Fl g 2 t6 H1 fun g t99=>Xl g t99 (.int .i64 0) H1 fun g t101=>Ly g E 2 fun g t2=>C3 M g (.func ke) [t0_1,t101,t2] H1 fun g t103 H2=>GO3 g Q .normal E D H2) (fun g=>W M c (xn 53) g Q E D H))) /\
 (∀ Q E D H,W M c (xn 34) true Q E D H =
  Lz E 0 fun g t0=>Ly g E 6 fun g t6=>Fl g 2 t6 H fun g t67=>Xl g t67 (.int .i64 0) H fun g t69=>C3 M g (.func wg) [t0,t69] H fun g t70 H1=>Ly g E 0 fun g t0_1=>C3 M g (.func qu) [t0_1,(.str [41,32])] H1 fun g t72 H2=>W M c (xn 38) g Q E D H2) /\
 (∀ Q E D H,W M c (xn 53) true Q E D H =
  Lz E 15 fun g t15=>Cb g .eql t15 (.int .i64 19) (fun g=>Ly g E 0 fun g t0=>C3 M g (.func qu) [t0,(.str [104,97,108,116,59])] H fun g t107 H1=>GO3 g Q .normal E D H1) (fun g=>GO3 g Q .normal E D H)) /\
 (∀ Q E D H,W M c (xn 38) true Q E D H =
  Lz E 0 fun g t0=>Ly g E 6 fun g t6=>Fl g 2 t6 H fun g t75=>Xl g t75 (.int .i64 1) H fun g t77=>Ly g E 2 fun g t2=>C3 M g (.func ke) [t0,t77,t2] H fun g t79 H1=>Ly g E 6 fun g t6_1=>Fl g 2 t6_1 H1 fun g t81=>B3 g (Op.lenSl [t81]) fun g t82=>Cb g .eql t82 (.int .i64 3) (fun g=>Ly g E 0 fun g t0_1=>C3 M g (.func qu) [t0_1,(.str [32,101,108,115,101,32])] H1 fun g t85 H2=>Ly g E 0 fun g t0_2=>Ly g E 6 fun g t6_2=>Fl g 2 t6_2 H2 fun g t88=>Xl g t88 (.int .i64 2) H2 fun g t90=>Ly g E 2 fun g t2_1=>C3 M g (.func ke) [t0_2,t90,t2_1] H2 fun g t92 H3=>GO3 g Q .normal E D H3) (fun g=>GO3 g Q .normal E D H1)):=by (repeat' apply And.intro)<;>(intro _ _ _ _;refine W_unf ?_;kernel_rfl)
theorem qgr:(cProg Tryz.prog).func zl=some qbi/\qbi.results=[]:=jh (by kernel_rfl)
theorem kg (h:W M ⟨none,zl⟩ (xn 0) true (FIN3 M [] Q) [(0,a0),(1,a1),(2,a2)] [] H):qa6 M zl [a0,a1,a2] H Q:=callf (by decide) qgr (ks:=qdj) (by kernel_rfl) h
def qcx:AFunc:=funcAt Tryz.prog yx
def qfj:Kp:=⟨[0,1,4,5,6,7,8],false,[0,2,8,10,16,20,23,29,31]⟩
def xq (k:Nat):Kp × ACode:=(qfj,part qcx.body k)
theorem qiz (M:Mac) (c:Ctx):(∀ Q E D H,W M c (xq 0) true Q E D H =
 W M c (xq 2) true Q ((4,.nils)::E) D H) /\
 (∀ Q E D H,W M c (xq 2) true Q E D H =
  Lz E 1 fun g t1=>Cb g .lss t1 (.int .i64 0) (fun g=>B3 g ((Op.mkIface qay) [(.str [99,97,110,110,111,116,32,98,101,32,110,101,103,97,116,105,118,101])]) fun g t11=>False) (fun g=>Gt g M c (xq 8) Q E D H)) /\
 (∀ Q E D H,W M c (xq 8) true Q E D H =
  Lz E 0 fun g t0=>B3 g (Op.lenSl [t0]) fun g t14=>B3 g ((Op.wrap .u64) [t14]) fun g t15=>Ly g E 1 fun g t1=>B3 g ((Op.wrap .u64) [t1]) fun g t17=>C3 M g (.func qam) [t15,t17] H fun g t18 H1=>B3 g ((Op.extract 0) [t18]) fun g t19=>B3 g ((Op.extract 1) [t18]) fun g t20=>W M c (xq 10) g Q ((6,t20)::(5,t19)::E) D H1) /\
 (∀ Q E D H,W M c (xq 10) true Q E D H =
  Lz E 5 fun g t5=>Bn g .gtr t5 (.int .u64 0) fun g t22=>JN (fun (k:Bool->AV->AV->AHeap->Prop)=>B3 g (wantV false (some t22)) fun g w=>IG3 g w (fun g=>Ly g E 6 fun g t6=>Bn g .gtr t6 (.int .u64 9223372036854775807) fun g t25=>k g t25 t6 H) (fun g=>k g uu uu H)) (fun g t25_1 t24_1 H1=>B3 g (Op.pick [t22,(.bool true),t25_1]) fun g t26=>IF3 g t26 (fun g=>B3 g ((Op.mkIface qay) [(.str qvh)]) fun g t27=>False) (fun g=>Gt g M c (xq 16) Q E D H1))) /\
 (∀ Q E D H,W M c (xq 16) true Q E D H =
  Lz E 6 fun g t6=>B3 g ((Op.wrap .i64) [t6]) fun g t29=>B32 g ((Op.mkSlice T_int 8 [(.int .i64 0)]) [t29,t29]) fun g o1 k1=>Ly g E 0 fun g t0=>B32 g ((Op.copy 1) [(k1 H.next),t0] (H.alloc o1)) fun g t33 H2=>W M c (xq 20) g Q ((8,t33)::(7,(k1 H.next))::E) D H2) /\
 (∀ Q E D H,W M c (xq 20) true Q E D H =
  LOOP3 (W M c (xq 23)) (BLK3 0 (SEQ3 (W M c (xq 31)) Q)) E D H) /\
 (∀ Q E D H,W M c (xq 31) true Q E D H =
  Lz E 7 fun g t7=>GO3 g Q .ret ((4,t7)::E) D H) /\
 (∀ Q E D H,W M c (xq 23) true Q E D H =
  Lz E 8 fun g t8=>Ly g E 7 fun g t7=>B3 g (Op.lenSl [t7]) fun g t36=>Cb g .lss t8 t36 (fun g=>Gt g M c (xq 29) Q E D H) (fun g=>GO3 g (SEQ3 (W M c (xq 29)) Q) (.exit 0) E D H)) /\
 (∀ Q E D H,W M c (xq 29) true Q E D H =
  Lz E 8 fun g t8=>Ly g E 7 fun g t7=>B3 g ((Op.sliceSl 1 [(some 0),none,none]) [t7,t8]) fun g t41=>B3 g ((Op.sliceSl 1 [none,(some 0),none]) [t7,t8]) fun g t44=>B32 g ((Op.copy 1) [t41,t44] H) fun g t45 H1=>Bn g .add t8 t45 fun g t46=>GO3 g (BLK3 1 Q) .normal ((8,t46)::E) D H1):=by (repeat' apply And.intro)<;>(intro _ _ _ _;refine W_unf ?_;kernel_rfl)
theorem qix:(cProg Tryz.prog).func yx=some qcx/\qcx.results=[.tmp 4]:=jh (by kernel_rfl)
theorem qiy (h:W M ⟨none,yx⟩ (xq 0) true (FIN3 M [.tmp 4] Q) [(0,a0),(1,a1)] [] H):qa6 M yx [a0,a1] H Q:=callf (by decide) qix (ks:=qfj) (by kernel_rfl) h
def qfh:AFunc:=funcAt Tryz.prog qam
def qhp:Kp:=⟨[0,1,4,5,6,7,8,9],false,[0,10]⟩
def qb5 (k:Nat):Kp × ACode:=(qhp,part qfh.body k)
theorem qhq (M:Mac) (c:Ctx):(∀ Q E D H,W M c (qb5 0) true Q E D H =
 IF3 true (.bool false) (fun g=>Ly g E 0 fun g t0=>B3 g ((Op.wrap .u32) [t0]) fun g t12=>Ly g E 1 fun g t1=>B3 g ((Op.wrap .u32) [t1]) fun g t14=>C3 M g (.func qj5) [t12,t14] H fun g t15 H1=>B3 g ((Op.extract 0) [t15]) fun g t16=>B3 g ((Op.extract 1) [t15]) fun g t17=>B3 g ((Op.wrap .u64) [t16]) fun g t19=>B3 g ((Op.wrap .u64) [t17]) fun g t21=>GO3 g (SEQ3 (W M c (qb5 10)) Q) .ret ((5,t21)::(4,t19)::(7,t17)::(6,t16)::(5,(.int .u64 0))::(4,(.int .u64 0))::E) D H1) (fun g=>Gt g M c (qb5 10) Q ((5,(.int .u64 0))::(4,(.int .u64 0))::E) D H)) /\
 (∀ Q E D H,W M c (qb5 10) true Q E D H =
  Lz E 0 fun g t0=>Ly g E 1 fun g t1=>C3 M g (.func qak) [t0,t1] H fun g t25 H1=>B3 g ((Op.extract 0) [t25]) fun g t26=>B3 g ((Op.extract 1) [t25]) fun g t27=>GO3 g Q .ret ((5,t27)::(4,t26)::(9,t27)::(8,t26)::E) D H1):=by (repeat' apply And.intro)<;>(intro _ _ _ _;refine W_unf ?_;kernel_rfl)
theorem qmw:(cProg Tryz.prog).func qam=some qfh/\qfh.results=[.tmp 4,.tmp 5]:=jh (by kernel_rfl)
theorem qmx (h:W M ⟨none,qam⟩ (qb5 0) true (FIN3 M [.tmp 4,.tmp 5] Q) [(0,a0),(1,a1)] [] H):qa6 M qam [a0,a1] H Q:=callf (by decide) qmw (ks:=qhp) (by kernel_rfl) h
def qcy:AFunc:=funcAt Tryz.prog ju
def qfm:Kp:=⟨[0,1,4],false,[0]⟩
def qfn (k:Nat):Kp × ACode:=(qfm,part qcy.body k)
theorem qfo (M:Mac) (c:Ctx):(∀ Q E D H,W M c (qfn 0) true Q E D H =
 Lz E 0 fun g t0=>Ly g E 1 fun g t1=>C3 M g (.func jz) [t0,t1] H fun g t7 H1=>GO3 g Q .ret ((4,t7)::(4,(.bool false))::E) D H1):=by intro _ _ _ _;refine W_unf ?_;kernel_rfl
theorem qi0:(cProg Tryz.prog).func ju=some qcy/\qcy.results=[.tmp 4]:=jh (by kernel_rfl)
theorem qi1 (h:W M ⟨none,ju⟩ (qfn 0) true (FIN3 M [.tmp 4] Q) [(0,a0),(1,a1)] [] H):qa6 M ju [a0,a1] H Q:=callf (by decide) qi0 (ks:=qfm) (by kernel_rfl) h
def qdh:AFunc:=funcAt Tryz.prog zk
def qfu:Kp:=⟨[0,1,2,6,7,9,18],false,[0,9,21,25,31,35]⟩
def zr (k:Nat):Kp × ACode:=(qfu,part qdh.body k)
theorem ku (M:Mac) (c:Ctx):(∀ Q E D H,W M c (zr 0) true Q E D H =
 Lz E 0 fun g t0=>Nf g 2 t0 H fun g t13=>Ly g E 1 fun g t1=>B3 g ((Op.indexSl 3) [t13,t1]) fun g t15=>B3 g ((Op.loadN 3) [t15] H) fun g t16=>A3 g xh [(.int .i64 0),(.int .u64 0),.nils] H fun g t6 H1=>B32 g ((Op.store 3) [t6,t16] H1) fun g u H2=>Fl g 0 t6 H2 fun g t18=>Cb g .eql t18 (.int .i64 1) (fun g=>Ly g E 0 fun g t0_1=>Fl g 1 t6 H2 fun g t61=>C3 M g (.func vn) [t61,(.int .i64 10)] H2 fun g t62 H3=>C3 M g (.func qu) [t0_1,t62] H3 fun g t63 H4=>GO3 g (BLK3 0 Q) .normal ((18,t18)::(6,t6)::E) D H4) (fun g=>W M c (zr 9) g (BLK3 0 Q) ((18,t18)::(6,t6)::E) D H2)) /\
 (∀ Q E D H,W M c (zr 9) true Q E D H =
  Lz E 18 fun g t18=>Cb g .eql t18 (.int .i64 2) (fun g=>Ly g E 0 fun g t0=>Ly g E 6 fun g t6=>Fl g 1 t6 H fun g t68=>Bn g .add (.int .u64 97) t68 fun g t69=>B3 g ((Op.wrap .i32) [t69]) fun g t70=>B3 g (Op.strOfInt [t70]) fun g t71=>C3 M g (.func qu) [t0,t71] H fun g t72 H1=>GO3 g Q .normal E D H1) (fun g=>Ly g E 18 fun g t18_1=>Cb g .eql t18_1 (.int .i64 3) (fun g=>Ly g E 0 fun g t0=>C3 M g (.func qu) [t0,(.str [108,111,97,100,40])] H fun g t76 H1=>Ly g E 0 fun g t0_1=>Ly g E 6 fun g t6=>Fl g 2 t6 H1 fun g t79=>Xl g t79 (.int .i64 0) H1 fun g t81=>C3 M g (.func zk) [t0_1,t81,(.int .i64 0)] H1 fun g t82 H2=>Ly g E 0 fun g t0_2=>C3 M g (.func qu) [t0_2,(.str [41])] H2 fun g t84 H3=>GO3 g Q .normal E D H3) (fun g=>W M c (zr 21) g Q E D H))) /\
 (∀ Q E D H,W M c (zr 21) true Q E D H =
  Lz E 6 fun g t6=>Fl g 0 t6 H fun g t20=>C3 M g (.func qc5) [t20] H fun g t21 H1=>C3 M g (.func qd1) [t21] H1 fun g t24 H2=>B3 g ((Op.extract 0) [t24]) fun g t25=>B3 g ((Op.extract 1) [t24]) fun g t26=>W M c (zr 25) g Q ((9,t26)::(7,t21)::E) D H2) /\
 (∀ Q E D H,W M c (zr 25) true Q E D H =
  Lz E 9 fun g t9=>Ly g E 2 fun g t2=>Cb g .lss t9 t2 (fun g=>Ly g E 0 fun g t0=>C3 M g (.func qu) [t0,(.str [40])] H fun g t31 H1=>Gt g M c (zr 31) Q E D H1) (fun g=>Gt g M c (zr 31) Q E D H)) /\
 (∀ Q E D H,W M c (zr 31) true Q E D H =
  Lz E 0 fun g t0=>Ly g E 6 fun g t6=>Fl g 2 t6 H fun g t34=>Xl g t34 (.int .i64 0) H fun g t36=>Ly g E 9 fun g t9=>C3 M g (.func zk) [t0,t36,t9] H fun g t38 H1=>Ly g E 0 fun g t0_1=>Ly g E 7 fun g t7=>Bn g .add (.str [32]) t7 fun g t41=>Bn g .add t41 (.str [32]) fun g t42=>C3 M g (.func qu) [t0_1,t42] H1 fun g t43 H2=>W M c (zr 35) g Q E D H2) /\
 (∀ Q E D H,W M c (zr 35) true Q E D H =
  Lz E 0 fun g t0=>Ly g E 6 fun g t6=>Fl g 2 t6 H fun g t46=>Xl g t46 (.int .i64 1) H fun g t48=>Ly g E 9 fun g t9=>Bn g .add t9 (.int .i64 1) fun g t50=>C3 M g (.func zk) [t0,t48,t50] H fun g t51 H1=>Ly g E 9 fun g t9_1=>Ly g E 2 fun g t2=>Cb g .lss t9_1 t2 (fun g=>Ly g E 0 fun g t0_1=>C3 M g (.func qu) [t0_1,(.str [41])] H1 fun g t56 H2=>GO3 g Q .normal E D H2) (fun g=>GO3 g Q .normal E D H1)):=by (repeat' apply And.intro)<;>(intro _ _ _ _;refine W_unf ?_;kernel_rfl)
theorem qjh:(cProg Tryz.prog).func zk=some qdh/\qdh.results=[]:=jh (by kernel_rfl)
theorem qbz (h:W M ⟨none,zk⟩ (zr 0) true (FIN3 M [] Q) [(0,a0),(1,a1),(2,a2)] [] H):qa6 M zk [a0,a1,a2] H Q:=callf (by decide) qjh (ks:=qfu) (by kernel_rfl) h
def qdg:AFunc:=funcAt Tryz.prog wg
def qfs:Kp:=⟨[0,1,4],false,[0]⟩
def qft (k:Nat):Kp × ACode:=(qfs,part qdg.body k)
theorem qby (M:Mac) (c:Ctx):(∀ Q E D H,W M c (qft 0) true Q E D H =
 Lz E 0 fun g t0=>Nf g 2 t0 H fun g t8=>Ly g E 1 fun g t1=>B3 g ((Op.indexSl 3) [t8,t1]) fun g t10=>B3 g ((Op.loadN 3) [t10] H) fun g t11=>A3 g xh [(.int .i64 0),(.int .u64 0),.nils] H fun g t4 H1=>B32 g ((Op.store 3) [t4,t11] H1) fun g u H2=>Ly g E 0 fun g t0_1=>Fl g 2 t4 H2 fun g t14=>Xl g t14 (.int .i64 0) H2 fun g t16=>C3 M g (.func zk) [t0_1,t16,(.int .i64 0)] H2 fun g t17 H3=>Ly g E 0 fun g t0_2=>B32 g ((Op.buildSlice qay 3 [(.str [])] [(0,1),(1,1),(2,1)]) [(.str [32,61,61,32]),(.str [32,33,61,32]),(.str [32,60,32])]) fun g o4 k4=>Fl g 0 t4 (H3.alloc o4) fun g t21=>Bn g .sub t21 (.int .i64 11) fun g t22=>Xl g (k4 H3.next) t22 (H3.alloc o4) fun g t24=>C3 M g (.func qu) [t0_2,t24] (H3.alloc o4) fun g t25 H5=>Ly g E 0 fun g t0_3=>Fl g 2 t4 H5 fun g t28=>Xl g t28 (.int .i64 1) H5 fun g t30=>C3 M g (.func zk) [t0_3,t30,(.int .i64 0)] H5 fun g t31 H6=>GO3 g Q .normal ((4,t4)::E) D H6):=by intro _ _ _ _;refine W_unf ?_;kernel_rfl
theorem qjf:(cProg Tryz.prog).func wg=some qdg/\qdg.results=[]:=jh (by kernel_rfl)
theorem qjg (h:W M ⟨none,wg⟩ (qft 0) true (FIN3 M [] Q) [(0,a0),(1,a1)] [] H):qa6 M wg [a0,a1] H Q:=callf (by decide) qjf (ks:=qfs) (by kernel_rfl) h
def qcv:AFunc:=funcAt Tryz.prog ke
def qff:Kp:=⟨[0,1,2],false,[0]⟩
def qfg (k:Nat):Kp × ACode:=(qff,part qcv.body k)
theorem qan (M:Mac) (c:Ctx):(∀ Q E D H,W M c (qfg 0) true Q E D H =
 Lz E 0 fun g t0=>C3 M g (.func qu) [t0,(.str [123,10])] H fun g t7 H1=>Ly g E 0 fun g t0_1=>Ly g E 1 fun g t1=>Ly g E 2 fun g t2=>Bn g .add t2 (.int .i64 1) fun g t11=>C3 M g (.func vi) [t0_1,t1,t11] H1 fun g t12 H2=>Ly g E 0 fun g t0_2=>Ly g E 2 fun g t2_1=>C3 M g (.func vp) [(.str [32,32]),t2_1] H2 fun g t15 H3=>Bn g .add t15 (.str [125]) fun g t16=>C3 M g (.func qu) [t0_2,t16] H3 fun g t17 H4=>GO3 g Q .normal E D H4):=by intro _ _ _ _;refine W_unf ?_;kernel_rfl
theorem qis:(cProg Tryz.prog).func ke=some qcv/\qcv.results=[]:=jh (by kernel_rfl)
theorem qit (h:W M ⟨none,ke⟩ (qfg 0) true (FIN3 M [] Q) [(0,a0),(1,a1),(2,a2)] [] H):qa6 M ke [a0,a1,a2] H Q:=callf (by decide) qis (ks:=qff) (by kernel_rfl) h
def qd6:AFunc:=funcAt Tryz.prog qak
def qgi:Kp:=⟨[0,1,4,5,6,7,8,9,10,11,12,13],false,[0,4,8,12]⟩
def y9 (k:Nat):Kp × ACode:=(qgi,part qd6.body k)
theorem qkf (M:Mac) (c:Ctx):(∀ Q E D H,W M c (y9 0) true Q E D H =
 Lz E 0 fun g t0=>Bn g .and t0 (.int .u64 4294967295) fun g t15=>W M c (y9 4) g Q ((6,t15)::(5,(.int .u64 0))::(4,(.int .u64 0))::E) D H) /\
 (∀ Q E D H,W M c (y9 4) true Q E D H =
  Lz E 0 fun g t0=>Bn g .shr t0 (.int .u64 32) fun g t17=>Ly g E 1 fun g t1=>Bn g .and t1 (.int .u64 4294967295) fun g t19=>W M c (y9 8) g Q ((8,t19)::(7,t17)::E) D H) /\
 (∀ Q E D H,W M c (y9 8) true Q E D H =
  Lz E 1 fun g t1=>Bn g .shr t1 (.int .u64 32) fun g t21=>Ly g E 6 fun g t6=>Ly g E 8 fun g t8=>Bn g .mul t6 t8 fun g t24=>W M c (y9 12) g Q ((10,t24)::(9,t21)::E) D H) /\
 (∀ Q E D H,W M c (y9 12) true Q E D H =
  Lz E 7 fun g t7=>Ly g E 8 fun g t8=>Bn g .mul t7 t8 fun g t27=>Ly g E 10 fun g t10=>Bn g .shr t10 (.int .u64 32) fun g t29=>Bn g .add t27 t29 fun g t30=>Bn g .and t30 (.int .u64 4294967295) fun g t32=>Bn g .shr t30 (.int .u64 32) fun g t34=>Ly g E 6 fun g t6=>Ly g E 9 fun g t9=>Bn g .mul t6 t9 fun g t38=>Bn g .add t32 t38 fun g t39=>Ly g E 7 fun g t7_1=>Ly g E 9 fun g t9_1=>Bn g .mul t7_1 t9_1 fun g t42=>Bn g .add t42 t34 fun g t44=>Bn g .shr t39 (.int .u64 32) fun g t46=>Bn g .add t44 t46 fun g t47=>Ly g E 0 fun g t0=>Ly g E 1 fun g t1=>Bn g .mul t0 t1 fun g t50=>GO3 g Q .ret ((5,t50)::(4,t47)::(12,t39)::(13,t34)::(12,t32)::(11,t30)::E) D H):=by (repeat' apply And.intro)<;>(intro _ _ _ _;refine W_unf ?_;kernel_rfl)
theorem qkd:(cProg Tryz.prog).func qak=some qd6/\qd6.results=[.tmp 4,.tmp 5]:=jh (by kernel_rfl)
theorem qke (h:W M ⟨none,qak⟩ (y9 0) true (FIN3 M [.tmp 4,.tmp 5] Q) [(0,a0),(1,a1)] [] H):qa6 M qak [a0,a1] H Q:=callf (by decide) qkd (ks:=qgi) (by kernel_rfl) h
def vt:AFunc:=funcAt Tryz.prog jz
def qa1:Kp:=⟨[0,1,4],false,[0]⟩
def qa2 (k:Nat):Kp × ACode:=(qa1,part vt.body k)
theorem qdv (M:Mac) (c:Ctx):(∀ Q E D H,W M c (qa2 0) true Q E D H =
 Lz E 0 fun g t0=>B3 g (Op.lenStr [t0]) fun g t6=>Ly g E 1 fun g t1=>B3 g (Op.lenStr [t1]) fun g t8=>Bn g .geq t6 t8 fun g t9=>JN (fun (k:Bool->AV->AV->AV->AV->AV->AV->AHeap->Prop)=>B3 g (wantV true (some t9)) fun g w=>IG3 g w (fun g=>B3 g (Op.lenStr [t1]) fun g t13=>B3 g ((Op.sliceStr [none,(some 0)]) [t0,t13]) fun g t14=>Bn g .eql t14 t1 fun g t16=>k g t16 t1 t14 t13 t1 t0 H) (fun g=>k g uu uu uu uu uu uu H)) (fun g t16_1 t15_1 t14_1 t13_1 t12_1 t11_1 H1=>B3 g (Op.pick [t9,t16_1,(.bool false)]) fun g t17=>GO3 g Q .ret ((4,t17)::(4,(.bool false))::E) D H1)):=by intro _ _ _ _;refine W_unf ?_;kernel_rfl
theorem qdt:(cProg Tryz.prog).func jz=some vt/\vt.results=[.tmp 4]:=jh (by kernel_rfl)
theorem qdu (h:W M ⟨none,jz⟩ (qa2 0) true (FIN3 M [.tmp 4] Q) [(0,a0),(1,a1)] [] H):qa6 M jz [a0,a1] H Q:=callf (by decide) qdt (ks:=qa1) (by kernel_rfl) h
def qho:AFunc:=funcAt Tryz.prog qc5
def qk3:Kp:=⟨[0,2],false,[0]⟩
def qk4 (k:Nat):Kp × ACode:=(qk3,part qho.body k)
theorem qrm (M:Mac) (c:Ctx):(∀ Q E D H,W M c (qk4 0) true Q E D H =
 B32 true ((Op.buildSlice qay 7 [(.str [])] [(0,1),(1,1),(2,1),(3,1),(4,1),(5,1),(6,1)]) [(.str [43]),(.str [45]),(.str [42]),(.str [38]),(.str [94]),(.str [60,60]),(.str [62,62])]) fun g o1 k1=>Ly g E 0 fun g t0=>Bn g .sub t0 (.int .i64 4) fun g t5=>Xl g (k1 H.next) t5 (H.alloc o1) fun g t7=>GO3 g Q .ret ((2,t7)::(2,(.str []))::E) D (H.alloc o1)):=by intro _ _ _ _;refine W_unf ?_;kernel_rfl
theorem qrk:(cProg Tryz.prog).func qc5=some qho/\qho.results=[.tmp 2]:=jh (by kernel_rfl)
theorem qrl (h:W M ⟨none,qc5⟩ (qk4 0) true (FIN3 M [.tmp 2] Q) [(0,a0)] [] H):qa6 M qc5 [a0] H Q:=callf (by decide) qrk (ks:=qk3) (by kernel_rfl) h
def qir:AFunc:=funcAt Tryz.prog qd1
def qmq:Kp:=⟨[0,2,3,4],false,[0,2,18,30,42,49]⟩
def vl (k:Nat):Kp × ACode:=(qmq,part qir.body k)
theorem qtc (M:Mac) (c:Ctx):(∀ Q E D H,W M c (vl 0) true Q E D H =
 W M c (vl 2) true Q ((3,(.int .i64 0))::(2,(.int .i64 0))::E) D H) /\
 (∀ Q E D H,W M c (vl 2) true Q E D H =
  Lz E 0 fun g t0=>Cb g .eql t0 (.str [43]) (fun g=>GO3 g (BLK3 0 (SEQ3 (W M c (vl 49)) Q)) .ret ((3,(.int .i64 1))::(2,(.int .i64 4))::(4,t0)::E) D H) (fun g=>Cb g .eql t0 (.str [45]) (fun g=>GO3 g (BLK3 0 (SEQ3 (W M c (vl 49)) Q)) .ret ((3,(.int .i64 1))::(2,(.int .i64 5))::(4,t0)::E) D H) (fun g=>W M c (vl 18) g (BLK3 0 (SEQ3 (W M c (vl 49)) Q)) ((4,t0)::E) D H))) /\
 (∀ Q E D H,W M c (vl 49) true Q E D H =
  GO3 true Q .ret ((3,(.int .i64 0))::(2,(.int .i64 0))::E) D H) /\
 (∀ Q E D H,W M c (vl 18) true Q E D H =
  Lz E 4 fun g t4=>Cb g .eql t4 (.str [94]) (fun g=>GO3 g Q .ret ((3,(.int .i64 1))::(2,(.int .i64 8))::E) D H) (fun g=>Ly g E 4 fun g t4_1=>Cb g .eql t4_1 (.str [42]) (fun g=>GO3 g Q .ret ((3,(.int .i64 2))::(2,(.int .i64 6))::E) D H) (fun g=>W M c (vl 30) g Q E D H))) /\
 (∀ Q E D H,W M c (vl 30) true Q E D H =
  Lz E 4 fun g t4=>Cb g .eql t4 (.str [38]) (fun g=>GO3 g Q .ret ((3,(.int .i64 2))::(2,(.int .i64 7))::E) D H) (fun g=>Ly g E 4 fun g t4_1=>Cb g .eql t4_1 (.str [60,60]) (fun g=>GO3 g Q .ret ((3,(.int .i64 2))::(2,(.int .i64 9))::E) D H) (fun g=>W M c (vl 42) g Q E D H))) /\
 (∀ Q E D H,W M c (vl 42) true Q E D H =
  Lz E 4 fun g t4=>Cb g .eql t4 (.str [62,62]) (fun g=>GO3 g Q .ret ((3,(.int .i64 2))::(2,(.int .i64 10))::E) D H) (fun g=>GO3 g Q .normal E D H)):=by (repeat' apply And.intro)<;>(intro _ _ _ _;refine W_unf ?_;kernel_rfl)
theorem qta:(cProg Tryz.prog).func qd1=some qir/\qir.results=[.tmp 2,.tmp 3]:=jh (by kernel_rfl)
theorem qtb (h:W M ⟨none,qd1⟩ (vl 0) true (FIN3 M [.tmp 2,.tmp 3] Q) [(0,a0)] [] H):qa6 M qd1 [a0] H Q:=callf (by decide) qta (ks:=qmq) (by kernel_rfl) h
end
end Go.Am
namespace Go.Am
abbrev qc2:Nat:=22
abbrev qh9:Nat:=59
abbrev qst:Nat:=36
abbrev qov:Nat:=66
abbrev ql4:Nat:=64
noncomputable section
open Go.Proofs Go.Proofs.YtbimikjajohflaaGreatDoor
variable {M:Mac} [MK M] {H:AHeap} {Q:AEnd->AHeap->Prop} {a0 a1 a2:AV}
def qhf:AFunc:=funcAt Tryz.prog qc2
def qkr:Kp:=⟨[0,2,4],false,[0]⟩
def qks (k:Nat):Kp × ACode:=(qkr,part qhf.body k)
theorem qqy (M:Mac) (c:Ctx):(∀ Q E D H,W M c (qks 0) true Q E D H =
 Lz E 0 fun g t0=>C3 M g (.func yz) [t0] H fun g t7 H1=>B3 g ((Op.extract 0) [t7]) fun g t8=>B3 g ((Op.extract 1) [t7]) fun g t9=>Bn g .eql t9 (.int .i64 0) fun g t11=>GO3 g Q .ret ((2,t11)::(4,t9)::(2,(.bool false))::E) D H1):=by intro _ _ _ _;refine W_unf ?_;kernel_rfl
theorem qqw:(cProg Tryz.prog).func qc2=some qhf/\qhf.results=[.tmp 2]:=jh (by kernel_rfl)
theorem qqx (h:W M ⟨none,qc2⟩ (qks 0) true (FIN3 M [.tmp 2] Q) [(0,a0)] [] H):qa6 M qc2 [a0] H Q:=callf (by decide) qqw (ks:=qkr) (by kernel_rfl) h
end
end Go.Am
namespace Go.Am
abbrev qb3:Nat:=12
abbrev wh:Nat:=4
abbrev qbg:Nat:=9
abbrev wn:Nat:=28
abbrev T__6:Nat:=22
noncomputable section
open Go.Proofs Go.Proofs.YtbimikjajohflaaGreatDoor
variable {M:Mac} [MK M] {H:AHeap} {Q:AEnd->AHeap->Prop} {a0:AV}
def qdl:AFunc:=funcAt Tryz.prog wh
def qfy:Kp:=⟨[0,2,3,4,5,6,7,8,9,10],false,[0,4,12,16,18,23,29,33,41,42,43,51]⟩
def qx (k:Nat):Kp × ACode:=(qfy,part qdl.body k)
theorem qjo (M:Mac) (c:Ctx):(∀ Q E D H,W M c (qx 0) true Q E D H =
 C3 M true (.func qi4) [] H fun g t11 H1=>W M c (qx 4) g Q ((3,t11)::(2,(.bool false))::E) D H1) /\
 (∀ Q E D H,W M c (qx 4) true Q E D H =
  Lz E 0 fun g t0=>C3 M g (.func qbg) [t0] H fun g t13 H1=>JN (fun (k:Bool->AV->AV->AHeap->Prop)=>B3 g (wantV false (some t13)) fun g w=>IG3 g w (fun g=>Ly g E 3 fun g t3=>B3 g ((Op.un .not) [t3]) fun g t16=>k g t16 t3 H1) (fun g=>k g uu uu H1)) (fun g t16_1 t15_1 H2=>B3 g (Op.pick [t13,(.bool true),t16_1]) fun g t17=>IF3 g t17 (fun g=>Ly g E 3 fun g t3_1=>GO3 g (SEQ3 (W M c (qx 12)) Q) .ret ((2,t3_1)::E) D H2) (fun g=>Gt g M c (qx 12) Q E D H2))) /\
 (∀ Q E D H,W M c (qx 12) true Q E D H =
  Lz E 0 fun g t0=>C3 M g (.func yz) [t0] H fun g t21 H1=>B3 g ((Op.extract 0) [t21]) fun g t22=>B3 g ((Op.extract 1) [t21]) fun g t23=>Ly g E 0 fun g t0_1=>C3 M g (.func qb3) [t0_1] H1 fun g t25 H2=>W M c (qx 16) g Q ((6,t25)::(5,t23)::(4,t22)::E) D H2) /\
 (∀ Q E D H,W M c (qx 16) true Q E D H =
  W M c (qx 18) true Q ((7,(.str []))::E) D H) /\
 (∀ Q E D H,W M c (qx 18) true Q E D H =
  LOOP3 (W M c (qx 23)) (BLK3 0 (SEQ3 (W M c (qx 43)) Q)) ((8,(.int .i64 0))::E) D H) /\
 (∀ Q E D H,W M c (qx 43) true Q E D H =
  Lz E 5 fun g t5=>Cb g .neq t5 (.int .i64 0) (fun g=>Ly g E 3 fun g t3=>JN (fun (k:Bool->AV->AV->AV->AHeap->Prop)=>B3 g (wantV true (some t3)) fun g w=>IG3 g w (fun g=>Ly g E 6 fun g t6=>B3 g (Op.lenSl [t6]) fun g t50=>Bn g .eql t50 (.int .i64 0) fun g t51=>k g t51 t50 t6 H) (fun g=>k g uu uu uu H)) (fun g t51_1 t50_1 t49_1 H1=>B3 g (Op.pick [t3,t51_1,(.bool false)]) fun g t52=>GO3 g (SEQ3 (W M c (qx 51)) Q) .ret ((2,t52)::E) D H1)) (fun g=>Gt g M c (qx 51) Q E D H)) /\
 (∀ Q E D H,W M c (qx 23) true Q E D H =
  Lz E 8 fun g t8=>Ly g E 6 fun g t6=>B3 g (Op.lenSl [t6]) fun g t28=>Cb g .lss t8 t28 (fun g=>Gt g M c (qx 29) Q E D H) (fun g=>GO3 g (SEQ3 (W M c (qx 29)) Q) (.exit 0) E D H)) /\
 (∀ Q E D H,W M c (qx 51) true Q E D H =
  Lz E 3 fun g t3=>JN (fun (k:Bool->AV->AV->AV->AHeap->Prop)=>B3 g (wantV true (some t3)) fun g w=>IG3 g w (fun g=>Ly g E 7 fun g t7=>Ly g E 4 fun g t4=>Bn g .eql t7 t4 fun g t57=>k g t57 t4 t7 H) (fun g=>k g uu uu uu H)) (fun g t57_1 t56_1 t55_1 H1=>B3 g (Op.pick [t3,t57_1,(.bool false)]) fun g t58=>JN (fun (k:Bool->AV->AV->AV->AV->AV->AV->AV->AV->AV->AV->AV->AHeap->Prop)=>B3 g (wantV true (some t58)) fun g w=>IG3 g w (fun g=>Ly g E 6 fun g t6=>B3 g (Op.lenSl [t6]) fun g t61=>Ly g E 0 fun g t0=>B3 g (Op.lenSl [t0]) fun g t64=>Bn g .sub t64 (.int .i64 1) fun g t65=>B3 g ((Op.indexSl 3) [t0,t65]) fun g t66=>B3 g ((Op.fieldAddr 2) [t66]) fun g t67=>B3 g (Op.load1 [t67] H1) fun g t68=>B3 g (Op.lenSl [t68]) fun g t69=>Bn g .eql t61 t69 fun g t70=>k g t70 t69 t68 t67 t66 t65 t64 t0 t0 t61 t6 H1) (fun g=>k g uu uu uu uu uu uu uu uu uu uu uu H1)) (fun g t70_1 t69_1 t68_1 t67_1 t66_1 t65_1 t64_1 t63_1 t62_1 t61_1 t60_1 H2=>B3 g (Op.pick [t58,t70_1,(.bool false)]) fun g t71=>GO3 g Q .ret ((2,t71)::E) D H2))) /\
 (∀ Q E D H,W M c (qx 29) true Q E D H =
  Lz E 6 fun g t6=>Ly g E 8 fun g t8=>Xl g t6 t8 H fun g t36=>C3 M g (.func yz) [t36] H fun g t37 H1=>B3 g ((Op.extract 0) [t37]) fun g t38=>B3 g ((Op.extract 1) [t37]) fun g t39=>W M c (qx 33) g (BLK3 1 (SEQ3 (W M c (qx 42)) Q)) ((10,t39)::(9,t38)::E) D H1) /\
 (∀ Q E D H,W M c (qx 42) true Q E D H =
  Lz E 8 fun g t8=>Bn g .add t8 (.int .i64 1) fun g t31=>GO3 g Q .normal ((8,t31)::E) D H) /\
 (∀ Q E D H,W M c (qx 33) true Q E D H =
  Lz E 10 fun g t10=>Cb g .neq t10 (.int .i64 0) (fun g=>GO3 g (SEQ3 (W M c (qx 41)) Q) .ret ((2,(.bool false))::E) D H) (fun g=>Gt g M c (qx 41) Q E D H)) /\
 (∀ Q E D H,W M c (qx 41) true Q E D H =
  Lz E 7 fun g t7=>Ly g E 9 fun g t9=>Bn g .add t7 t9 fun g t44=>GO3 g Q .normal ((7,t44)::E) D H):=by (repeat' apply And.intro)<;>(intro _ _ _ _;refine W_unf ?_;kernel_rfl)
theorem qjm:(cProg Tryz.prog).func wh=some qdl/\qdl.results=[.tmp 2]:=jh (by kernel_rfl)
theorem qjn (h:W M ⟨none,wh⟩ (qx 0) true (FIN3 M [.tmp 2] Q) [(0,a0)] [] H):qa6 M wh [a0] H Q:=callf (by decide) qjm (ks:=qfy) (by kernel_rfl) h
def qgs:AFunc:=funcAt Tryz.prog qbg
def qjp:Kp:=⟨[0,2,3,4],false,[0,4,9,15,18,19]⟩
def yf (k:Nat):Kp × ACode:=(qjp,part qgs.body k)
theorem qpj (M:Mac) (c:Ctx):(∀ Q E D H,W M c (yf 0) true Q E D H =
 W M c (yf 4) true Q ((3,(.int .i64 0))::(2,(.bool false))::E) D H) /\
 (∀ Q E D H,W M c (yf 4) true Q E D H =
  LOOP3 (W M c (yf 9)) (BLK3 0 (SEQ3 (W M c (yf 19)) Q)) ((4,(.int .i64 0))::E) D H) /\
 (∀ Q E D H,W M c (yf 19) true Q E D H =
  Lz E 3 fun g t3=>Bn g .gtr t3 (.int .i64 1000) fun g t21=>GO3 g Q .ret ((2,t21)::E) D H) /\
 (∀ Q E D H,W M c (yf 9) true Q E D H =
  Lz E 4 fun g t4=>Ly g E 0 fun g t0=>B3 g (Op.lenSl [t0]) fun g t7=>Cb g .lss t4 t7 (fun g=>Gt g M c (yf 15) Q E D H) (fun g=>GO3 g (SEQ3 (W M c (yf 15)) Q) (.exit 0) E D H)) /\
 (∀ Q E D H,W M c (yf 15) true Q E D H =
  Lz E 3 fun g t3=>Bn g .add t3 (.int .i64 1) fun g t12=>Ly g E 0 fun g t0=>Ly g E 4 fun g t4=>B3 g ((Op.indexSl 3) [t0,t4]) fun g t15=>Fl g 2 t15 H fun g t17=>B3 g (Op.lenSl [t17]) fun g t18=>Bn g .add t12 t18 fun g t19=>GO3 g (BLK3 1 (SEQ3 (W M c (yf 18)) Q)) .normal ((3,t19)::E) D H) /\
 (∀ Q E D H,W M c (yf 18) true Q E D H =
  Lz E 4 fun g t4=>Bn g .add t4 (.int .i64 1) fun g t10=>GO3 g Q .normal ((4,t10)::E) D H):=by (repeat' apply And.intro)<;>(intro _ _ _ _;refine W_unf ?_;kernel_rfl)
theorem qph:(cProg Tryz.prog).func qbg=some qgs/\qgs.results=[.tmp 2]:=jh (by kernel_rfl)
theorem qpi (h:W M ⟨none,qbg⟩ (yf 0) true (FIN3 M [.tmp 2] Q) [(0,a0)] [] H):qa6 M qbg [a0] H Q:=callf (by decide) qph (ks:=qjp) (by kernel_rfl) h
def qhe:AFunc:=funcAt Tryz.prog qb3
def qkq:Kp:=⟨[0,2,3,4,6,7,9,10,20,21,22,30,31,32,42,43],false,[0,2,10,14,19,25,31,36,42,48,53,59,64,65,66,67,70,71]⟩
def xd (k:Nat):Kp × ACode:=(qkq,part qhe.body k)
theorem qqv (M:Mac) (c:Ctx):(∀ Q E D H,W M c (xd 0) true Q E D H =
 W M c (xd 2) true Q ((2,.nils)::E) D H) /\
 (∀ Q E D H,W M c (xd 2) true Q E D H =
  Lz E 0 fun g t0=>C3 M g (.func qc2) [t0] H fun g t12 H1=>B3 g ((Op.un .not) [t12]) fun g t13=>IF3 g t13 (fun g=>GO3 g (SEQ3 (W M c (xd 10)) Q) .ret ((2,.nils)::E) D H1) (fun g=>Gt g M c (xd 10) Q E D H1)) /\
 (∀ Q E D H,W M c (xd 10) true Q E D H =
  W M c (xd 14) true Q ((4,(.int .i64 0))::(3,.nils)::E) D H) /\
 (∀ Q E D H,W M c (xd 14) true Q E D H =
  Lz E 0 fun g t0=>B3 g (Op.lenSl [t0]) fun g t16=>Bn g .sub t16 (.int .i64 1) fun g t17=>B3 g ((Op.indexSl 3) [t0,t17]) fun g t18=>Fl g 2 t18 H fun g t20=>B3 g (Op.lenSl [t20]) fun g t21=>LOOP3 (W M c (xd 19)) (BLK3 0 (SEQ3 (W M c (xd 71)) Q)) ((22,(.int .i64 0))::(21,t21)::(20,t20)::E) D H) /\
 (∀ Q E D H,W M c (xd 71) true Q E D H =
  Lz E 3 fun g t3=>GO3 g Q .ret ((2,t3)::E) D H) /\
 (∀ Q E D H,W M c (xd 19) true Q E D H =
  Lz E 22 fun g t22=>Ly g E 21 fun g t21=>Cb g .lss t22 t21 (fun g=>Gt g M c (xd 25) Q E D H) (fun g=>GO3 g (SEQ3 (W M c (xd 25)) Q) (.exit 0) E D H)) /\
 (∀ Q E D H,W M c (xd 25) true Q E D H =
  Lz E 20 fun g t20=>Ly g E 22 fun g t22=>Xl g t20 t22 H fun g t25=>W M c (xd 31) g (BLK3 1 (SEQ3 (W M c (xd 70)) Q)) ((7,.nils)::(6,t25)::E) D H) /\
 (∀ Q E D H,W M c (xd 70) true Q E D H =
  Lz E 22 fun g t22=>Bn g .add t22 (.int .i64 1) fun g t73=>GO3 g Q .normal ((22,t73)::E) D H) /\
 (∀ Q E D H,W M c (xd 31) true Q E D H =
  Lz E 0 fun g t0=>Ly g E 4 fun g t4=>Ly g E 6 fun g t6=>Bn g .add t6 (.int .i64 1) fun g t29=>B3 g ((Op.sliceSl 3 [(some 0),(some 1),none]) [t0,t4,t29]) fun g t30=>B3 g (Op.lenSl [t30]) fun g t31=>LOOP3 (W M c (xd 36)) (BLK3 2 (SEQ3 (W M c (xd 67)) Q)) ((32,(.int .i64 0))::(31,t31)::(30,t30)::E) D H) /\
 (∀ Q E D H,W M c (xd 67) true Q E D H =
  Lz E 3 fun g t3=>Ly g E 7 fun g t7=>Ly g E 6 fun g t6=>Ly g E 4 fun g t4=>Bn g .sub t6 t4 fun g t64=>B32 g ((Op.buildSlice T_int 1 [(.int .i64 0)] [(0,1)]) [t64]) fun g o1 k1=>B3 g ((Op.build [(.int .i64 0),(.int .u64 0),.nils] [(0,1),(2,1)]) [(.int .i64 20),(k1 H.next)]) fun g t66=>B32 g ((Op.buildSlice xh 1 [(.int .i64 0),(.int .u64 0),.nils] [(0,3)]) [t66]) fun g o2 k2=>B32 g ((Op.append xh 3 40) [t7,(k2 (H.alloc o1).next)] ((H.alloc o1).alloc o2)) fun g t68 H3=>B32 g ((Op.buildSlice T__6 1 [.nils] [(0,1)]) [t68]) fun g o4 k4=>B32 g ((Op.append T__6 1 24) [t3,(k4 H3.next)] (H3.alloc o4)) fun g t70 H5=>Ly g E 6 fun g t6_1=>Bn g .add t6_1 (.int .i64 1) fun g t72=>GO3 g Q .normal ((4,t72)::(3,t70)::E) D H5) /\
 (∀ Q E D H,W M c (xd 36) true Q E D H =
  Lz E 32 fun g t32=>Ly g E 31 fun g t31=>Cb g .lss t32 t31 (fun g=>Gt g M c (xd 42) Q E D H) (fun g=>GO3 g (SEQ3 (W M c (xd 42)) Q) (.exit 2) E D H)) /\
 (∀ Q E D H,W M c (xd 42) true Q E D H =
  Lz E 30 fun g t30=>Ly g E 32 fun g t32=>B3 g ((Op.indexSl 3) [t30,t32]) fun g t34=>B3 g ((Op.loadN 3) [t34] H) fun g t35=>A3 g xh [(.int .i64 0),(.int .u64 0),.nils] H fun g t9 H1=>B32 g ((Op.store 3) [t9,t35] H1) fun g u H2=>Fl g 2 t9 H2 fun g t37=>C3 M g (.func wn) [t37] H2 fun g t38 H3=>Fs g 2 t9 t38 H3 fun g u_1 H4=>W M c (xd 48) g (BLK3 3 (SEQ3 (W M c (xd 66)) Q)) ((9,t9)::E) D H4) /\
 (∀ Q E D H,W M c (xd 66) true Q E D H =
  Lz E 32 fun g t32=>Bn g .add t32 (.int .i64 1) fun g t59=>GO3 g Q .normal ((32,t59)::E) D H) /\
 (∀ Q E D H,W M c (xd 48) true Q E D H =
  Lz E 9 fun g t9=>Fl g 2 t9 H fun g t41=>B3 g (Op.lenSl [t41]) fun g t42=>LOOP3 (W M c (xd 53)) (BLK3 4 (SEQ3 (W M c (xd 65)) Q)) ((43,(.int .i64 0))::(42,t42)::E) D H) /\
 (∀ Q E D H,W M c (xd 65) true Q E D H =
  Lz E 7 fun g t7=>Ly g E 9 fun g t9=>B3 g ((Op.loadN 3) [t9] H) fun g t56=>B32 g ((Op.buildSlice xh 1 [(.int .i64 0),(.int .u64 0),.nils] [(0,3)]) [t56]) fun g o1 k1=>B32 g ((Op.append xh 3 40) [t7,(k1 H.next)] (H.alloc o1)) fun g t58 H2=>GO3 g Q .normal ((7,t58)::E) D H2) /\
 (∀ Q E D H,W M c (xd 53) true Q E D H =
  Lz E 43 fun g t43=>Ly g E 42 fun g t42=>Cb g .lss t43 t42 (fun g=>Gt g M c (xd 59) Q E D H) (fun g=>GO3 g (SEQ3 (W M c (xd 59)) Q) (.exit 4) E D H)) /\
 (∀ Q E D H,W M c (xd 59) true Q E D H =
  Lz E 43 fun g t43=>Ly g E 9 fun g t9=>Fl g 2 t9 H fun g t47=>Xl g t47 t43 H fun g t50=>Ly g E 4 fun g t4=>Bn g .sub t50 t4 fun g t52=>Xs g t47 t43 t52 H fun g u H1=>GO3 g (BLK3 5 (SEQ3 (W M c (xd 64)) Q)) .normal ((10,t43)::E) D H1) /\
 (∀ Q E D H,W M c (xd 64) true Q E D H =
  Lz E 43 fun g t43=>Bn g .add t43 (.int .i64 1) fun g t54=>GO3 g Q .normal ((43,t54)::E) D H):=by (repeat' apply And.intro)<;>(intro _ _ _ _;refine W_unf ?_;kernel_rfl)
theorem qqt:(cProg Tryz.prog).func qb3=some qhe/\qhe.results=[.tmp 2]:=jh (by kernel_rfl)
theorem qqu (h:W M ⟨none,qb3⟩ (xd 0) true (FIN3 M [.tmp 2] Q) [(0,a0)] [] H):qa6 M qb3 [a0] H Q:=callf (by decide) qqt (ks:=qkq) (by kernel_rfl) h
def qdq:AFunc:=funcAt Tryz.prog wn
def qf2:Kp:=⟨[0,2],false,[0,2,10]⟩
def vm (k:Nat):Kp × ACode:=(qf2,part qdq.body k)
theorem qdr (M:Mac) (c:Ctx):(∀ Q E D H,W M c (vm 0) true Q E D H =
 W M c (vm 2) true Q ((2,.nils)::E) D H) /\
 (∀ Q E D H,W M c (vm 2) true Q E D H =
  Lz E 0 fun g t0=>B3 g ((Op.eq .slice false) [t0,.nils] H) fun g t4=>IF3 g t4 (fun g=>GO3 g (SEQ3 (W M c (vm 10)) Q) .ret ((2,.nils)::E) D H) (fun g=>Gt g M c (vm 10) Q E D H)) /\
 (∀ Q E D H,W M c (vm 10) true Q E D H =
  B32 true ((Op.buildSlice T_int 0 [(.int .i64 0)] []) []) fun g o1 k1=>Ly g E 0 fun g t0=>B32 g ((Op.append T_int 1 8) [(k1 H.next),t0] (H.alloc o1)) fun g t7 H2=>GO3 g Q .ret ((2,t7)::E) D H2):=by (repeat' apply And.intro)<;>(intro _ _ _ _;refine W_unf ?_;kernel_rfl)
theorem qjw:(cProg Tryz.prog).func wn=some qdq/\qdq.results=[.tmp 2]:=jh (by kernel_rfl)
theorem qjx (h:W M ⟨none,wn⟩ (vm 0) true (FIN3 M [.tmp 2] Q) [(0,a0)] [] H):qa6 M wn [a0] H Q:=callf (by decide) qjw (ks:=qf2) (by kernel_rfl) h
end
end Go.Am
