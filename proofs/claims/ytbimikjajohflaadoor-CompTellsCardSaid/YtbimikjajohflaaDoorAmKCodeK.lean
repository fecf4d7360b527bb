/- CodeK: CodeS CodeLA CodeLB CodeCA CodeCT. -/
import Derived.Test.YtbimikjajohflaaDoorAmKB4
import Derived.Test.YtbimikjajohflaaDoorAmKB1
import Derived.KernelRfl
import Derived.Test.YtbimikjajohflaaDoorRows
set_option linter.unusedVariables false
set_option maxRecDepth 100000
namespace Go.Am
abbrev jx:Nat:=136
abbrev kj:Nat:=147
abbrev jb:Nat:=141
abbrev qgg:Nat:=142
abbrev km:Nat:=145
abbrev ko:Nat:=140
abbrev yu:Nat:=139
abbrev qas:Nat:=146
abbrev qag:Nat:=127
abbrev vm:Nat:=97
abbrev kx:Nat:=98
abbrev ju:Nat:=42
abbrev z0:Nat:=94
abbrev js:Nat:=122
abbrev qap:Nat:=126
abbrev q24:Nat:=167
abbrev yv:Nat:=9
abbrev qbd:Nat:=5
abbrev zz:Nat:=1
def q2s:List UInt8:=[115,116,114,105,110,103,115,46,66,117,105,108,100,101,114,46,71,114,111,119,58,32,110,101,103,97,116,105,118,101,32,99,111,117,110,116]
def qqb:List UInt8:=[48,49,50,51,52,53,54,55,56,57,97,98,99,100,101,102,103,104,105,106,107,108,109,110,111,112,113,114,115,116,117,118,119,120,121,122]
def vu:List UInt8:=[48,48,48,49,48,50,48,51,48,52,48,53,48,54,48,55,48,56,48,57,49,48,49,49,49,50,49,51,49,52,49,53,49,54,49,55,49,56,49,57,50,48,50,49,50,50,50,51,50,52,50,53,50,54,50,55,50,56,50,57,51,48,51,49,51,50,51,51,51,52,51,53,51,54,51,55,51,56,51,57,52,48,52,49,52,50,52,51,52,52,52,53,52,54,52,55,52,56,52,57,53,48,53,49,53,50,53,51,53,52,53,53,53,54,53,55,53,56,53,57,54,48,54,49,54,50,54,51,54,52,54,53,54,54,54,55,54,56,54,57,55,48,55,49,55,50,55,51,55,52,55,53,55,54,55,55,55,56,55,57,56,48,56,49,56,50,56,51,56,52,56,53,56,54,56,55,56,56,56,57,57,48,57,49,57,50,57,51,57,52,57,53,57,54,57,55,57,56,57,57]
def qmg:List UInt8:=[0,1,2,2,3,3,3,3,4,4,4,4,4,4,4,4,5,5,5,5,5,5,5,5,5,5,5,5,5,5,5,5,6,6,6,6,6,6,6,6,6,6,6,6,6,6,6,6,6,6,6,6,6,6,6,6,6,6,6,6,6,6,6,6,7,7,7,7,7,7,7,7,7,7,7,7,7,7,7,7,7,7,7,7,7,7,7,7,7,7,7,7,7,7,7,7,7,7,7,7,7,7,7,7,7,7,7,7,7,7,7,7,7,7,7,7,7,7,7,7,7,7,7,7,7,7,7,7,8,8,8,8,8,8,8,8,8,8,8,8,8,8,8,8,8,8,8,8,8,8,8,8,8,8,8,8,8,8,8,8,8,8,8,8,8,8,8,8,8,8,8,8,8,8,8,8,8,8,8,8,8,8,8,8,8,8,8,8,8,8,8,8,8,8,8,8,8,8,8,8,8,8,8,8,8,8,8,8,8,8,8,8,8,8,8,8,8,8,8,8,8,8,8,8,8,8,8,8,8,8,8,8,8,8,8,8,8,8,8,8,8,8,8,8,8,8,8,8,8,8,8,8,8,8,8,8]
noncomputable section
open Go.Proofs Go.Proofs.YtbimikjajohflaaDoor
class MK (M:Mac):Prop where
 ok:∀ n,memN n [20,30]=false->M.func n=(cProg Tryd.prog).func n
theorem MK.at {M:Mac} [h:MK M] {n:Nat} {F:AFunc} (hn:memN n [20,30]=false) (hF:(cProg Tryd.prog).func n=some F):M.func n=some F:=(h.ok n hn).trans hF
theorem callf {M:Mac} [h:MK M] {n:Nat} {F:AFunc} (hn:memN n [20,30]=false) {rs:List ARes} (hF:(cProg Tryd.prog).func n=some F/\F.results=rs) {ks:Kp} {vs:List AV} (hk:keepB 0 vs.length ks.keep=true) {H:AHeap} {Q:AEnd->AHeap->Prop} (hw:W M ⟨none,n⟩ (ks,part F.body 0) true (FIN3 M rs Q) (envA 0 vs) [] H):vt M n vs H Q:=calle (MK.at hn hF.1) hk (hF.2 ▸ hw)
variable {M:Mac} [MK M] {H:AHeap} {Q:AEnd->AHeap->Prop} {a0 a1:AV}
def qeg:AFunc:=funcAt Tryd.prog qag
def qgv:Kp:=⟨[0,1,4],false,[0]⟩
def qgw (k:Nat):Kp × ACode:=(qgv,part qeg.body k)
theorem qgx (M:Mac) (c:Ctx):(∀ Q E D H,W M c (qgw 0) true Q E D H =
 Lz E 0 fun g t0=>Ly g E 1 fun g t1=>C3 M g (.func jx) [t0,t1] H fun g t7 H1=>GO3 g Q .ret ((4,t7)::(4,(.str []))::E) D H1):=by intro _ _ _ _;refine W_unf ?_;kernel_rfl
theorem qlh:(cProg Tryd.prog).func qag=some qeg/\qeg.results=[.tmp 4]:=xv (by kernel_rfl)
theorem qli (h:W M ⟨none,qag⟩ (qgw 0) true (FIN3 M [.tmp 4] Q) [(0,a0),(1,a1)] [] H):vt M qag [a0,a1] H Q:=callf (by decide) qlh (ks:=qgv) (by kernel_rfl) h
def qdh:AFunc:=funcAt Tryd.prog vm
def qfn:Kp:=⟨[0,1],false,[0,2,8]⟩
def vo (k:Nat):Kp × ACode:=(qfn,part qdh.body k)
theorem qb4 (M:Mac) (c:Ctx):(∀ Q E D H,W M c (vo 0) true Q E D H =
 Lz E 0 fun g t0=>C3 M g (.func js) [t0] H fun g t5 H1=>W M c (vo 2) g Q E D H1) /\
 (∀ Q E D H,W M c (vo 2) true Q E D H =
  Lz E 1 fun g t1=>Cb g .lss t1 (.int .i64 0) (fun g=>B3 g ((Op.mkIface yv) [(.str q2s)]) fun g t8=>False) (fun g=>Gt g M c (vo 8) Q E D H)) /\
 (∀ Q E D H,W M c (vo 8) true Q E D H =
  Lz E 0 fun g t0=>Nf g 1 t0 H fun g t12=>B3 g (Op.cap [t12]) fun g t13=>Nf g 1 t0 H fun g t17=>B3 g (Op.lenSl [t17]) fun g t18=>Bn g .sub t13 t18 fun g t19=>Ly g E 1 fun g t1=>Cb g .lss t19 t1 (fun g=>Ly g E 0 fun g t0_1=>Ly g E 1 fun g t1_1=>C3 M g (.func qap) [t0_1,t1_1] H fun g t24 H1=>GO3 g Q .normal E D H1) (fun g=>GO3 g Q .normal E D H)):=by (repeat' apply And.intro)<;>(intro _ _ _ _;refine W_unf ?_;kernel_rfl)
theorem qjw:(cProg Tryd.prog).func vm=some qdh/\qdh.results=[]:=xv (by kernel_rfl)
theorem qjx (h:W M ⟨none,vm⟩ (vo 0) true (FIN3 M [] Q) [(0,a0),(1,a1)] [] H):vt M vm [a0,a1] H Q:=callf (by decide) qjw (ks:=qfn) (by kernel_rfl) h
def qbg:AFunc:=funcAt Tryd.prog z0
def qdb:Kp:=⟨[0,1,4,5],false,[0]⟩
def qdc (k:Nat):Kp × ACode:=(qdb,part qbg.body k)
theorem qbh (M:Mac) (c:Ctx):(∀ Q E D H,W M c (qdc 0) true Q E D H =
 Lz E 0 fun g t0=>C3 M g (.func js) [t0] H fun g t7 H1=>Ly g E 0 fun g t0_1=>Nf g 1 t0_1 H1 fun g t12=>Ly g E 1 fun g t1=>B32 g ((Op.append qbd 1 1) [t12,t1] H1) fun g t14 H2=>Ns g 1 t0_1 t14 H2 fun g u H3=>Ly g E 1 fun g t1_1=>B3 g (Op.lenStr [t1_1]) fun g t18=>GO3 g Q .ret ((5,.nili)::(4,t18)::(5,.nili)::(4,(.int .i64 0))::E) D H3):=by intro _ _ _ _;refine W_unf ?_;kernel_rfl
theorem qgm:(cProg Tryd.prog).func z0=some qbg/\qbg.results=[.tmp 4,.tmp 5]:=xv (by kernel_rfl)
theorem qgn (h:W M ⟨none,z0⟩ (qdc 0) true (FIN3 M [.tmp 4,.tmp 5] Q) [(0,a0),(1,a1)] [] H):vt M z0 [a0,a1] H Q:=callf (by decide) qgm (ks:=qdb) (by kernel_rfl) h
def qcs:AFunc:=funcAt Tryd.prog ju
def qe2:Kp:=⟨[0,2],false,[0]⟩
def qe3 (k:Nat):Kp × ACode:=(qe2,part qcs.body k)
theorem qe4 (M:Mac) (c:Ctx):(∀ Q E D H,W M c (qe3 0) true Q E D H =
 Lz E 0 fun g t0=>Nf g 1 t0 H fun g t6=>B3 g (Op.sliceData [t6]) fun g t7=>Nf g 1 t0 H fun g t11=>B3 g (Op.lenSl [t11]) fun g t12=>B32 g ((Op.strOfPtr qbd) [t7,t12] H) fun g t13 H1=>GO3 g Q .ret ((2,t13)::(2,(.str []))::E) D H1):=by intro _ _ _ _;refine W_unf ?_;kernel_rfl
theorem qi1:(cProg Tryd.prog).func ju=some qcs/\qcs.results=[.tmp 2]:=xv (by kernel_rfl)
theorem qi2 (h:W M ⟨none,ju⟩ (qe3 0) true (FIN3 M [.tmp 2] Q) [(0,a0)] [] H):vt M ju [a0] H Q:=callf (by decide) qi1 (ks:=qe2) (by kernel_rfl) h
def qdz:AFunc:=funcAt Tryd.prog kx
def qge:Kp:=⟨[0,2],false,[0]⟩
def qgf (k:Nat):Kp × ACode:=(qge,part qdz.body k)
theorem qkq (M:Mac) (c:Ctx):(∀ Q E D H,W M c (qgf 0) true Q E D H =
 Lz E 0 fun g t0=>Nf g 1 t0 H fun g t6=>B3 g (Op.lenSl [t6]) fun g t7=>GO3 g Q .ret ((2,t7)::(2,(.int .i64 0))::E) D H):=by intro _ _ _ _;refine W_unf ?_;kernel_rfl
theorem qko:(cProg Tryd.prog).func kx=some qdz/\qdz.results=[.tmp 2]:=xv (by kernel_rfl)
theorem qkp (h:W M ⟨none,kx⟩ (qgf 0) true (FIN3 M [.tmp 2] Q) [(0,a0)] [] H):vt M kx [a0] H Q:=callf (by decide) qko (ks:=qge) (by kernel_rfl) h
def qbf:AFunc:=funcAt Tryd.prog jx
def qda:Kp:=⟨[0,1,4,5,6,8],false,[0,2,6,14,24]⟩
def xq (k:Nat):Kp × ACode:=(qda,part qbf.body k)
theorem v8 (M:Mac) (c:Ctx):(∀ Q E D H,W M c (xq 0) true Q E D H =
 W M c (xq 2) true Q ((4,(.str []))::E) D H) /\
 (∀ Q E D H,W M c (xq 2) true Q E D H =
  Lz E 1 fun g t1=>Cb g .eql t1 (.int .i64 10) (fun g=>W M c (xq 6) g (SEQ3 (W M c (xq 24)) Q) E D H) (fun g=>Gt g M c (xq 24) Q E D H)) /\
 (∀ Q E D H,W M c (xq 24) true Q E D H =
  Lz E 0 fun g t0=>Ly g E 1 fun g t1=>C3 M g (.func qgg) [.nils,t0,t1,(.bool false),(.bool false)] H fun g t28 H1=>B3 g ((Op.extract 0) [t28]) fun g t29=>B3 g ((Op.extract 1) [t28]) fun g t30=>GO3 g Q .ret ((4,t30)::(8,t30)::E) D H1) /\
 (∀ Q E D H,W M c (xq 6) true Q E D H =
  Lz E 0 fun g t0=>Cb g .lss t0 (.int .u64 100) (fun g=>Ly g E 0 fun g t0_1=>B3 g ((Op.wrap .i64) [t0_1]) fun g t14=>C3 M g (.func yu) [t14] H fun g t15 H1=>GO3 g (SEQ3 (W M c (xq 14)) Q) .ret ((4,t15)::E) D H1) (fun g=>Gt g M c (xq 14) Q E D H)) /\
 (∀ Q E D H,W M c (xq 14) true Q E D H =
  A3 true q24 (List.replicate 24 (.int .u8 0)) H fun g t5 H1=>Ly g E 0 fun g t0=>C3 M g (.func ko) [t0] H1 fun g t17 H2=>B3 g ((Op.sliceArr 24 1 [none,(some 0),none]) [t5,t17]) fun g t19=>Ly g E 0 fun g t0_1=>C3 M g (.func jb) [t19,t0_1] H2 fun g t21 H3=>B3 g ((Op.sliceArr 24 1 [none,(some 0),none]) [t5,t17]) fun g t23=>B3 g (Op.strOfBytes [t23] H3) fun g t24=>GO3 g Q .ret ((4,t24)::(6,t17)::(5,t5)::E) D H3):=by (repeat' apply And.intro)<;>(intro _ _ _ _;refine W_unf ?_;kernel_rfl)
theorem qgk:(cProg Tryd.prog).func jx=some qbf/\qbf.results=[.tmp 4]:=xv (by kernel_rfl)
theorem qgl (h:W M ⟨none,jx⟩ (xq 0) true (FIN3 M [.tmp 4] Q) [(0,a0),(1,a1)] [] H):vt M jx [a0,a1] H Q:=callf (by decide) qgk (ks:=qda) (by kernel_rfl) h
def qb1:AFunc:=funcAt Tryd.prog js
def qd0:Kp:=⟨[0],false,[0]⟩
def qd1 (k:Nat):Kp × ACode:=(qd0,part qb1.body k)
theorem qd2 (M:Mac) (c:Ctx):(∀ Q E D H,W M c (qd1 0) true Q E D H =
 Lz E 0 fun g t0=>Nf g 0 t0 H fun g t5=>B3 g ((Op.eq .ptr false) [t5,.nilp] H) fun g t6=>IF3 g t6 (fun g=>Ly g E 0 fun g t0_1=>B3 g ((Op.castPtr (liesB Tryd.prog 78)) [t0_1] H) fun g t9=>B3 g (Op.noEscape [t9]) fun g t10=>B3 g ((Op.castPtr (liesB Tryd.prog 78)) [t10] H) fun g t11=>Ns g 0 t0_1 t11 H fun g u H1=>GO3 g Q .normal E D H1) (fun g=>Ly g E 0 fun g t0_1=>Nf g 0 t0_1 H fun g t17=>B3 g ((Op.eq .ptr true) [t17,t0_1] H) fun g t19=>IF3 g t19 (fun g=>False) (fun g=>GO3 g Q .normal E D H))):=by intro _ _ _ _;refine W_unf ?_;kernel_rfl
theorem qhs:(cProg Tryd.prog).func js=some qb1/\qb1.results=[]:=xv (by kernel_rfl)
theorem qht (h:W M ⟨none,js⟩ (qd1 0) true (FIN3 M [] Q) [(0,a0)] [] H):vt M js [a0] H Q:=callf (by decide) qhs (ks:=qd0) (by kernel_rfl) h
def qdi:AFunc:=funcAt Tryd.prog qap
def qfo:Kp:=⟨[0,1,4],false,[0]⟩
def qfp (k:Nat):Kp × ACode:=(qfo,part qdi.body k)
theorem qj0 (M:Mac) (c:Ctx):(∀ Q E D H,W M c (qfp 0) true Q E D H =
 Lz E 0 fun g t0=>Nf g 1 t0 H fun g t8=>B3 g (Op.cap [t8]) fun g t9=>Bn g .mul (.int .i64 2) t9 fun g t10=>Ly g E 1 fun g t1=>Bn g .add t10 t1 fun g t12=>Nf g 1 t0 H fun g t17=>B3 g (Op.lenSl [t17]) fun g t18=>B32 g ((Op.makeNoZero qbd) [t12]) fun g o1 k1=>B3 g ((Op.sliceSl 1 [none,(some 0),none]) [(k1 H.next),t18]) fun g t19=>Ly g E 0 fun g t0_1=>Nf g 1 t0_1 (H.alloc o1) fun g t24=>B32 g ((Op.copy 1) [t19,t24] (H.alloc o1)) fun g t25 H2=>Ly g E 0 fun g t0_2=>Ns g 1 t0_2 t19 H2 fun g u H3=>GO3 g Q .normal ((4,t19)::E) D H3):=by intro _ _ _ _;refine W_unf ?_;kernel_rfl
theorem qjy:(cProg Tryd.prog).func qap=some qdi/\qdi.results=[]:=xv (by kernel_rfl)
theorem qjz (h:W M ⟨none,qap⟩ (qfp 0) true (FIN3 M [] Q) [(0,a0),(1,a1)] [] H):vt M qap [a0,a1] H Q:=callf (by decide) qjy (ks:=qfo) (by kernel_rfl) h
def qcq:AFunc:=funcAt Tryd.prog yu
def qey:Kp:=⟨[0,2],false,[0,2,10]⟩
def ku (k:Nat):Kp × ACode:=(qey,part qcq.body k)
theorem qez (M:Mac) (c:Ctx):(∀ Q E D H,W M c (ku 0) true Q E D H =
 W M c (ku 2) true Q ((2,(.str []))::E) D H) /\
 (∀ Q E D H,W M c (ku 2) true Q E D H =
  Lz E 0 fun g t0=>Cb g .lss t0 (.int .i64 10) (fun g=>Ly g E 0 fun g t0_1=>Bn g .add t0_1 (.int .i64 1) fun g t7=>B3 g ((Op.sliceStr [(some 0),(some 1)]) [(.str qqb),t0_1,t7]) fun g t8=>GO3 g (SEQ3 (W M c (ku 10)) Q) .ret ((2,t8)::E) D H) (fun g=>Gt g M c (ku 10) Q E D H)) /\
 (∀ Q E D H,W M c (ku 10) true Q E D H =
  Lz E 0 fun g t0=>Bn g .mul t0 (.int .i64 2) fun g t10=>Bn g .mul t0 (.int .i64 2) fun g t12=>Bn g .add t12 (.int .i64 2) fun g t13=>B3 g ((Op.sliceStr [(some 0),(some 1)]) [(.str vu),t10,t13]) fun g t14=>GO3 g Q .ret ((2,t14)::E) D H):=by (repeat' apply And.intro)<;>(intro _ _ _ _;refine W_unf ?_;kernel_rfl)
theorem qiu:(cProg Tryd.prog).func yu=some qcq/\qcq.results=[.tmp 2]:=xv (by kernel_rfl)
theorem qiv (h:W M ⟨none,yu⟩ (ku 0) true (FIN3 M [.tmp 2] Q) [(0,a0)] [] H):vt M yu [a0] H Q:=callf (by decide) qiu (ks:=qey) (by kernel_rfl) h
def qbm:AFunc:=funcAt Tryd.prog ko
def qdm:Kp:=⟨[0,2,3],false,[0]⟩
def qdn (k:Nat):Kp × ACode:=(qdm,part qbm.body k)
theorem yp (M:Mac) (c:Ctx):(∀ Q E D H,W M c (qdn 0) true Q E D H =
 Lz E 0 fun g t0=>C3 M g (.func qas) [t0] H fun g t5 H1=>C3 M g (.func km) [t5] H1 fun g t6 H2=>Ly g E 0 fun g t0_1=>B3 g ((Op.indexArr 20 1) [(.ptr zz 0),t6]) fun g t10=>B3 g (Op.load1 [t10] H2) fun g t11=>Bn g .geq t0_1 t11 fun g t12=>C3 M g (.func kj) [t12] H2 fun g t13 H3=>Bn g .add t6 t13 fun g t14=>GO3 g Q .ret ((2,t14)::(3,t6)::(2,(.int .i64 0))::E) D H3):=by intro _ _ _ _;refine W_unf ?_;kernel_rfl
theorem qg6:(cProg Tryd.prog).func ko=some qbm/\qbm.results=[.tmp 2]:=xv (by kernel_rfl)
theorem qg7 (h:W M ⟨none,ko⟩ (qdn 0) true (FIN3 M [.tmp 2] Q) [(0,a0)] [] H):vt M ko [a0] H Q:=callf (by decide) qg6 (ks:=qdm) (by kernel_rfl) h
def qav:AFunc:=funcAt Tryd.prog jb
def qcp:Kp:=⟨[0,1,4,5,6,7,8,9,10,11,12,13,14,15,16],false,[0,2,5,11,16,20,24,31,33,39,43,49,61]⟩
def qh (k:Nat):Kp × ACode:=(qcp,part qav.body k)
theorem zm (M:Mac) (c:Ctx):(∀ Q E D H,W M c (qh 0) true Q E D H =
 Lz E 0 fun g t0=>B3 g (Op.lenSl [t0]) fun g t18=>W M c (qh 2) g Q ((4,t18)::E) D H) /\
 (∀ Q E D H,W M c (qh 2) true Q E D H =
  LOOP3 (W M c (qh 5)) (BLK3 0 (SEQ3 (W M c (qh 31)) Q)) E D H) /\
 (∀ Q E D H,W M c (qh 31) true Q E D H =
  Lz E 1 fun g t1=>B3 g ((Op.wrap .u32) [t1]) fun g t97=>W M c (qh 33) g Q ((12,t97)::E) D H) /\
 (∀ Q E D H,W M c (qh 5) true Q E D H =
  Lz E 4 fun g t4=>Cb g .geq t4 (.int .i64 8) (fun g=>Gt g M c (qh 11) Q E D H) (fun g=>GO3 g (SEQ3 (W M c (qh 11)) Q) (.exit 0) E D H)) /\
 (∀ Q E D H,W M c (qh 33) true Q E D H =
  Lz E 4 fun g t4=>Cb g .geq t4 (.int .i64 4) (fun g=>Ly g E 12 fun g t12=>Bn g .rem t12 (.int .u32 10000) fun g t101=>W M c (qh 39) g (SEQ3 (W M c (qh 49)) Q) ((13,t101)::E) D H) (fun g=>Gt g M c (qh 49) Q E D H)) /\
 (∀ Q E D H,W M c (qh 11) true Q E D H =
  Lz E 1 fun g t1=>Bn g .rem t1 (.int .u64 100000000) fun g t22=>B3 g ((Op.wrap .u32) [t22]) fun g t23=>Ly g E 1 fun g t1_1=>Bn g .quo t1_1 (.int .u64 100000000) fun g t25=>W M c (qh 16) g (BLK3 1 Q) ((1,t25)::(5,t23)::E) D H) /\
 (∀ Q E D H,W M c (qh 49) true Q E D H =
  Lz E 4 fun g t4=>Cb g .geq t4 (.int .i64 2) (fun g=>Ly g E 12 fun g t12=>Bn g .rem t12 (.int .u32 100) fun g t141=>Bn g .mul t141 (.int .u32 2) fun g t142=>Ly g E 12 fun g t12_1=>Bn g .quo t12_1 (.int .u32 100) fun g t144=>Ly g E 0 fun g t0=>Ly g E 4 fun g t4_1=>Bn g .sub t4_1 (.int .i64 1) fun g t147=>Bn g .sub t4_1 (.int .i64 2) fun g t150=>Bn g .add t142 (.int .u32 1) fun g t152=>B3 g (Op.indexStr [(.str vu),t152]) fun g t153=>B3 g (Op.indexStr [(.str vu),t142]) fun g t155=>Xs g t0 t147 t153 H fun g u H1=>Xs g t0 t150 t155 H1 fun g u_1 H2=>Ly g E 4 fun g t4_2=>Bn g .sub t4_2 (.int .i64 2) fun g t159=>Gt g M c (qh 61) Q ((4,t159)::(12,t144)::(16,t142)::E) D H2) (fun g=>Gt g M c (qh 61) Q E D H)) /\
 (∀ Q E D H,W M c (qh 39) true Q E D H =
  Lz E 12 fun g t12=>Bn g .quo t12 (.int .u32 10000) fun g t103=>Ly g E 13 fun g t13=>Bn g .quo t13 (.int .u32 100) fun g t105=>Bn g .mul t105 (.int .u32 2) fun g t106=>Bn g .rem t13 (.int .u32 100) fun g t108=>Bn g .mul t108 (.int .u32 2) fun g t109=>W M c (qh 43) g Q ((15,t109)::(14,t106)::(12,t103)::E) D H) /\
 (∀ Q E D H,W M c (qh 16) true Q E D H =
  Lz E 5 fun g t5=>Bn g .quo t5 (.int .u32 10000) fun g t27=>Bn g .rem t5 (.int .u32 10000) fun g t29=>Bn g .quo t29 (.int .u32 100) fun g t31=>Bn g .mul t31 (.int .u32 2) fun g t32=>Bn g .rem t29 (.int .u32 100) fun g t34=>Bn g .mul t34 (.int .u32 2) fun g t35=>W M c (qh 20) g Q ((9,t35)::(8,t32)::(7,t29)::(6,t27)::E) D H) /\
 (∀ Q E D H,W M c (qh 61) true Q E D H =
  Lz E 4 fun g t4=>Cb g .gtr t4 (.int .i64 0) (fun g=>Ly g E 0 fun g t0=>Ly g E 12 fun g t12=>Bn g .add (.int .u32 48) t12 fun g t164=>B3 g ((Op.wrap .u8) [t164]) fun g t165=>Xs g t0 (.int .i64 0) t165 H fun g u H1=>GO3 g Q .normal E D H1) (fun g=>GO3 g Q .normal E D H)) /\
 (∀ Q E D H,W M c (qh 43) true Q E D H =
  Lz E 0 fun g t0=>Ly g E 4 fun g t4=>Bn g .sub t4 (.int .i64 1) fun g t112=>Bn g .sub t4 (.int .i64 2) fun g t115=>Ly g E 15 fun g t15=>Bn g .add t15 (.int .u32 1) fun g t117=>B3 g (Op.indexStr [(.str vu),t117]) fun g t118=>B3 g (Op.indexStr [(.str vu),t15]) fun g t120=>Xs g t0 t112 t118 H fun g u H1=>Xs g t0 t115 t120 H1 fun g u_1 H2=>Ly g E 0 fun g t0_1=>Ly g E 4 fun g t4_1=>Bn g .sub t4_1 (.int .i64 3) fun g t125=>Bn g .sub t4_1 (.int .i64 4) fun g t128=>Ly g E 14 fun g t14=>Bn g .add t14 (.int .u32 1) fun g t130=>B3 g (Op.indexStr [(.str vu),t130]) fun g t131=>B3 g (Op.indexStr [(.str vu),t14]) fun g t133=>Xs g t0_1 t125 t131 H2 fun g u_2 H3=>Xs g t0_1 t128 t133 H3 fun g u_3 H4=>Ly g E 4 fun g t4_2=>Bn g .sub t4_2 (.int .i64 4) fun g t137=>GO3 g Q .normal ((4,t137)::E) D H4) /\
 (∀ Q E D H,W M c (qh 20) true Q E D H =
  Lz E 6 fun g t6=>Bn g .quo t6 (.int .u32 100) fun g t37=>Bn g .mul t37 (.int .u32 2) fun g t38=>Bn g .rem t6 (.int .u32 100) fun g t40=>Bn g .mul t40 (.int .u32 2) fun g t41=>Ly g E 0 fun g t0=>Ly g E 4 fun g t4=>Bn g .sub t4 (.int .i64 1) fun g t44=>Bn g .sub t4 (.int .i64 2) fun g t47=>Ly g E 9 fun g t9=>Bn g .add t9 (.int .u32 1) fun g t49=>B3 g (Op.indexStr [(.str vu),t49]) fun g t50=>B3 g (Op.indexStr [(.str vu),t9]) fun g t52=>Xs g t0 t44 t50 H fun g u H1=>Xs g t0 t47 t52 H1 fun g u_1 H2=>W M c (qh 24) g Q ((11,t41)::(10,t38)::E) D H2) /\
 (∀ Q E D H,W M c (qh 24) true Q E D H =
  Lz E 0 fun g t0=>Ly g E 4 fun g t4=>Bn g .sub t4 (.int .i64 3) fun g t57=>Bn g .sub t4 (.int .i64 4) fun g t60=>Ly g E 8 fun g t8=>Bn g .add t8 (.int .u32 1) fun g t62=>B3 g (Op.indexStr [(.str vu),t62]) fun g t63=>B3 g (Op.indexStr [(.str vu),t8]) fun g t65=>Xs g t0 t57 t63 H fun g u H1=>Xs g t0 t60 t65 H1 fun g u_1 H2=>Ly g E 0 fun g t0_1=>Ly g E 4 fun g t4_1=>Bn g .sub t4_1 (.int .i64 5) fun g t70=>Bn g .sub t4_1 (.int .i64 6) fun g t73=>Ly g E 11 fun g t11=>Bn g .add t11 (.int .u32 1) fun g t75=>B3 g (Op.indexStr [(.str vu),t75]) fun g t76=>B3 g (Op.indexStr [(.str vu),t11]) fun g t78=>Xs g t0_1 t70 t76 H2 fun g u_2 H3=>Xs g t0_1 t73 t78 H3 fun g u_3 H4=>Ly g E 0 fun g t0_2=>Ly g E 4 fun g t4_2=>Bn g .sub t4_2 (.int .i64 7) fun g t83=>Bn g .sub t4_2 (.int .i64 8) fun g t86=>Ly g E 10 fun g t10=>Bn g .add t10 (.int .u32 1) fun g t88=>B3 g (Op.indexStr [(.str vu),t88]) fun g t89=>B3 g (Op.indexStr [(.str vu),t10]) fun g t91=>Xs g t0_2 t83 t89 H4 fun g u_4 H5=>Xs g t0_2 t86 t91 H5 fun g u_5 H6=>Ly g E 4 fun g t4_3=>Bn g .sub t4_3 (.int .i64 8) fun g t95=>GO3 g Q .normal ((4,t95)::E) D H6):=by (repeat' apply And.intro)<;>(intro _ _ _ _;refine W_unf ?_;kernel_rfl)
theorem qfw:(cProg Tryd.prog).func jb=some qav/\qav.results=[]:=xv (by kernel_rfl)
theorem qfx (h:W M ⟨none,jb⟩ (qh 0) true (FIN3 M [] Q) [(0,a0),(1,a1)] [] H):vt M jb [a0,a1] H Q:=callf (by decide) qfw (ks:=qcp) (by kernel_rfl) h
def qbl:AFunc:=funcAt Tryd.prog km
def qdk:Kp:=⟨[0,2],false,[0]⟩
def qdl (k:Nat):Kp × ACode:=(qdk,part qbl.body k)
theorem qg5 (M:Mac) (c:Ctx):(∀ Q E D H,W M c (qdl 0) true Q E D H =
 Lz E 0 fun g t0=>Bn g .mul t0 (.int .i64 78913) fun g t4=>Bn g .shr t4 (.int .u64 18) fun g t5=>GO3 g Q .ret ((2,t5)::(2,(.int .i64 0))::E) D H):=by intro _ _ _ _;refine W_unf ?_;kernel_rfl
theorem qg3:(cProg Tryd.prog).func km=some qbl/\qbl.results=[.tmp 2]:=xv (by kernel_rfl)
theorem qg4 (h:W M ⟨none,km⟩ (qdl 0) true (FIN3 M [.tmp 2] Q) [(0,a0)] [] H):vt M km [a0] H Q:=callf (by decide) qg3 (ks:=qdk) (by kernel_rfl) h
def qfz:AFunc:=funcAt Tryd.prog qas
def qiy:Kp:=⟨[0,2],false,[0,2,10,18,26]⟩
def zw (k:Nat):Kp × ACode:=(qiy,part qfz.body k)
theorem qea (M:Mac) (c:Ctx):(∀ Q E D H,W M c (zw 0) true Q E D H =
 W M c (zw 2) true Q ((2,(.int .i64 0))::E) D H) /\
 (∀ Q E D H,W M c (zw 2) true Q E D H =
  Lz E 0 fun g t0=>Cb g .geq t0 (.int .u64 4294967296) (fun g=>Ly g E 0 fun g t0_1=>Bn g .shr t0_1 (.int .u64 32) fun g t6=>Gt g M c (zw 10) Q ((2,(.int .i64 32))::(0,t6)::E) D H) (fun g=>Gt g M c (zw 10) Q E D H)) /\
 (∀ Q E D H,W M c (zw 10) true Q E D H =
  Lz E 0 fun g t0=>Cb g .geq t0 (.int .u64 65536) (fun g=>Ly g E 0 fun g t0_1=>Bn g .shr t0_1 (.int .u64 16) fun g t10=>Ly g E 2 fun g t2=>Bn g .add t2 (.int .i64 16) fun g t12=>Gt g M c (zw 18) Q ((2,t12)::(0,t10)::E) D H) (fun g=>Gt g M c (zw 18) Q E D H)) /\
 (∀ Q E D H,W M c (zw 18) true Q E D H =
  Lz E 0 fun g t0=>Cb g .geq t0 (.int .u64 256) (fun g=>Ly g E 0 fun g t0_1=>Bn g .shr t0_1 (.int .u64 8) fun g t16=>Ly g E 2 fun g t2=>Bn g .add t2 (.int .i64 8) fun g t18=>Gt g M c (zw 26) Q ((2,t18)::(0,t16)::E) D H) (fun g=>Gt g M c (zw 26) Q E D H)) /\
 (∀ Q E D H,W M c (zw 26) true Q E D H =
  Lz E 2 fun g t2=>Ly g E 0 fun g t0=>B3 g ((Op.wrap .u8) [t0]) fun g t21=>B3 g (Op.indexStr [(.str qmg),t21]) fun g t22=>B3 g ((Op.wrap .i64) [t22]) fun g t23=>Bn g .add t2 t23 fun g t24=>GO3 g Q .ret ((2,t24)::E) D H):=by (repeat' apply And.intro)<;>(intro _ _ _ _;refine W_unf ?_;kernel_rfl)
theorem qn2:(cProg Tryd.prog).func qas=some qfz/\qfz.results=[.tmp 2]:=xv (by kernel_rfl)
theorem qn3 (h:W M ⟨none,qas⟩ (zw 0) true (FIN3 M [.tmp 2] Q) [(0,a0)] [] H):vt M qas [a0] H Q:=callf (by decide) qn2 (ks:=qiy) (by kernel_rfl) h
def qbk:AFunc:=funcAt Tryd.prog kj
def qdj:Kp:=⟨[0,2],false,[0,2,10]⟩
def jp (k:Nat):Kp × ACode:=(qdj,part qbk.body k)
theorem qg2 (M:Mac) (c:Ctx):(∀ Q E D H,W M c (jp 0) true Q E D H =
 W M c (jp 2) true Q ((2,(.int .i64 0))::E) D H) /\
 (∀ Q E D H,W M c (jp 2) true Q E D H =
  Lz E 0 fun g t0=>IF3 g t0 (fun g=>GO3 g (SEQ3 (W M c (jp 10)) Q) .ret ((2,(.int .i64 1))::E) D H) (fun g=>Gt g M c (jp 10) Q E D H)) /\
 (∀ Q E D H,W M c (jp 10) true Q E D H =
  GO3 true Q .ret ((2,(.int .i64 0))::E) D H):=by (repeat' apply And.intro)<;>(intro _ _ _ _;refine W_unf ?_;kernel_rfl)
theorem qg0:(cProg Tryd.prog).func kj=some qbk/\qbk.results=[.tmp 2]:=xv (by kernel_rfl)
theorem qg1 (h:W M ⟨none,kj⟩ (jp 0) true (FIN3 M [.tmp 2] Q) [(0,a0)] [] H):vt M kj [a0] H Q:=callf (by decide) qg0 (ks:=qdj) (by kernel_rfl) h
end
end Go.Am
namespace Go.Am
abbrev kp:Nat:=125
abbrev qbo:Nat:=15
abbrev qev:Nat:=63
abbrev qa3:Nat:=40
abbrev qew:Nat:=62
abbrev qfs:Nat:=129
abbrev qex:Nat:=128
abbrev ya:Nat:=101
abbrev qa4:Nat:=100
abbrev zr:Nat:=99
abbrev qac:Nat:=41
abbrev zt:Nat:=66
abbrev qv:Nat:=64
abbrev qbu:Nat:=95
abbrev qno:Nat:=123
abbrev qbr:Nat:=124
abbrev wc:Nat:=93
abbrev kg:Nat:=96
abbrev qai:Nat:=65
abbrev qo:Nat:=58
abbrev qoj:Nat:=4
abbrev T_int:Nat:=3
abbrev j7:Nat:=80
abbrev qco:Nat:=78
def q0r:List UInt8:=[115,116,114,105,110,103,115,58,32,110,101,103,97,116,105,118,101,32,82,101,112,101,97,116,32,99,111,117,110,116]
def q0s:List UInt8:=[115,116,114,105,110,103,115,58,32,82,101,112,101,97,116,32,111,117,116,112,117,116,32,108,101,110,103,116,104,32,111,118,101,114,102,108,111,119]
def qfr:List UInt8:=[32,32,32,32,32,32,32,32,32,32,32,32,32,32,32,32,32,32,32,32,32,32,32,32,32,32,32,32,32,32,32,32,32,32,32,32,32,32,32,32,32,32,32,32,32,32,32,32,32,32,32,32,32,32,32,32,32,32,32,32,32,32,32,32,32,32,32,32,32,32,32,32,32,32,32,32,32,32,32,32,32,32,32,32,32,32,32,32,32,32,32,32,32,32,32,32,32,32,32,32,32,32,32,32,32,32,32,32,32,32,32,32,32,32,32,32,32,32,32,32,32,32,32,32,32,32,32,32]
def qsq:List UInt8:=[45,45,45,45,45,45,45,45,45,45,45,45,45,45,45,45,45,45,45,45,45,45,45,45,45,45,45,45,45,45,45,45,45,45,45,45,45,45,45,45,45,45,45,45,45,45,45,45,45,45,45,45,45,45,45,45,45,45,45,45,45,45,45,45,45,45,45,45,45,45,45,45,45,45,45,45,45,45,45,45,45,45,45,45,45,45,45,45,45,45,45,45,45,45,45,45,45,45,45,45,45,45,45,45,45,45,45,45,45,45,45,45,45,45,45,45,45,45,45,45,45,45,45,45,45,45,45,45]
def qsr:List UInt8:=[48,48,48,48,48,48,48,48,48,48,48,48,48,48,48,48,48,48,48,48,48,48,48,48,48,48,48,48,48,48,48,48,48,48,48,48,48,48,48,48,48,48,48,48,48,48,48,48,48,48,48,48,48,48,48,48,48,48,48,48,48,48,48,48]
def qss:List UInt8:=[61,61,61,61,61,61,61,61,61,61,61,61,61,61,61,61,61,61,61,61,61,61,61,61,61,61,61,61,61,61,61,61,61,61,61,61,61,61,61,61,61,61,61,61,61,61,61,61,61,61,61,61,61,61,61,61,61,61,61,61,61,61,61,61,61,61,61,61,61,61,61,61,61,61,61,61,61,61,61,61,61,61,61,61,61,61,61,61,61,61,61,61,61,61,61,61,61,61,61,61,61,61,61,61,61,61,61,61,61,61,61,61,61,61,61,61,61,61,61,61,61,61,61,61,61,61,61,61]
def qst:List UInt8:=[9,9,9,9,9,9,9,9,9,9,9,9,9,9,9,9,9,9,9,9,9,9,9,9,9,9,9,9,9,9,9,9,9,9,9,9,9,9,9,9,9,9,9,9,9,9,9,9,9,9,9,9,9,9,9,9,9,9,9,9,9,9,9,9]
def q0t:List UInt8:=[116,104,101,32,114,101,115,117,108,116,32,111,102,32,40,108,101,110,40,120,41,32,42,32,99,111,117,110,116,41,32,111,118,101,114,102,108,111,119,115]
noncomputable section
open Go.Proofs Go.Proofs.YtbimikjajohflaaDoor
variable {M:Mac} [MK M] {H:AHeap} {Q:AEnd->AHeap->Prop} {a0 a1 a2:AV}
def qka:AFunc:=funcAt Tryd.prog qbo
def qow:Kp:=⟨[0,2,3,4],false,[0,2,10,14,22]⟩
def qal (k:Nat):Kp × ACode:=(qow,part qka.body k)
theorem qoy (M:Mac) (c:Ctx):(∀ Q E D H,W M c (qal 0) true Q E D H =
 W M c (qal 2) true Q ((3,(.int .i64 0))::(2,(.str []))::E) D H) /\
 (∀ Q E D H,W M c (qal 2) true Q E D H =
  Lz E 0 fun g t0=>C3 M g (.func qa3) [t0] H fun g t6 H1=>B3 g ((Op.un .not) [t6]) fun g t7=>IF3 g t7 (fun g=>GO3 g (SEQ3 (W M c (qal 10)) Q) .ret ((3,(.int .i64 2))::(2,(.str []))::E) D H1) (fun g=>Gt g M c (qal 10) Q E D H1)) /\
 (∀ Q E D H,W M c (qal 10) true Q E D H =
  Lz E 0 fun g t0=>B3 g ((Op.build [.nilp,.nils,.nils,(.int .i64 0),(.int .i64 0)] [(2,1)]) [t0]) fun g t9=>A3 g j7 (AV.cells t9) H fun g t10 H1=>Ly g E 0 fun g t0_1=>B3 g (Op.lenSl [t0_1]) fun g t13=>Bn g .sub t13 (.int .i64 1) fun g t14=>C3 M g (.func qac) [t10,t14,(.int .i64 0)] H1 fun g t15 H2=>W M c (qal 14) g Q ((4,t10)::E) D H2) /\
 (∀ Q E D H,W M c (qal 14) true Q E D H =
  Lz E 4 fun g t4=>Nf g 4 t4 H fun g t19=>Cb g .gtr t19 (.int .i64 50) (fun g=>GO3 g (SEQ3 (W M c (qal 22)) Q) .ret ((3,(.int .i64 2))::(2,(.str []))::E) D H) (fun g=>Gt g M c (qal 22) Q E D H)) /\
 (∀ Q E D H,W M c (qal 22) true Q E D H =
  Lz E 4 fun g t4=>B3 g (Op.nilCheck [t4]) fun g t22=>B3 g ((Op.fieldAddr 0) [t22]) fun g t23=>C3 M g (.func ju) [t23] H fun g t24 H1=>GO3 g Q .ret ((3,(.int .i64 0))::(2,t24)::E) D H1):=by (repeat' apply And.intro)<;>(intro _ _ _ _;refine W_unf ?_;kernel_rfl)
theorem qwb:(cProg Tryd.prog).func qbo=some qka/\qka.results=[.tmp 2,.tmp 3]:=xv (by kernel_rfl)
theorem qox (h:W M ⟨none,qbo⟩ (qal 0) true (FIN3 M [.tmp 2,.tmp 3] Q) [(0,a0)] [] H):vt M qbo [a0] H Q:=callf (by decide) qwb (ks:=qow) (by kernel_rfl) h
def qny:AFunc:=funcAt Tryd.prog qa3
def qs1:Kp:=⟨[0,2,3,4,5,6,7,8,9,10,11,33,34,35,70,71,72],false,[0,2,10,14,19,25,31,39,41,46,52,56,64,65,66,70,78,80,81,82]⟩
def xh (k:Nat):Kp × ACode:=(qs1,part qny.body k)
theorem qs2 (M:Mac) (c:Ctx):(∀ Q E D H,W M c (xh 0) true Q E D H =
 W M c (xh 2) true Q ((2,(.bool false))::E) D H) /\
 (∀ Q E D H,W M c (xh 2) true Q E D H =
  Lz E 0 fun g t0=>B3 g (Op.lenSl [t0]) fun g t13=>Bn g .lss t13 (.int .i64 1) fun g t14=>JN (fun (k:Bool->AV->AV->AV->AHeap->Prop)=>B3 g (wantV false (some t14)) fun g w=>IG3 g w (fun g=>B3 g (Op.lenSl [t0]) fun g t17=>Bn g .gtr t17 (.int .i64 2000) fun g t18=>k g t18 t17 t0 H) (fun g=>k g uu uu uu H)) (fun g t18_1 t17_1 t16_1 H1=>B3 g (Op.pick [t14,(.bool true),t18_1]) fun g t19=>JN (fun (k:Bool->AV->AV->AV->AV->AV->AV->AV->AV->AHeap->Prop)=>B3 g (wantV false (some t19)) fun g w=>IG3 g w (fun g=>B3 g (Op.lenSl [t0]) fun g t23=>Bn g .sub t23 (.int .i64 1) fun g t24=>B3 g ((Op.indexSl 3) [t0,t24]) fun g t25=>B3 g ((Op.fieldAddr 0) [t25]) fun g t26=>B3 g (Op.load1 [t26] H1) fun g t27=>Bn g .neq t27 (.int .i64 20) fun g t28=>k g t28 t27 t26 t25 t24 t23 t0 t0 H1) (fun g=>k g uu uu uu uu uu uu uu uu H1)) (fun g t28_1 t27_1 t26_1 t25_1 t24_1 t23_1 t22_1 t21_1 H2=>B3 g (Op.pick [t19,(.bool true),t28_1]) fun g t29=>IF3 g t29 (fun g=>GO3 g (SEQ3 (W M c (xh 10)) Q) .ret ((2,(.bool false))::E) D H2) (fun g=>Gt g M c (xh 10) Q E D H2)))) /\
 (∀ Q E D H,W M c (xh 10) true Q E D H =
  Lz E 0 fun g t0=>B3 g (Op.lenSl [t0]) fun g t31=>B32 g ((Op.mkSlice qoj 1 [(.bool false)]) [t31,t31]) fun g o1 k1=>W M c (xh 14) g Q ((4,(k1 H.next))::(3,.nils)::E) D (H.alloc o1)) /\
 (∀ Q E D H,W M c (xh 14) true Q E D H =
  Lz E 0 fun g t0=>B3 g (Op.lenSl [t0]) fun g t34=>LOOP3 (W M c (xh 19)) (BLK3 0 (SEQ3 (W M c (xh 82)) Q)) ((35,(.int .i64 0))::(34,t34)::(33,t0)::E) D H) /\
 (∀ Q E D H,W M c (xh 82) true Q E D H =
  Lz E 3 fun g t3=>B3 g (Op.lenSl [t3]) fun g t132=>Bn g .eql t132 (.int .i64 1) fun g t133=>GO3 g Q .ret ((2,t133)::E) D H) /\
 (∀ Q E D H,W M c (xh 19) true Q E D H =
  Lz E 35 fun g t35=>Ly g E 34 fun g t34=>Cb g .lss t35 t34 (fun g=>Gt g M c (xh 25) Q E D H) (fun g=>GO3 g (SEQ3 (W M c (xh 25)) Q) (.exit 0) E D H)) /\
 (∀ Q E D H,W M c (xh 25) true Q E D H =
  Lz E 35 fun g t35=>Ly g E 33 fun g t33=>B3 g ((Op.indexSl 3) [t33,t35]) fun g t38=>B3 g ((Op.loadN 3) [t38] H) fun g t39=>A3 g qo [(.int .i64 0),(.int .u64 0),.nils] H fun g t6 H1=>B32 g ((Op.store 3) [t6,t39] H1) fun g u H2=>B3 g ((Op.loadN 3) [t6] H2) fun g t41=>C3 M g (.func qew) [t41] H2 fun g t42 H3=>B3 g ((Op.extract 0) [t42]) fun g t43=>B3 g ((Op.extract 1) [t42]) fun g t44=>W M c (xh 31) g (BLK3 1 (SEQ3 (W M c (xh 81)) Q)) ((8,t44)::(7,t43)::(5,t35)::(6,t6)::E) D H3) /\
 (∀ Q E D H,W M c (xh 81) true Q E D H =
  Lz E 35 fun g t35=>Bn g .add t35 (.int .i64 1) fun g t130=>GO3 g Q .normal ((35,t130)::E) D H) /\
 (∀ Q E D H,W M c (xh 31) true Q E D H =
  Lz E 8 fun g t8=>B3 g ((Op.un .not) [t8]) fun g t46=>JN (fun (k:Bool->AV->AV->AV->AV->AV->AV->AHeap->Prop)=>B3 g (wantV false (some t46)) fun g w=>IG3 g w (fun g=>Ly g E 7 fun g t7=>B3 g (Op.lenSl [t7]) fun g t49=>Ly g E 6 fun g t6=>B3 g ((Op.fieldAddr 2) [t6]) fun g t50=>B3 g (Op.load1 [t50] H) fun g t51=>B3 g (Op.lenSl [t51]) fun g t52=>Bn g .neq t49 t52 fun g t53=>k g t53 t52 t51 t50 t49 t7 H) (fun g=>k g uu uu uu uu uu uu H)) (fun g t53_1 t52_1 t51_1 t50_1 t49_1 t48_1 H1=>B3 g (Op.pick [t46,(.bool true),t53_1]) fun g t54=>JN (fun (k:Bool->AV->AV->AV->AV->AV->AHeap->Prop)=>B3 g (wantV false (some t54)) fun g w=>IG3 g w (fun g=>Ly g E 7 fun g t7_1=>B3 g (Op.lenSl [t7_1]) fun g t57=>Ly g E 3 fun g t3=>B3 g (Op.lenSl [t3]) fun g t59=>Bn g .gtr t57 t59 fun g t60=>k g t60 t59 t3 t57 t7_1 H1) (fun g=>k g uu uu uu uu uu H1)) (fun g t60_1 t59_1 t58_1 t57_1 t56_1 H2=>B3 g (Op.pick [t54,(.bool true),t60_1]) fun g t61=>IF3 g t61 (fun g=>GO3 g (SEQ3 (W M c (xh 39)) Q) .ret ((2,(.bool false))::E) D H2) (fun g=>Gt g M c (xh 39) Q E D H2)))) /\
 (∀ Q E D H,W M c (xh 39) true Q E D H =
  Lz E 3 fun g t3=>B3 g (Op.lenSl [t3]) fun g t64=>Ly g E 7 fun g t7=>B3 g (Op.lenSl [t7]) fun g t66=>Bn g .sub t64 t66 fun g t67=>B3 g ((Op.sliceSl 1 [(some 0),none,none]) [t3,t67]) fun g t68=>W M c (xh 41) g Q ((9,t68)::E) D H) /\
 (∀ Q E D H,W M c (xh 41) true Q E D H =
  Lz E 6 fun g t6=>Fl g 2 t6 H fun g t70=>B3 g (Op.lenSl [t70]) fun g t71=>LOOP3 (W M c (xh 46)) (BLK3 2 (SEQ3 (W M c (xh 66)) Q)) ((72,(.int .i64 0))::(71,t71)::(70,t70)::E) D H) /\
 (∀ Q E D H,W M c (xh 66) true Q E D H =
  Lz E 6 fun g t6=>Fl g 0 t6 H fun g t111=>Cb g .eql t111 (.int .i64 18) (fun g=>W M c (xh 70) g (SEQ3 (W M c (xh 80)) Q) E D H) (fun g=>Gt g M c (xh 80) Q E D H)) /\
 (∀ Q E D H,W M c (xh 46) true Q E D H =
  Lz E 72 fun g t72=>Ly g E 71 fun g t71=>Cb g .lss t72 t71 (fun g=>Gt g M c (xh 52) Q E D H) (fun g=>GO3 g (SEQ3 (W M c (xh 52)) Q) (.exit 2) E D H)) /\
 (∀ Q E D H,W M c (xh 80) true Q E D H =
  Lz E 3 fun g t3=>B3 g (Op.lenSl [t3]) fun g t122=>Ly g E 7 fun g t7=>B3 g (Op.lenSl [t7]) fun g t124=>Bn g .sub t122 t124 fun g t125=>B3 g ((Op.sliceSl 1 [none,(some 0),none]) [t3,t125]) fun g t126=>Ly g E 5 fun g t5=>B32 g ((Op.buildSlice T_int 1 [(.int .i64 0)] [(0,1)]) [t5]) fun g o1 k1=>B32 g ((Op.append T_int 1 8) [t126,(k1 H.next)] (H.alloc o1)) fun g t129 H2=>GO3 g Q .normal ((3,t129)::E) D H2) /\
 (∀ Q E D H,W M c (xh 70) true Q E D H =
  Lz E 4 fun g t4=>Ly g E 5 fun g t5=>Xl g t4 t5 H fun g t116=>IF3 g t116 (fun g=>GO3 g (SEQ3 (W M c (xh 78)) Q) .ret ((2,(.bool false))::E) D H) (fun g=>Gt g M c (xh 78) Q E D H)) /\
 (∀ Q E D H,W M c (xh 52) true Q E D H =
  Lz E 72 fun g t72=>Ly g E 70 fun g t70=>Xl g t70 t72 H fun g t76=>W M c (xh 56) g (BLK3 3 (SEQ3 (W M c (xh 65)) Q)) ((11,t76)::(10,t72)::E) D H) /\
 (∀ Q E D H,W M c (xh 78) true Q E D H =
  Lz E 4 fun g t4=>Ly g E 5 fun g t5=>Xs g t4 t5 (.bool true) H fun g u H1=>GO3 g Q .normal E D H1) /\
 (∀ Q E D H,W M c (xh 65) true Q E D H =
  Lz E 72 fun g t72=>Bn g .add t72 (.int .i64 1) fun g t109=>GO3 g Q .normal ((72,t109)::E) D H) /\
 (∀ Q E D H,W M c (xh 56) true Q E D H =
  Lz E 9 fun g t9=>Ly g E 10 fun g t10=>Xl g t9 t10 H fun g t80=>Ly g E 11 fun g t11=>Bn g .neq t80 t11 fun g t82=>JN (fun (k:Bool->AV->AV->AV->AV->AV->AV->AV->AV->AV->AV->AV->AHeap->Prop)=>B3 g (wantV false (some t82)) fun g w=>IG3 g w (fun g=>Ly g E 0 fun g t0=>B3 g ((Op.indexSl 3) [t0,t11]) fun g t86=>B3 g ((Op.fieldAddr 0) [t86]) fun g t87=>B3 g (Op.load1 [t87] H) fun g t88=>Ly g E 7 fun g t7=>B3 g ((Op.indexSl 1) [t7,t10]) fun g t92=>B3 g (Op.load1 [t92] H) fun g t93=>C3 M g (.func qev) [t88] H fun g t89 H1=>CK3 g (Op.load1 [t92] H1) (some t93) fun g=>Bn g .neq t89 t93 fun g t94=>k g t94 t89 t93 t92 t10 t7 t88 t87 t86 t11 t0 H1) (fun g=>k g uu uu uu uu uu uu uu uu uu uu uu H)) (fun g t94_1 t89_1 t93_1 t92_1 t91_1 t90_1 t88_1 t87_1 t86_1 t85_1 t84_1 H2=>B3 g (Op.pick [t82,(.bool true),t94_1]) fun g t95=>IF3 g t95 (fun g=>GO3 g (SEQ3 (W M c (xh 64)) Q) .ret ((2,(.bool false))::E) D H2) (fun g=>Gt g M c (xh 64) Q E D H2))) /\
 (∀ Q E D H,W M c (xh 64) true Q E D H =
  Lz E 4 fun g t4=>Ly g E 5 fun g t5=>Xl g t4 t5 H fun g t101=>JN (fun (k:Bool->AV->AV->AV->AV->AHeap->Prop)=>B3 g (wantV false (some t101)) fun g w=>IG3 g w (fun g=>Ly g E 11 fun g t11=>B3 g ((Op.indexSl 1) [t4,t11]) fun g t105=>B3 g (Op.load1 [t105] H) fun g t106=>k g t106 t105 t11 t4 H) (fun g=>k g uu uu uu uu H)) (fun g t106_1 t105_1 t104_1 t103_1 H1=>B3 g (Op.pick [t101,(.bool true),t106_1]) fun g t107=>Xs g t4 t5 t107 H1 fun g u H2=>GO3 g Q .normal E D H2)):=by (repeat' apply And.intro)<;>(intro _ _ _ _;refine W_unf ?_;kernel_rfl)
theorem q1o:(cProg Tryd.prog).func qa3=some qny/\qny.results=[.tmp 2]:=xv (by kernel_rfl)
theorem q1p (h:W M ⟨none,qa3⟩ (xh 0) true (FIN3 M [.tmp 2] Q) [(0,a0)] [] H):vt M qa3 [a0] H Q:=callf (by decide) q1o (ks:=qs1) (by kernel_rfl) h
def qfd:AFunc:=funcAt Tryd.prog qac
def qh5:Kp:=⟨[0,1,2,7,15,16,17],false,[0,4,10,19]⟩
def yr (k:Nat):Kp × ACode:=(qh5,part qfd.body k)
theorem qa6 (M:Mac) (c:Ctx):(∀ Q E D H,W M c (yr 0) true Q E D H =
 Lz E 0 fun g t0=>Nf g 2 t0 H fun g t11=>Ly g E 1 fun g t1=>B3 g ((Op.indexSl 3) [t11,t1]) fun g t13=>Fl g 2 t13 H fun g t15=>B3 g (Op.lenSl [t15]) fun g t16=>LOOP3 (W M c (yr 4)) (BLK3 0 Q) ((17,(.int .i64 0))::(16,t16)::(15,t15)::E) D H) /\
 (∀ Q E D H,W M c (yr 4) true Q E D H =
  Lz E 17 fun g t17=>Ly g E 16 fun g t16=>Cb g .lss t17 t16 (fun g=>Gt g M c (yr 10) Q E D H) (fun g=>GO3 g (SEQ3 (W M c (yr 10)) Q) (.exit 0) E D H)) /\
 (∀ Q E D H,W M c (yr 10) true Q E D H =
  Lz E 15 fun g t15=>Ly g E 17 fun g t17=>Xl g t15 t17 H fun g t20=>Ly g E 0 fun g t0=>Ly g E 2 fun g t2=>C3 M g (.func qai) [(.str [32,32]),t2] H fun g t23 H1=>C3 M g (.func qv) [t0,t23] H1 fun g t24 H2=>Ly g E 0 fun g t0_1=>Ly g E 2 fun g t2_1=>C3 M g (.func zt) [t0_1,t20,t2_1] H2 fun g t28 H3=>Ly g E 0 fun g t0_2=>C3 M g (.func qv) [t0_2,(.str [10])] H3 fun g t30 H4=>GO3 g (BLK3 1 (SEQ3 (W M c (yr 19)) Q)) .normal ((7,t20)::E) D H4) /\
 (∀ Q E D H,W M c (yr 19) true Q E D H =
  Lz E 17 fun g t17=>Bn g .add t17 (.int .i64 1) fun g t31=>GO3 g Q .normal ((17,t31)::E) D H):=by (repeat' apply And.intro)<;>(intro _ _ _ _;refine W_unf ?_;kernel_rfl)
theorem qm0:(cProg Tryd.prog).func qac=some qfd/\qfd.results=[]:=xv (by kernel_rfl)
theorem qm1 (h:W M ⟨none,qac⟩ (yr 0) true (FIN3 M [] Q) [(0,a0),(1,a1),(2,a2)] [] H):vt M qac [a0,a1,a2] H Q:=callf (by decide) qm0 (ks:=qh5) (by kernel_rfl) h
def qkc:AFunc:=funcAt Tryd.prog qew
def qo0:Kp:=⟨[0,1,2,3,4,33,43,51,75],false,[0,4,12,24,28,34,38,44,54,60,70,77]⟩
def xy (k:Nat):Kp × ACode:=(qo0,part qkc.body k)
theorem j9 (M:Mac) (c:Ctx):(∀ Q E D H,W M c (xy 0) true Q E D H =
 Lz E 0 fun g t0=>A3 g qo (AV.cells t0) H fun g t1 H1=>Fl g 0 t1 H1 fun g t6=>Bn g .eql t6 (.int .i64 2) fun g t7=>JN (fun (k:Bool->AV->AV->AV->AHeap->Prop)=>B3 g (wantV false (some t7)) fun g w=>IG3 g w (fun g=>B3 g ((Op.fieldAddr 0) [t1]) fun g t9=>B3 g (Op.load1 [t9] H1) fun g t10=>Bn g .eql t10 (.int .i64 14) fun g t11=>k g t11 t10 t9 H1) (fun g=>k g uu uu uu H1)) (fun g t11_1 t10_1 t9_1 H2=>B3 g (Op.pick [t7,(.bool true),t11_1]) fun g t12=>W M c (xy 4) g Q ((4,t12)::(3,(.bool false))::(2,.nils)::(1,t1)::E) D H2)) /\
 (∀ Q E D H,W M c (xy 4) true Q E D H =
  Lz E 4 fun g t4=>JN (fun (k:Bool->AV->AV->AV->AHeap->Prop)=>B3 g (wantV true (some t4)) fun g w=>IG3 g w (fun g=>Ly g E 1 fun g t1=>B3 g ((Op.fieldAddr 1) [t1]) fun g t15=>B3 g (Op.load1 [t15] H) fun g t16=>Bn g .gtr t16 (.int .u64 7) fun g t17=>k g t17 t16 t15 H) (fun g=>k g uu uu uu H)) (fun g t17_1 t16_1 t15_1 H1=>B3 g (Op.pick [t4,t17_1,(.bool false)]) fun g t18=>JN (fun (k:Bool->AV->AV->AV->AHeap->Prop)=>B3 g (wantV false (some t18)) fun g w=>IG3 g w (fun g=>B3 g ((Op.un .not) [t4]) fun g t21=>k g t21 t21 t4 H1) (fun g=>k g uu uu uu H1)) (fun g t22_1 t21_1 t20_1 H2=>JN (fun (k:Bool->AV->AV->AV->AHeap->Prop)=>B3 g (wantV true (some t22_1)) fun g w=>IG3 g w (fun g=>Ly g E 1 fun g t1_1=>B3 g ((Op.fieldAddr 0) [t1_1]) fun g t23=>B3 g (Op.load1 [t23] H2) fun g t24=>Bn g .neq t24 (.int .i64 1) fun g t25=>k g t25 t24 t23 H2) (fun g=>k g uu uu uu H2)) (fun g t25_1 t24_1 t23_1 H3=>JN (fun (k:Bool->AV->AV->AHeap->Prop)=>B3 g (wantV false (some t18)) fun g w=>IG3 g w (fun g=>B3 g (Op.pick [t22_1,t25_1,(.bool false)]) fun g t26=>k g t26 t26 H3) (fun g=>k g uu uu H3)) (fun g t27_1 t26_1 H4=>JN (fun (k:Bool->AV->AV->AV->AHeap->Prop)=>B3 g (wantV true (some t27_1)) fun g w=>IG3 g w (fun g=>Ly g E 1 fun g t1_2=>B3 g ((Op.fieldAddr 1) [t1_2]) fun g t28=>B3 g (Op.load1 [t28] H4) fun g t29=>Bn g .neq t29 (.int .u64 0) fun g t30=>k g t30 t29 t28 H4) (fun g=>k g uu uu uu H4)) (fun g t30_1 t29_1 t28_1 H5=>JN (fun (k:Bool->AV->AHeap->Prop)=>B3 g (wantV false (some t18)) fun g w=>IG3 g w (fun g=>B3 g (Op.pick [t27_1,t30_1,(.bool false)]) fun g t31=>k g t31 H5) (fun g=>k g uu H5)) (fun g t31_1 H6=>B3 g (Op.pick [t18,(.bool true),t31_1]) fun g t32=>IF3 g t32 (fun g=>GO3 g (SEQ3 (W M c (xy 12)) Q) .ret ((3,(.bool false))::(2,.nils)::E) D H6) (fun g=>Gt g M c (xy 12) Q E D H6)))))))) /\
 (∀ Q E D H,W M c (xy 12) true Q E D H =
  Lz E 1 fun g t1=>Fl g 0 t1 H fun g t35=>Bn g .eql t35 (.int .i64 1) fun g t36=>IF3 g t36 (fun g=>Gt g M c (xy 24) (BLK3 0 (SEQ3 (W M c (xy 77)) Q)) ((33,t36)::E) D H) (fun g=>Ly g E 1 fun g t1_1=>Fl g 0 t1_1 H fun g t38=>Bn g .eql t38 (.int .i64 2) fun g t39=>IF3 g t39 (fun g=>Gt g M c (xy 24) (BLK3 0 (SEQ3 (W M c (xy 77)) Q)) ((33,t39)::(33,t36)::E) D H) (fun g=>Ly g E 1 fun g t1_2=>Fl g 0 t1_2 H fun g t41=>Bn g .eql t41 (.int .i64 19) fun g t42=>Gt g M c (xy 24) (BLK3 0 (SEQ3 (W M c (xy 77)) Q)) ((33,t42)::(33,t39)::(33,t36)::E) D H))) /\
 (∀ Q E D H,W M c (xy 77) true Q E D H =
  GO3 true Q .ret ((3,(.bool false))::(2,.nils)::E) D H) /\
 (∀ Q E D H,W M c (xy 24) true Q E D H =
  Lz E 33 fun g t33=>IF3 g t33 (fun g=>GO3 g Q .ret ((3,(.bool true))::(2,.nils)::E) D H) (fun g=>W M c (xy 28) g Q E D H)) /\
 (∀ Q E D H,W M c (xy 28) true Q E D H =
  Lz E 1 fun g t1=>Fl g 0 t1 H fun g t45=>Bn g .eql t45 (.int .i64 3) fun g t46=>IF3 g t46 (fun g=>Gt g M c (xy 34) Q ((43,t46)::E) D H) (fun g=>Ly g E 1 fun g t1_1=>Fl g 0 t1_1 H fun g t48=>Bn g .eql t48 (.int .i64 14) fun g t49=>Gt g M c (xy 34) Q ((43,t49)::(43,t46)::E) D H)) /\
 (∀ Q E D H,W M c (xy 34) true Q E D H =
  Lz E 43 fun g t43=>IF3 g t43 (fun g=>B32 g ((Op.buildSlice T_int 1 [(.int .i64 0)] [(0,1)]) [(.int .i64 1)]) fun g o1 k1=>GO3 g Q .ret ((3,(.bool true))::(2,(k1 H.next))::E) D (H.alloc o1)) (fun g=>W M c (xy 38) g Q E D H)) /\
 (∀ Q E D H,W M c (xy 38) true Q E D H =
  Lz E 1 fun g t1=>Fl g 0 t1 H fun g t53=>Bn g .geq t53 (.int .i64 4) fun g t54=>JN (fun (k:Bool->AV->AV->AV->AHeap->Prop)=>B3 g (wantV true (some t54)) fun g w=>IG3 g w (fun g=>B3 g ((Op.fieldAddr 0) [t1]) fun g t56=>B3 g (Op.load1 [t56] H) fun g t57=>Bn g .leq t57 (.int .i64 13) fun g t58=>k g t58 t57 t56 H) (fun g=>k g uu uu uu H)) (fun g t58_1 t57_1 t56_1 H1=>B3 g (Op.pick [t54,t58_1,(.bool false)]) fun g t59=>IF3 g t59 (fun g=>Gt g M c (xy 44) Q ((51,t59)::E) D H1) (fun g=>Ly g E 1 fun g t1_1=>Fl g 0 t1_1 H1 fun g t61=>Bn g .eql t61 (.int .i64 15) fun g t62=>Gt g M c (xy 44) Q ((51,t62)::(51,t59)::E) D H1))) /\
 (∀ Q E D H,W M c (xy 44) true Q E D H =
  Lz E 51 fun g t51=>IF3 g t51 (fun g=>B32 g ((Op.buildSlice T_int 2 [(.int .i64 0)] [(0,1),(1,1)]) [(.int .i64 1),(.int .i64 1)]) fun g o1 k1=>GO3 g Q .ret ((3,(.bool true))::(2,(k1 H.next))::E) D (H.alloc o1)) (fun g=>Ly g E 1 fun g t1=>Fl g 0 t1 H fun g t66=>Bn g .eql t66 (.int .i64 16) fun g t67=>JN (fun (k:Bool->AV->AV->AV->AV->AHeap->Prop)=>B3 g (wantV true (some t67)) fun g w=>IG3 g w (fun g=>B3 g ((Op.fieldAddr 2) [t1]) fun g t69=>B3 g (Op.load1 [t69] H) fun g t70=>B3 g (Op.lenSl [t70]) fun g t71=>Bn g .eql t71 (.int .i64 3) fun g t72=>k g t72 t71 t70 t69 H) (fun g=>k g uu uu uu uu H)) (fun g t72_1 t71_1 t70_1 t69_1 H1=>B3 g (Op.pick [t67,t72_1,(.bool false)]) fun g t73=>IF3 g t73 (fun g=>B32 g ((Op.buildSlice T_int 3 [(.int .i64 0)] [(0,1),(1,1),(2,1)]) [(.int .i64 2),(.int .i64 4),(.int .i64 4)]) fun g o2 k2=>GO3 g Q .ret ((3,(.bool true))::(2,(k2 H1.next))::E) D (H1.alloc o2)) (fun g=>W M c (xy 54) g Q E D H1)))) /\
 (∀ Q E D H,W M c (xy 54) true Q E D H =
  Lz E 1 fun g t1=>Fl g 0 t1 H fun g t77=>Bn g .eql t77 (.int .i64 16) fun g t78=>IF3 g t78 (fun g=>Gt g M c (xy 60) Q ((75,t78)::E) D H) (fun g=>Ly g E 1 fun g t1_1=>Fl g 0 t1_1 H fun g t80=>Bn g .eql t80 (.int .i64 17) fun g t81=>Gt g M c (xy 60) Q ((75,t81)::(75,t78)::E) D H)) /\
 (∀ Q E D H,W M c (xy 60) true Q E D H =
  Lz E 75 fun g t75=>IF3 g t75 (fun g=>B32 g ((Op.buildSlice T_int 2 [(.int .i64 0)] [(0,1),(1,1)]) [(.int .i64 2),(.int .i64 4)]) fun g o1 k1=>GO3 g Q .ret ((3,(.bool true))::(2,(k1 H.next))::E) D (H.alloc o1)) (fun g=>Ly g E 1 fun g t1=>Fl g 0 t1 H fun g t85=>Cb g .eql t85 (.int .i64 18) (fun g=>B32 g ((Op.buildSlice T_int 1 [(.int .i64 0)] [(0,1)]) [(.int .i64 4)]) fun g o1 k1=>GO3 g Q .ret ((3,(.bool true))::(2,(k1 H.next))::E) D (H.alloc o1)) (fun g=>W M c (xy 70) g Q E D H))) /\
 (∀ Q E D H,W M c (xy 70) true Q E D H =
  Lz E 1 fun g t1=>Fl g 0 t1 H fun g t90=>Cb g .eql t90 (.int .i64 20) (fun g=>B32 g ((Op.buildSlice T_int 1 [(.int .i64 0)] [(0,1)]) [(.int .i64 3)]) fun g o1 k1=>Ly g E 1 fun g t1_1=>Fl g 2 t1_1 (H.alloc o1) fun g t94=>B3 g (Op.lenSl [t94]) fun g t95=>C3 M g (.func wc) [(k1 H.next),t95] (H.alloc o1) fun g t96 H2=>GO3 g Q .ret ((3,(.bool true))::(2,t96)::E) D H2) (fun g=>GO3 g Q .normal E D H)):=by (repeat' apply And.intro)<;>(intro _ _ _ _;refine W_unf ?_;kernel_rfl)
theorem qwe:(cProg Tryd.prog).func qew=some qkc/\qkc.results=[.tmp 2,.tmp 3]:=xv (by kernel_rfl)
theorem qwf (h:W M ⟨none,qew⟩ (xy 0) true (FIN3 M [.tmp 2,.tmp 3] Q) [(0,a0)] [] H):vt M qew [a0] H Q:=callf (by decide) qwe (ks:=qo0) (by kernel_rfl) h
def qkb:AFunc:=funcAt Tryd.prog qev
def qoz:Kp:=⟨[0,2],false,[0,2,16,29]⟩
def qbp (k:Nat):Kp × ACode:=(qoz,part qkb.body k)
theorem qe0 (M:Mac) (c:Ctx):(∀ Q E D H,W M c (qbp 0) true Q E D H =
 W M c (qbp 2) true Q ((2,(.int .i64 0))::E) D H) /\
 (∀ Q E D H,W M c (qbp 2) true Q E D H =
  Lz E 0 fun g t0=>Bn g .geq t0 (.int .i64 1) fun g t5=>JN (fun (k:Bool->AV->AV->AHeap->Prop)=>B3 g (wantV true (some t5)) fun g w=>IG3 g w (fun g=>Bn g .leq t0 (.int .i64 10) fun g t8=>k g t8 t0 H) (fun g=>k g uu uu H)) (fun g t8_1 t7_1 H1=>B3 g (Op.pick [t5,t8_1,(.bool false)]) fun g t9=>IF3 g t9 (fun g=>GO3 g (BLK3 0 (SEQ3 (W M c (qbp 29)) Q)) .ret ((2,(.int .i64 1))::E) D H1) (fun g=>Ly g E 0 fun g t0_1=>Bn g .geq t0_1 (.int .i64 11) fun g t12=>JN (fun (k:Bool->AV->AV->AHeap->Prop)=>B3 g (wantV true (some t12)) fun g w=>IG3 g w (fun g=>Bn g .leq t0_1 (.int .i64 13) fun g t15=>k g t15 t0_1 H1) (fun g=>k g uu uu H1)) (fun g t15_1 t14_1 H2=>B3 g (Op.pick [t12,t15_1,(.bool false)]) fun g t16=>IF3 g t16 (fun g=>GO3 g (BLK3 0 (SEQ3 (W M c (qbp 29)) Q)) .ret ((2,(.int .i64 2))::E) D H2) (fun g=>W M c (qbp 16) g (BLK3 0 (SEQ3 (W M c (qbp 29)) Q)) E D H2))))) /\
 (∀ Q E D H,W M c (qbp 29) true Q E D H =
  GO3 true Q .ret ((2,(.int .i64 0))::E) D H) /\
 (∀ Q E D H,W M c (qbp 16) true Q E D H =
  Lz E 0 fun g t0=>Bn g .geq t0 (.int .i64 14) fun g t19=>JN (fun (k:Bool->AV->AV->AHeap->Prop)=>B3 g (wantV true (some t19)) fun g w=>IG3 g w (fun g=>Bn g .leq t0 (.int .i64 19) fun g t22=>k g t22 t0 H) (fun g=>k g uu uu H)) (fun g t22_1 t21_1 H1=>B3 g (Op.pick [t19,t22_1,(.bool false)]) fun g t23=>IF3 g t23 (fun g=>GO3 g Q .ret ((2,(.int .i64 3))::E) D H1) (fun g=>Ly g E 0 fun g t0_1=>Cb g .eql t0_1 (.int .i64 20) (fun g=>GO3 g Q .ret ((2,(.int .i64 4))::E) D H1) (fun g=>GO3 g Q .normal E D H1)))):=by (repeat' apply And.intro)<;>(intro _ _ _ _;refine W_unf ?_;kernel_rfl)
theorem qwc:(cProg Tryd.prog).func qev=some qkb/\qkb.results=[.tmp 2]:=xv (by kernel_rfl)
theorem qwd (h:W M ⟨none,qev⟩ (qbp 0) true (FIN3 M [.tmp 2] Q) [(0,a0)] [] H):vt M qev [a0] H Q:=callf (by decide) qwc (ks:=qoz) (by kernel_rfl) h
def qff:AFunc:=funcAt Tryd.prog qv
def qh6:Kp:=⟨[0,1,5,7,8,11,12,34],false,[0,5,11,18,23,27,33,36]⟩
def xw (k:Nat):Kp × ACode:=(qh6,part qff.body k)
theorem qh7 (M:Mac) (c:Ctx):(∀ Q E D H,W M c (xw 0) true Q E D H =
 Lz E 1 fun g t1=>B32 g (Op.rangeStr [t1]) fun g o1 k1=>LOOP3 (W M c (xw 5)) (BLK3 0 (SEQ3 (W M c (xw 36)) Q)) ((7,(k1 H.next))::E) D (H.alloc o1)) /\
 (∀ Q E D H,W M c (xw 36) true Q E D H =
  Lz E 0 fun g t0=>B3 g (Op.nilCheck [t0]) fun g t45=>B3 g ((Op.fieldAddr 0) [t45]) fun g t46=>Ly g E 1 fun g t1=>C3 M g (.func z0) [t46,t1] H fun g t48 H1=>GO3 g Q .normal E D H1) /\
 (∀ Q E D H,W M c (xw 5) true Q E D H =
  Lz E 7 fun g t7=>B32 g (Op.nextStr [t7] H) fun g t8 H1=>B3 g ((Op.extract 0) [t8]) fun g t9=>IF3 g t9 (fun g=>Gt g M c (xw 11) Q ((8,t8)::E) D H1) (fun g=>GO3 g (SEQ3 (W M c (xw 11)) Q) (.exit 0) ((8,t8)::E) D H1)) /\
 (∀ Q E D H,W M c (xw 11) true Q E D H =
  Lz E 8 fun g t8=>B3 g ((Op.extract 2) [t8]) fun g t10=>W M c (xw 18) g (SEQ3 (W M c (xw 23)) (BLK3 2 (BLK3 1 Q))) ((11,t10)::(5,t10)::E) D H) /\
 (∀ Q E D H,W M c (xw 23) true Q E D H =
  Lz E 12 fun g t12=>IF3 g t12 (fun g=>Ly g E 0 fun g t0=>Nf g 3 t0 H fun g t18=>Bn g .add t18 (.int .i64 1) fun g t19=>Ns g 3 t0 t19 H fun g u H1=>Ly g E 0 fun g t0_1=>Nf g 4 t0_1 H1 fun g t26=>Nf g 3 t0_1 H1 fun g t30=>B3 g ((Op.minmax true) [t26,t30]) fun g t31=>Ns g 4 t0_1 t31 H1 fun g u_1 H2=>GO3 g Q .normal E D H2) (fun g=>W M c (xw 27) g Q E D H)) /\
 (∀ Q E D H,W M c (xw 18) true Q E D H =
  Lz E 11 fun g t11=>Bn g .eql t11 (.int .i32 40) fun g t13=>IF3 g t13 (fun g=>GO3 g Q .normal ((12,t13)::E) D H) (fun g=>Ly g E 11 fun g t11_1=>Bn g .eql t11_1 (.int .i32 123) fun g t14=>GO3 g Q .normal ((12,t14)::(12,t13)::E) D H)) /\
 (∀ Q E D H,W M c (xw 27) true Q E D H =
  Lz E 11 fun g t11=>Bn g .eql t11 (.int .i32 41) fun g t35=>IF3 g t35 (fun g=>Gt g M c (xw 33) Q ((34,t35)::E) D H) (fun g=>Ly g E 11 fun g t11_1=>Bn g .eql t11_1 (.int .i32 125) fun g t36=>Gt g M c (xw 33) Q ((34,t36)::(34,t35)::E) D H)) /\
 (∀ Q E D H,W M c (xw 33) true Q E D H =
  Lz E 34 fun g t34=>IF3 g t34 (fun g=>Ly g E 0 fun g t0=>Nf g 3 t0 H fun g t40=>Bn g .sub t40 (.int .i64 1) fun g t41=>Ns g 3 t0 t41 H fun g u H1=>GO3 g Q .normal E D H1) (fun g=>GO3 g Q .normal E D H)):=by (repeat' apply And.intro)<;>(intro _ _ _ _;refine W_unf ?_;kernel_rfl)
theorem qm2:(cProg Tryd.prog).func qv=some qff/\qff.results=[]:=xv (by kernel_rfl)
theorem qm3 (h:W M ⟨none,qv⟩ (xw 0) true (FIN3 M [] Q) [(0,a0),(1,a1)] [] H):vt M qv [a0,a1] H Q:=callf (by decide) qm2 (ks:=qh6) (by kernel_rfl) h
def qgo:AFunc:=funcAt Tryd.prog qai
def qjv:Kp:=⟨[0,1,4,5,6,7,8,9,10,11,42,43],false,[0,2,19,25,27,33,35,43,52,60,65,79,91,99,101,107,113,117,119,122,128,132]⟩
def qn (k:Nat):Kp × ACode:=(qjv,part qgo.body k)
theorem qpr (M:Mac) (c:Ctx):(∀ Q E D H,W M c (qn 0) true Q E D H =
 W M c (qn 2) true Q ((4,(.str []))::E) D H) /\
 (∀ Q E D H,W M c (qn 2) true Q E D H =
  Lz E 1 fun g t1=>Cb g .eql t1 (.int .i64 0) (fun g=>GO3 g (BLK3 0 (SEQ3 (W M c (qn 19)) Q)) .ret ((4,(.str []))::(11,t1)::E) D H) (fun g=>Cb g .eql t1 (.int .i64 1) (fun g=>Ly g E 0 fun g t0=>GO3 g (BLK3 0 (SEQ3 (W M c (qn 19)) Q)) .ret ((4,t0)::(11,t1)::E) D H) (fun g=>GO3 g (BLK3 0 (SEQ3 (W M c (qn 19)) Q)) .normal ((11,t1)::E) D H))) /\
 (∀ Q E D H,W M c (qn 19) true Q E D H =
  Lz E 1 fun g t1=>Cb g .lss t1 (.int .i64 0) (fun g=>B3 g ((Op.mkIface yv) [(.str q0r)]) fun g t19=>False) (fun g=>Gt g M c (qn 25) Q E D H)) /\
 (∀ Q E D H,W M c (qn 25) true Q E D H =
  Lz E 0 fun g t0=>B3 g (Op.lenStr [t0]) fun g t22=>B3 g ((Op.wrap .u64) [t22]) fun g t23=>Ly g E 1 fun g t1=>B3 g ((Op.wrap .u64) [t1]) fun g t25=>C3 M g (.func qbu) [t23,t25] H fun g t26 H1=>B3 g ((Op.extract 0) [t26]) fun g t27=>B3 g ((Op.extract 1) [t26]) fun g t28=>W M c (qn 27) g Q ((6,t28)::(5,t27)::E) D H1) /\
 (∀ Q E D H,W M c (qn 27) true Q E D H =
  Lz E 5 fun g t5=>Bn g .gtr t5 (.int .u64 0) fun g t30=>JN (fun (k:Bool->AV->AV->AHeap->Prop)=>B3 g (wantV false (some t30)) fun g w=>IG3 g w (fun g=>Ly g E 6 fun g t6=>Bn g .gtr t6 (.int .u64 9223372036854775807) fun g t33=>k g t33 t6 H) (fun g=>k g uu uu H)) (fun g t33_1 t32_1 H1=>B3 g (Op.pick [t30,(.bool true),t33_1]) fun g t34=>IF3 g t34 (fun g=>B3 g ((Op.mkIface yv) [(.str q0s)]) fun g t35=>False) (fun g=>Gt g M c (qn 33) Q E D H1))) /\
 (∀ Q E D H,W M c (qn 33) true Q E D H =
  Lz E 6 fun g t6=>B3 g ((Op.wrap .i64) [t6]) fun g t37=>W M c (qn 35) g Q ((7,t37)::E) D H) /\
 (∀ Q E D H,W M c (qn 35) true Q E D H =
  Lz E 0 fun g t0=>B3 g (Op.lenStr [t0]) fun g t39=>Cb g .eql t39 (.int .i64 0) (fun g=>GO3 g (SEQ3 (W M c (qn 43)) Q) .ret ((4,(.str []))::E) D H) (fun g=>Gt g M c (qn 43) Q E D H)) /\
 (∀ Q E D H,W M c (qn 43) true Q E D H =
  Lz E 0 fun g t0=>B3 g (Op.indexStr [t0,(.int .i64 0)]) fun g t42=>Bn g .eql t42 (.int .u8 32) fun g t44=>IF3 g t44 (fun g=>Gt g M c (qn 65) (BLK3 1 (SEQ3 (W M c (qn 99)) Q)) ((43,t44)::(42,t42)::E) D H) (fun g=>W M c (qn 52) g (SEQ3 (W M c (qn 65)) (BLK3 1 (SEQ3 (W M c (qn 99)) Q))) ((43,t44)::(42,t42)::E) D H)) /\
 (∀ Q E D H,W M c (qn 99) true Q E D H =
  Lz E 7 fun g t7=>W M c (qn 101) g Q ((8,t7)::E) D H) /\
 (∀ Q E D H,W M c (qn 65) true Q E D H =
  Lz E 43 fun g t43=>IF3 g t43 (fun g=>Ly g E 7 fun g t7=>Bn g .leq t7 (.int .i64 128) fun g t51=>JN (fun (k:Bool->AV->AV->AHeap->Prop)=>B3 g (wantV true (some t51)) fun g w=>IG3 g w (fun g=>Ly g E 0 fun g t0=>C3 M g (.func kg) [(.str qfr),t0] H fun g t54 H1=>k g t54 t0 H1) (fun g=>k g uu uu H)) (fun g t54_1 t53_1 H2=>B3 g (Op.pick [t51,t54_1,(.bool false)]) fun g t55=>IF3 g t55 (fun g=>Ly g E 7 fun g t7_1=>B3 g ((Op.sliceStr [none,(some 0)]) [(.str qfr),t7_1]) fun g t57=>GO3 g (BLK3 2 Q) .ret ((4,t57)::E) D H2) (fun g=>Ly g E 7 fun g t7_1=>Bn g .leq t7_1 (.int .i64 128) fun g t60=>JN (fun (k:Bool->AV->AV->AHeap->Prop)=>B3 g (wantV true (some t60)) fun g w=>IG3 g w (fun g=>Ly g E 0 fun g t0_1=>C3 M g (.func kg) [(.str qsq),t0_1] H2 fun g t63 H3=>k g t63 t0_1 H3) (fun g=>k g uu uu H2)) (fun g t63_1 t62_1 H4=>B3 g (Op.pick [t60,t63_1,(.bool false)]) fun g t64=>IF3 g t64 (fun g=>Ly g E 7 fun g t7_2=>B3 g ((Op.sliceStr [none,(some 0)]) [(.str qsq),t7_2]) fun g t66=>GO3 g (BLK3 2 Q) .ret ((4,t66)::E) D H4) (fun g=>W M c (qn 79) g (BLK3 2 Q) E D H4))))) (fun g=>GO3 g Q .normal E D H)) /\
 (∀ Q E D H,W M c (qn 52) true Q E D H =
  Lz E 42 fun g t42=>Bn g .eql t42 (.int .u8 45) fun g t45=>IF3 g t45 (fun g=>GO3 g Q .normal ((43,t45)::E) D H) (fun g=>Ly g E 42 fun g t42_1=>Bn g .eql t42_1 (.int .u8 48) fun g t46=>IF3 g t46 (fun g=>GO3 g Q .normal ((43,t46)::(43,t45)::E) D H) (fun g=>W M c (qn 60) g Q ((43,t46)::(43,t45)::E) D H))) /\
 (∀ Q E D H,W M c (qn 101) true Q E D H =
  Lz E 7 fun g t7=>Cb g .gtr t7 (.int .i64 8192) (fun g=>Ly g E 0 fun g t0=>B3 g (Op.lenStr [t0]) fun g t98=>Bn g .quo (.int .i64 8192) t98 fun g t99=>B3 g (Op.lenStr [t0]) fun g t101=>Bn g .mul t99 t101 fun g t102=>W M c (qn 107) g (SEQ3 (W M c (qn 113)) Q) ((8,t102)::E) D H) (fun g=>Gt g M c (qn 113) Q E D H)) /\
 (∀ Q E D H,W M c (qn 79) true Q E D H =
  Lz E 7 fun g t7=>Bn g .leq t7 (.int .i64 64) fun g t69=>JN (fun (k:Bool->AV->AV->AHeap->Prop)=>B3 g (wantV true (some t69)) fun g w=>IG3 g w (fun g=>Ly g E 0 fun g t0=>C3 M g (.func kg) [(.str qsr),t0] H fun g t72 H1=>k g t72 t0 H1) (fun g=>k g uu uu H)) (fun g t72_1 t71_1 H2=>B3 g (Op.pick [t69,t72_1,(.bool false)]) fun g t73=>IF3 g t73 (fun g=>Ly g E 7 fun g t7_1=>B3 g ((Op.sliceStr [none,(some 0)]) [(.str qsr),t7_1]) fun g t75=>GO3 g Q .ret ((4,t75)::E) D H2) (fun g=>Ly g E 7 fun g t7_1=>Bn g .leq t7_1 (.int .i64 128) fun g t78=>JN (fun (k:Bool->AV->AV->AHeap->Prop)=>B3 g (wantV true (some t78)) fun g w=>IG3 g w (fun g=>Ly g E 0 fun g t0_1=>C3 M g (.func kg) [(.str qss),t0_1] H2 fun g t81 H3=>k g t81 t0_1 H3) (fun g=>k g uu uu H2)) (fun g t81_1 t80_1 H4=>B3 g (Op.pick [t78,t81_1,(.bool false)]) fun g t82=>IF3 g t82 (fun g=>Ly g E 7 fun g t7_2=>B3 g ((Op.sliceStr [none,(some 0)]) [(.str qss),t7_2]) fun g t84=>GO3 g Q .ret ((4,t84)::E) D H4) (fun g=>W M c (qn 91) g Q E D H4))))) /\
 (∀ Q E D H,W M c (qn 60) true Q E D H =
  Lz E 42 fun g t42=>Bn g .eql t42 (.int .u8 61) fun g t47=>IF3 g t47 (fun g=>GO3 g Q .normal ((43,t47)::E) D H) (fun g=>Ly g E 42 fun g t42_1=>Bn g .eql t42_1 (.int .u8 9) fun g t48=>GO3 g Q .normal ((43,t48)::(43,t47)::E) D H)) /\
 (∀ Q E D H,W M c (qn 113) true Q E D H =
  A3 true qco [.nilp,.nils] H fun g t9 H1=>Ly g E 7 fun g t7=>C3 M g (.func vm) [t9,t7] H1 fun g t108 H2=>W M c (qn 117) g Q ((9,t9)::E) D H2) /\
 (∀ Q E D H,W M c (qn 107) true Q E D H =
  Lz E 8 fun g t8=>Cb g .eql t8 (.int .i64 0) (fun g=>Ly g E 0 fun g t0=>B3 g (Op.lenStr [t0]) fun g t106=>GO3 g Q .normal ((8,t106)::E) D H) (fun g=>GO3 g Q .normal E D H)) /\
 (∀ Q E D H,W M c (qn 91) true Q E D H =
  Lz E 7 fun g t7=>Bn g .leq t7 (.int .i64 64) fun g t87=>JN (fun (k:Bool->AV->AV->AHeap->Prop)=>B3 g (wantV true (some t87)) fun g w=>IG3 g w (fun g=>Ly g E 0 fun g t0=>C3 M g (.func kg) [(.str qst),t0] H fun g t90 H1=>k g t90 t0 H1) (fun g=>k g uu uu H)) (fun g t90_1 t89_1 H2=>B3 g (Op.pick [t87,t90_1,(.bool false)]) fun g t91=>IF3 g t91 (fun g=>Ly g E 7 fun g t7_1=>B3 g ((Op.sliceStr [none,(some 0)]) [(.str qst),t7_1]) fun g t93=>GO3 g Q .ret ((4,t93)::E) D H2) (fun g=>GO3 g Q .normal E D H2))) /\
 (∀ Q E D H,W M c (qn 117) true Q E D H =
  Lz E 0 fun g t0=>Ly g E 9 fun g t9=>C3 M g (.func z0) [t9,t0] H fun g t110 H1=>W M c (qn 119) g Q E D H1) /\
 (∀ Q E D H,W M c (qn 119) true Q E D H =
  LOOP3 (W M c (qn 122)) (BLK3 3 (SEQ3 (W M c (qn 132)) Q)) E D H) /\
 (∀ Q E D H,W M c (qn 132) true Q E D H =
  Lz E 9 fun g t9=>C3 M g (.func ju) [t9] H fun g t124 H1=>GO3 g Q .ret ((4,t124)::E) D H1) /\
 (∀ Q E D H,W M c (qn 122) true Q E D H =
  Lz E 9 fun g t9=>C3 M g (.func kx) [t9] H fun g t111 H1=>Ly g E 7 fun g t7=>Cb g .lss t111 t7 (fun g=>Gt g M c (qn 128) Q E D H1) (fun g=>GO3 g (SEQ3 (W M c (qn 128)) Q) (.exit 3) E D H1)) /\
 (∀ Q E D H,W M c (qn 128) true Q E D H =
  Lz E 7 fun g t7=>Ly g E 9 fun g t9=>C3 M g (.func kx) [t9] H fun g t115 H1=>Bn g .sub t7 t115 fun g t116=>C3 M g (.func kx) [t9] H1 fun g t117 H2=>Ly g E 8 fun g t8=>B3 g ((Op.minmax false) [t116,t117,t8]) fun g t119=>Ly g E 9 fun g t9_1=>C3 M g (.func ju) [t9_1] H2 fun g t120 H3=>B3 g ((Op.sliceStr [none,(some 0)]) [t120,t119]) fun g t122=>C3 M g (.func z0) [t9_1,t122] H3 fun g t123 H4=>GO3 g (BLK3 4 Q) .normal ((10,t119)::E) D H4):=by (repeat' apply And.intro)<;>(intro _ _ _ _;refine W_unf ?_;kernel_rfl)
theorem qpp:(cProg Tryd.prog).func qai=some qgo/\qgo.results=[.tmp 4]:=xv (by kernel_rfl)
theorem qpq (h:W M ⟨none,qai⟩ (qn 0) true (FIN3 M [.tmp 4] Q) [(0,a0),(1,a1)] [] H):vt M qai [a0,a1] H Q:=callf (by decide) qpp (ks:=qjv) (by kernel_rfl) h
def qc4:AFunc:=funcAt Tryd.prog zt
def qfe:Kp:=⟨[0,1,2,6,15,54],false,[0,13,25,31,34,38,53]⟩
def xp (k:Nat):Kp × ACode:=(qfe,part qc4.body k)
theorem xe (M:Mac) (c:Ctx):(∀ Q E D H,W M c (xp 0) true Q E D H =
 Lz E 0 fun g t0=>Nf g 2 t0 H fun g t10=>Ly g E 1 fun g t1=>B3 g ((Op.indexSl 3) [t10,t1]) fun g t12=>B3 g ((Op.loadN 3) [t12] H) fun g t13=>A3 g qo [(.int .i64 0),(.int .u64 0),.nils] H fun g t6 H1=>B32 g ((Op.store 3) [t6,t13] H1) fun g u H2=>Fl g 0 t6 H2 fun g t15=>Cb g .eql t15 (.int .i64 14) (fun g=>Ly g E 0 fun g t0_1=>Fl g 1 t6 H2 fun g t20=>Bn g .add (.int .u64 97) t20 fun g t21=>B3 g ((Op.wrap .i32) [t21]) fun g t22=>B3 g (Op.strOfInt [t22]) fun g t23=>Bn g .add t23 (.str [32,61,32]) fun g t24=>C3 M g (.func qv) [t0_1,t24] H2 fun g t25 H3=>Ly g E 0 fun g t0_2=>Fl g 2 t6 H3 fun g t28=>Xl g t28 (.int .i64 0) H3 fun g t30=>C3 M g (.func zr) [t0_2,t30,(.int .i64 0)] H3 fun g t31 H4=>Ly g E 0 fun g t0_3=>C3 M g (.func qv) [t0_3,(.str [59])] H4 fun g t33 H5=>GO3 g (BLK3 0 Q) .normal ((15,t15)::(6,t6)::E) D H5) (fun g=>W M c (xp 13) g (BLK3 0 Q) ((15,t15)::(6,t6)::E) D H2)) /\
 (∀ Q E D H,W M c (xp 13) true Q E D H =
  Lz E 15 fun g t15=>Cb g .eql t15 (.int .i64 15) (fun g=>Ly g E 0 fun g t0=>C3 M g (.func qv) [t0,(.str [115,116,111,114,101,40])] H fun g t37 H1=>Ly g E 0 fun g t0_1=>Ly g E 6 fun g t6=>Fl g 2 t6 H1 fun g t40=>Xl g t40 (.int .i64 0) H1 fun g t42=>C3 M g (.func zr) [t0_1,t42,(.int .i64 0)] H1 fun g t43 H2=>Ly g E 0 fun g t0_2=>C3 M g (.func qv) [t0_2,(.str [44,32])] H2 fun g t45 H3=>Ly g E 0 fun g t0_3=>Ly g E 6 fun g t6_1=>Fl g 2 t6_1 H3 fun g t48=>Xl g t48 (.int .i64 1) H3 fun g t50=>C3 M g (.func zr) [t0_3,t50,(.int .i64 0)] H3 fun g t51 H4=>Ly g E 0 fun g t0_4=>C3 M g (.func qv) [t0_4,(.str [41,59])] H4 fun g t53 H5=>GO3 g Q .normal E D H5) (fun g=>W M c (xp 25) g Q E D H)) /\
 (∀ Q E D H,W M c (xp 25) true Q E D H =
  Lz E 15 fun g t15=>Bn g .eql t15 (.int .i64 16) fun g t55=>IF3 g t55 (fun g=>Gt g M c (xp 31) Q ((54,t55)::E) D H) (fun g=>Ly g E 15 fun g t15_1=>Bn g .eql t15_1 (.int .i64 17) fun g t56=>Gt g M c (xp 31) Q ((54,t56)::(54,t55)::E) D H)) /\
 (∀ Q E D H,W M c (xp 31) true Q E D H =
  Lz E 54 fun g t54=>IF3 g t54 (fun g=>Ly g E 0 fun g t0=>B32 g ((Op.buildSlice yv 2 [(.str [])] [(0,1),(1,1)]) [(.str [105,102,32,40]),(.str [119,104,105,108,101,32,40])]) fun g o1 k1=>Ly g E 6 fun g t6=>Fl g 0 t6 (H.alloc o1) fun g t60=>Bn g .sub t60 (.int .i64 16) fun g t61=>Xl g (k1 H.next) t61 (H.alloc o1) fun g t63=>C3 M g (.func qv) [t0,t63] (H.alloc o1) fun g t64 H2=>W M c (xp 34) g Q E D H2) (fun g=>Ly g E 15 fun g t15=>Cb g .eql t15 (.int .i64 18) (fun g=>Ly g E 0 fun g t0=>C3 M g (.func qv) [t0,(.str [97,116,111,109,105,99,32])] H fun g t96 H1=>Ly g E 0 fun g t0_1=>Ly g E 6 fun g t6=>Fl g 2 t6 H1 fun g t99=>Xl g t99 (.int .i64 0) H1 fun g t101=>Ly g E 2 fun g t2=>C3 M g (.func ya) [t0_1,t101,t2] H1 fun g t103 H2=>GO3 g Q .normal E D H2) (fun g=>W M c (xp 53) g Q E D H))) /\
 (∀ Q E D H,W M c (xp 34) true Q E D H =
  Lz E 0 fun g t0=>Ly g E 6 fun g t6=>Fl g 2 t6 H fun g t67=>Xl g t67 (.int .i64 0) H fun g t69=>C3 M g (.func qa4) [t0,t69] H fun g t70 H1=>Ly g E 0 fun g t0_1=>C3 M g (.func qv) [t0_1,(.str [41,32])] H1 fun g t72 H2=>W M c (xp 38) g Q E D H2) /\
 (∀ Q E D H,W M c (xp 53) true Q E D H =
  Lz E 15 fun g t15=>Cb g .eql t15 (.int .i64 19) (fun g=>Ly g E 0 fun g t0=>C3 M g (.func qv) [t0,(.str [104,97,108,116,59])] H fun g t107 H1=>GO3 g Q .normal E D H1) (fun g=>GO3 g Q .normal E D H)) /\
 (∀ Q E D H,W M c (xp 38) true Q E D H =
  Lz E 0 fun g t0=>Ly g E 6 fun g t6=>Fl g 2 t6 H fun g t75=>Xl g t75 (.int .i64 1) H fun g t77=>Ly g E 2 fun g t2=>C3 M g (.func ya) [t0,t77,t2] H fun g t79 H1=>Ly g E 6 fun g t6_1=>Fl g 2 t6_1 H1 fun g t81=>B3 g (Op.lenSl [t81]) fun g t82=>Cb g .eql t82 (.int .i64 3) (fun g=>Ly g E 0 fun g t0_1=>C3 M g (.func qv) [t0_1,(.str [32,101,108,115,101,32])] H1 fun g t85 H2=>Ly g E 0 fun g t0_2=>Ly g E 6 fun g t6_2=>Fl g 2 t6_2 H2 fun g t88=>Xl g t88 (.int .i64 2) H2 fun g t90=>Ly g E 2 fun g t2_1=>C3 M g (.func ya) [t0_2,t90,t2_1] H2 fun g t92 H3=>GO3 g Q .normal E D H3) (fun g=>GO3 g Q .normal E D H1)):=by (repeat' apply And.intro)<;>(intro _ _ _ _;refine W_unf ?_;kernel_rfl)
theorem qi9:(cProg Tryd.prog).func zt=some qc4/\qc4.results=[]:=xv (by kernel_rfl)
theorem yd (h:W M ⟨none,zt⟩ (xp 0) true (FIN3 M [] Q) [(0,a0),(1,a1),(2,a2)] [] H):vt M zt [a0,a1,a2] H Q:=callf (by decide) qi9 (ks:=qfe) (by kernel_rfl) h
def qer:AFunc:=funcAt Tryd.prog wc
def qhr:Kp:=⟨[0,1,4,5,6,7,8],false,[0,2,8,10,16,20,23,29,31]⟩
def xu (k:Nat):Kp × ACode:=(qhr,part qer.body k)
theorem qmc (M:Mac) (c:Ctx):(∀ Q E D H,W M c (xu 0) true Q E D H =
 W M c (xu 2) true Q ((4,.nils)::E) D H) /\
 (∀ Q E D H,W M c (xu 2) true Q E D H =
  Lz E 1 fun g t1=>Cb g .lss t1 (.int .i64 0) (fun g=>B3 g ((Op.mkIface yv) [(.str [99,97,110,110,111,116,32,98,101,32,110,101,103,97,116,105,118,101])]) fun g t11=>False) (fun g=>Gt g M c (xu 8) Q E D H)) /\
 (∀ Q E D H,W M c (xu 8) true Q E D H =
  Lz E 0 fun g t0=>B3 g (Op.lenSl [t0]) fun g t14=>B3 g ((Op.wrap .u64) [t14]) fun g t15=>Ly g E 1 fun g t1=>B3 g ((Op.wrap .u64) [t1]) fun g t17=>C3 M g (.func qbu) [t15,t17] H fun g t18 H1=>B3 g ((Op.extract 0) [t18]) fun g t19=>B3 g ((Op.extract 1) [t18]) fun g t20=>W M c (xu 10) g Q ((6,t20)::(5,t19)::E) D H1) /\
 (∀ Q E D H,W M c (xu 10) true Q E D H =
  Lz E 5 fun g t5=>Bn g .gtr t5 (.int .u64 0) fun g t22=>JN (fun (k:Bool->AV->AV->AHeap->Prop)=>B3 g (wantV false (some t22)) fun g w=>IG3 g w (fun g=>Ly g E 6 fun g t6=>Bn g .gtr t6 (.int .u64 9223372036854775807) fun g t25=>k g t25 t6 H) (fun g=>k g uu uu H)) (fun g t25_1 t24_1 H1=>B3 g (Op.pick [t22,(.bool true),t25_1]) fun g t26=>IF3 g t26 (fun g=>B3 g ((Op.mkIface yv) [(.str q0t)]) fun g t27=>False) (fun g=>Gt g M c (xu 16) Q E D H1))) /\
 (∀ Q E D H,W M c (xu 16) true Q E D H =
  Lz E 6 fun g t6=>B3 g ((Op.wrap .i64) [t6]) fun g t29=>B32 g ((Op.mkSlice T_int 8 [(.int .i64 0)]) [t29,t29]) fun g o1 k1=>Ly g E 0 fun g t0=>B32 g ((Op.copy 1) [(k1 H.next),t0] (H.alloc o1)) fun g t33 H2=>W M c (xu 20) g Q ((8,t33)::(7,(k1 H.next))::E) D H2) /\
 (∀ Q E D H,W M c (xu 20) true Q E D H =
  LOOP3 (W M c (xu 23)) (BLK3 0 (SEQ3 (W M c (xu 31)) Q)) E D H) /\
 (∀ Q E D H,W M c (xu 31) true Q E D H =
  Lz E 7 fun g t7=>GO3 g Q .ret ((4,t7)::E) D H) /\
 (∀ Q E D H,W M c (xu 23) true Q E D H =
  Lz E 8 fun g t8=>Ly g E 7 fun g t7=>B3 g (Op.lenSl [t7]) fun g t36=>Cb g .lss t8 t36 (fun g=>Gt g M c (xu 29) Q E D H) (fun g=>GO3 g (SEQ3 (W M c (xu 29)) Q) (.exit 0) E D H)) /\
 (∀ Q E D H,W M c (xu 29) true Q E D H =
  Lz E 8 fun g t8=>Ly g E 7 fun g t7=>B3 g ((Op.sliceSl 1 [(some 0),none,none]) [t7,t8]) fun g t41=>B3 g ((Op.sliceSl 1 [none,(some 0),none]) [t7,t8]) fun g t44=>B32 g ((Op.copy 1) [t41,t44] H) fun g t45 H1=>Bn g .add t8 t45 fun g t46=>GO3 g (BLK3 1 Q) .normal ((8,t46)::E) D H1):=by (repeat' apply And.intro)<;>(intro _ _ _ _;refine W_unf ?_;kernel_rfl)
theorem qma:(cProg Tryd.prog).func wc=some qer/\qer.results=[.tmp 4]:=xv (by kernel_rfl)
theorem qmb (h:W M ⟨none,wc⟩ (xu 0) true (FIN3 M [.tmp 4] Q) [(0,a0),(1,a1)] [] H):vt M wc [a0,a1] H Q:=callf (by decide) qma (ks:=qhr) (by kernel_rfl) h
def qhp:AFunc:=funcAt Tryd.prog qbu
def qke:Kp:=⟨[0,1,4,5,6,7,8,9],false,[0,10]⟩
def qdy (k:Nat):Kp × ACode:=(qke,part qhp.body k)
theorem qkf (M:Mac) (c:Ctx):(∀ Q E D H,W M c (qdy 0) true Q E D H =
 IF3 true (.bool false) (fun g=>Ly g E 0 fun g t0=>B3 g ((Op.wrap .u32) [t0]) fun g t12=>Ly g E 1 fun g t1=>B3 g ((Op.wrap .u32) [t1]) fun g t14=>C3 M g (.func qno) [t12,t14] H fun g t15 H1=>B3 g ((Op.extract 0) [t15]) fun g t16=>B3 g ((Op.extract 1) [t15]) fun g t17=>B3 g ((Op.wrap .u64) [t16]) fun g t19=>B3 g ((Op.wrap .u64) [t17]) fun g t21=>GO3 g (SEQ3 (W M c (qdy 10)) Q) .ret ((5,t21)::(4,t19)::(7,t17)::(6,t16)::(5,(.int .u64 0))::(4,(.int .u64 0))::E) D H1) (fun g=>Gt g M c (qdy 10) Q ((5,(.int .u64 0))::(4,(.int .u64 0))::E) D H)) /\
 (∀ Q E D H,W M c (qdy 10) true Q E D H =
  Lz E 0 fun g t0=>Ly g E 1 fun g t1=>C3 M g (.func qbr) [t0,t1] H fun g t25 H1=>B3 g ((Op.extract 0) [t25]) fun g t26=>B3 g ((Op.extract 1) [t25]) fun g t27=>GO3 g Q .ret ((5,t27)::(4,t26)::(9,t27)::(8,t26)::E) D H1):=by (repeat' apply And.intro)<;>(intro _ _ _ _;refine W_unf ?_;kernel_rfl)
theorem qq9:(cProg Tryd.prog).func qbu=some qhp/\qhp.results=[.tmp 4,.tmp 5]:=xv (by kernel_rfl)
theorem qra (h:W M ⟨none,qbu⟩ (qdy 0) true (FIN3 M [.tmp 4,.tmp 5] Q) [(0,a0),(1,a1)] [] H):vt M qbu [a0,a1] H Q:=callf (by decide) qq9 (ks:=qke) (by kernel_rfl) h
def qes:AFunc:=funcAt Tryd.prog kg
def qhu:Kp:=⟨[0,1,4],false,[0]⟩
def qhv (k:Nat):Kp × ACode:=(qhu,part qes.body k)
theorem qhw (M:Mac) (c:Ctx):(∀ Q E D H,W M c (qhv 0) true Q E D H =
 Lz E 0 fun g t0=>Ly g E 1 fun g t1=>C3 M g (.func kp) [t0,t1] H fun g t7 H1=>GO3 g Q .ret ((4,t7)::(4,(.bool false))::E) D H1):=by intro _ _ _ _;refine W_unf ?_;kernel_rfl
theorem qmd:(cProg Tryd.prog).func kg=some qes/\qes.results=[.tmp 4]:=xv (by kernel_rfl)
theorem qme (h:W M ⟨none,kg⟩ (qhv 0) true (FIN3 M [.tmp 4] Q) [(0,a0),(1,a1)] [] H):vt M kg [a0,a1] H Q:=callf (by decide) qmd (ks:=qhu) (by kernel_rfl) h
def qfc:AFunc:=funcAt Tryd.prog zr
def qh4:Kp:=⟨[0,1,2,6,7,9,18],false,[0,9,21,25,31,35]⟩
def z7 (k:Nat):Kp × ACode:=(qh4,part qfc.body k)
theorem yq (M:Mac) (c:Ctx):(∀ Q E D H,W M c (z7 0) true Q E D H =
 Lz E 0 fun g t0=>Nf g 2 t0 H fun g t13=>Ly g E 1 fun g t1=>B3 g ((Op.indexSl 3) [t13,t1]) fun g t15=>B3 g ((Op.loadN 3) [t15] H) fun g t16=>A3 g qo [(.int .i64 0),(.int .u64 0),.nils] H fun g t6 H1=>B32 g ((Op.store 3) [t6,t16] H1) fun g u H2=>Fl g 0 t6 H2 fun g t18=>Cb g .eql t18 (.int .i64 1) (fun g=>Ly g E 0 fun g t0_1=>Fl g 1 t6 H2 fun g t61=>C3 M g (.func qag) [t61,(.int .i64 10)] H2 fun g t62 H3=>C3 M g (.func qv) [t0_1,t62] H3 fun g t63 H4=>GO3 g (BLK3 0 Q) .normal ((18,t18)::(6,t6)::E) D H4) (fun g=>W M c (z7 9) g (BLK3 0 Q) ((18,t18)::(6,t6)::E) D H2)) /\
 (∀ Q E D H,W M c (z7 9) true Q E D H =
  Lz E 18 fun g t18=>Cb g .eql t18 (.int .i64 2) (fun g=>Ly g E 0 fun g t0=>Ly g E 6 fun g t6=>Fl g 1 t6 H fun g t68=>Bn g .add (.int .u64 97) t68 fun g t69=>B3 g ((Op.wrap .i32) [t69]) fun g t70=>B3 g (Op.strOfInt [t70]) fun g t71=>C3 M g (.func qv) [t0,t71] H fun g t72 H1=>GO3 g Q .normal E D H1) (fun g=>Ly g E 18 fun g t18_1=>Cb g .eql t18_1 (.int .i64 3) (fun g=>Ly g E 0 fun g t0=>C3 M g (.func qv) [t0,(.str [108,111,97,100,40])] H fun g t76 H1=>Ly g E 0 fun g t0_1=>Ly g E 6 fun g t6=>Fl g 2 t6 H1 fun g t79=>Xl g t79 (.int .i64 0) H1 fun g t81=>C3 M g (.func zr) [t0_1,t81,(.int .i64 0)] H1 fun g t82 H2=>Ly g E 0 fun g t0_2=>C3 M g (.func qv) [t0_2,(.str [41])] H2 fun g t84 H3=>GO3 g Q .normal E D H3) (fun g=>W M c (z7 21) g Q E D H))) /\
 (∀ Q E D H,W M c (z7 21) true Q E D H =
  Lz E 6 fun g t6=>Fl g 0 t6 H fun g t20=>C3 M g (.func qex) [t20] H fun g t21 H1=>C3 M g (.func qfs) [t21] H1 fun g t24 H2=>B3 g ((Op.extract 0) [t24]) fun g t25=>B3 g ((Op.extract 1) [t24]) fun g t26=>W M c (z7 25) g Q ((9,t26)::(7,t21)::E) D H2) /\
 (∀ Q E D H,W M c (z7 25) true Q E D H =
  Lz E 9 fun g t9=>Ly g E 2 fun g t2=>Cb g .lss t9 t2 (fun g=>Ly g E 0 fun g t0=>C3 M g (.func qv) [t0,(.str [40])] H fun g t31 H1=>Gt g M c (z7 31) Q E D H1) (fun g=>Gt g M c (z7 31) Q E D H)) /\
 (∀ Q E D H,W M c (z7 31) true Q E D H =
  Lz E 0 fun g t0=>Ly g E 6 fun g t6=>Fl g 2 t6 H fun g t34=>Xl g t34 (.int .i64 0) H fun g t36=>Ly g E 9 fun g t9=>C3 M g (.func zr) [t0,t36,t9] H fun g t38 H1=>Ly g E 0 fun g t0_1=>Ly g E 7 fun g t7=>Bn g .add (.str [32]) t7 fun g t41=>Bn g .add t41 (.str [32]) fun g t42=>C3 M g (.func qv) [t0_1,t42] H1 fun g t43 H2=>W M c (z7 35) g Q E D H2) /\
 (∀ Q E D H,W M c (z7 35) true Q E D H =
  Lz E 0 fun g t0=>Ly g E 6 fun g t6=>Fl g 2 t6 H fun g t46=>Xl g t46 (.int .i64 1) H fun g t48=>Ly g E 9 fun g t9=>Bn g .add t9 (.int .i64 1) fun g t50=>C3 M g (.func zr) [t0,t48,t50] H fun g t51 H1=>Ly g E 9 fun g t9_1=>Ly g E 2 fun g t2=>Cb g .lss t9_1 t2 (fun g=>Ly g E 0 fun g t0_1=>C3 M g (.func qv) [t0_1,(.str [41])] H1 fun g t56 H2=>GO3 g Q .normal E D H2) (fun g=>GO3 g Q .normal E D H1)):=by (repeat' apply And.intro)<;>(intro _ _ _ _;refine W_unf ?_;kernel_rfl)
theorem qmz:(cProg Tryd.prog).func zr=some qfc/\qfc.results=[]:=xv (by kernel_rfl)
theorem qdp (h:W M ⟨none,zr⟩ (z7 0) true (FIN3 M [] Q) [(0,a0),(1,a1),(2,a2)] [] H):vt M zr [a0,a1,a2] H Q:=callf (by decide) qmz (ks:=qh4) (by kernel_rfl) h
def qfb:AFunc:=funcAt Tryd.prog qa4
def qh2:Kp:=⟨[0,1,4],false,[0]⟩
def qh3 (k:Nat):Kp × ACode:=(qh2,part qfb.body k)
theorem qdo (M:Mac) (c:Ctx):(∀ Q E D H,W M c (qh3 0) true Q E D H =
 Lz E 0 fun g t0=>Nf g 2 t0 H fun g t8=>Ly g E 1 fun g t1=>B3 g ((Op.indexSl 3) [t8,t1]) fun g t10=>B3 g ((Op.loadN 3) [t10] H) fun g t11=>A3 g qo [(.int .i64 0),(.int .u64 0),.nils] H fun g t4 H1=>B32 g ((Op.store 3) [t4,t11] H1) fun g u H2=>Ly g E 0 fun g t0_1=>Fl g 2 t4 H2 fun g t14=>Xl g t14 (.int .i64 0) H2 fun g t16=>C3 M g (.func zr) [t0_1,t16,(.int .i64 0)] H2 fun g t17 H3=>Ly g E 0 fun g t0_2=>B32 g ((Op.buildSlice yv 3 [(.str [])] [(0,1),(1,1),(2,1)]) [(.str [32,61,61,32]),(.str [32,33,61,32]),(.str [32,60,32])]) fun g o4 k4=>Fl g 0 t4 (H3.alloc o4) fun g t21=>Bn g .sub t21 (.int .i64 11) fun g t22=>Xl g (k4 H3.next) t22 (H3.alloc o4) fun g t24=>C3 M g (.func qv) [t0_2,t24] (H3.alloc o4) fun g t25 H5=>Ly g E 0 fun g t0_3=>Fl g 2 t4 H5 fun g t28=>Xl g t28 (.int .i64 1) H5 fun g t30=>C3 M g (.func zr) [t0_3,t30,(.int .i64 0)] H5 fun g t31 H6=>GO3 g Q .normal ((4,t4)::E) D H6):=by intro _ _ _ _;refine W_unf ?_;kernel_rfl
theorem qmx:(cProg Tryd.prog).func qa4=some qfb/\qfb.results=[]:=xv (by kernel_rfl)
theorem qmy (h:W M ⟨none,qa4⟩ (qh3 0) true (FIN3 M [] Q) [(0,a0),(1,a1)] [] H):vt M qa4 [a0,a1] H Q:=callf (by decide) qmx (ks:=qh2) (by kernel_rfl) h
def qeq:AFunc:=funcAt Tryd.prog ya
def qhn:Kp:=⟨[0,1,2],false,[0]⟩
def qho (k:Nat):Kp × ACode:=(qhn,part qeq.body k)
theorem qb0 (M:Mac) (c:Ctx):(∀ Q E D H,W M c (qho 0) true Q E D H =
 Lz E 0 fun g t0=>C3 M g (.func qv) [t0,(.str [123,10])] H fun g t7 H1=>Ly g E 0 fun g t0_1=>Ly g E 1 fun g t1=>Ly g E 2 fun g t2=>Bn g .add t2 (.int .i64 1) fun g t11=>C3 M g (.func qac) [t0_1,t1,t11] H1 fun g t12 H2=>Ly g E 0 fun g t0_2=>Ly g E 2 fun g t2_1=>C3 M g (.func qai) [(.str [32,32]),t2_1] H2 fun g t15 H3=>Bn g .add t15 (.str [125]) fun g t16=>C3 M g (.func qv) [t0_2,t16] H3 fun g t17 H4=>GO3 g Q .normal E D H4):=by intro _ _ _ _;refine W_unf ?_;kernel_rfl
theorem ql4:(cProg Tryd.prog).func ya=some qeq/\qeq.results=[]:=xv (by kernel_rfl)
theorem ql5 (h:W M ⟨none,ya⟩ (qho 0) true (FIN3 M [] Q) [(0,a0),(1,a1),(2,a2)] [] H):vt M ya [a0,a1,a2] H Q:=callf (by decide) ql4 (ks:=qhn) (by kernel_rfl) h
def qf0:AFunc:=funcAt Tryd.prog qbr
def qiz:Kp:=⟨[0,1,4,5,6,7,8,9,10,11,12,13],false,[0,4,8,12]⟩
def ww (k:Nat):Kp × ACode:=(qiz,part qf0.body k)
theorem qn6 (M:Mac) (c:Ctx):(∀ Q E D H,W M c (ww 0) true Q E D H =
 Lz E 0 fun g t0=>Bn g .and t0 (.int .u64 4294967295) fun g t15=>W M c (ww 4) g Q ((6,t15)::(5,(.int .u64 0))::(4,(.int .u64 0))::E) D H) /\
 (∀ Q E D H,W M c (ww 4) true Q E D H =
  Lz E 0 fun g t0=>Bn g .shr t0 (.int .u64 32) fun g t17=>Ly g E 1 fun g t1=>Bn g .and t1 (.int .u64 4294967295) fun g t19=>W M c (ww 8) g Q ((8,t19)::(7,t17)::E) D H) /\
 (∀ Q E D H,W M c (ww 8) true Q E D H =
  Lz E 1 fun g t1=>Bn g .shr t1 (.int .u64 32) fun g t21=>Ly g E 6 fun g t6=>Ly g E 8 fun g t8=>Bn g .mul t6 t8 fun g t24=>W M c (ww 12) g Q ((10,t24)::(9,t21)::E) D H) /\
 (∀ Q E D H,W M c (ww 12) true Q E D H =
  Lz E 7 fun g t7=>Ly g E 8 fun g t8=>Bn g .mul t7 t8 fun g t27=>Ly g E 10 fun g t10=>Bn g .shr t10 (.int .u64 32) fun g t29=>Bn g .add t27 t29 fun g t30=>Bn g .and t30 (.int .u64 4294967295) fun g t32=>Bn g .shr t30 (.int .u64 32) fun g t34=>Ly g E 6 fun g t6=>Ly g E 9 fun g t9=>Bn g .mul t6 t9 fun g t38=>Bn g .add t32 t38 fun g t39=>Ly g E 7 fun g t7_1=>Ly g E 9 fun g t9_1=>Bn g .mul t7_1 t9_1 fun g t42=>Bn g .add t42 t34 fun g t44=>Bn g .shr t39 (.int .u64 32) fun g t46=>Bn g .add t44 t46 fun g t47=>Ly g E 0 fun g t0=>Ly g E 1 fun g t1=>Bn g .mul t0 t1 fun g t50=>GO3 g Q .ret ((5,t50)::(4,t47)::(12,t39)::(13,t34)::(12,t32)::(11,t30)::E) D H):=by (repeat' apply And.intro)<;>(intro _ _ _ _;refine W_unf ?_;kernel_rfl)
theorem qn4:(cProg Tryd.prog).func qbr=some qf0/\qf0.results=[.tmp 4,.tmp 5]:=xv (by kernel_rfl)
theorem qn5 (h:W M ⟨none,qbr⟩ (ww 0) true (FIN3 M [.tmp 4,.tmp 5] Q) [(0,a0),(1,a1)] [] H):vt M qbr [a0,a1] H Q:=callf (by decide) qn4 (ks:=qiz) (by kernel_rfl) h
def qan:AFunc:=funcAt Tryd.prog kp
def qci:Kp:=⟨[0,1,4],false,[0]⟩
def qcj (k:Nat):Kp × ACode:=(qci,part qan.body k)
theorem qfm (M:Mac) (c:Ctx):(∀ Q E D H,W M c (qcj 0) true Q E D H =
 Lz E 0 fun g t0=>B3 g (Op.lenStr [t0]) fun g t6=>Ly g E 1 fun g t1=>B3 g (Op.lenStr [t1]) fun g t8=>Bn g .geq t6 t8 fun g t9=>JN (fun (k:Bool->AV->AV->AV->AV->AV->AV->AHeap->Prop)=>B3 g (wantV true (some t9)) fun g w=>IG3 g w (fun g=>B3 g (Op.lenStr [t1]) fun g t13=>B3 g ((Op.sliceStr [none,(some 0)]) [t0,t13]) fun g t14=>Bn g .eql t14 t1 fun g t16=>k g t16 t1 t14 t13 t1 t0 H) (fun g=>k g uu uu uu uu uu uu H)) (fun g t16_1 t15_1 t14_1 t13_1 t12_1 t11_1 H1=>B3 g (Op.pick [t9,t16_1,(.bool false)]) fun g t17=>GO3 g Q .ret ((4,t17)::(4,(.bool false))::E) D H1)):=by intro _ _ _ _;refine W_unf ?_;kernel_rfl
theorem qfk:(cProg Tryd.prog).func kp=some qan/\qan.results=[.tmp 4]:=xv (by kernel_rfl)
theorem qfl (h:W M ⟨none,kp⟩ (qcj 0) true (FIN3 M [.tmp 4] Q) [(0,a0),(1,a1)] [] H):vt M kp [a0,a1] H Q:=callf (by decide) qfk (ks:=qci) (by kernel_rfl) h
def qkd:AFunc:=funcAt Tryd.prog qex
def qo1:Kp:=⟨[0,2],false,[0]⟩
def qo2 (k:Nat):Kp × ACode:=(qo1,part qkd.body k)
theorem qwi (M:Mac) (c:Ctx):(∀ Q E D H,W M c (qo2 0) true Q E D H =
 B32 true ((Op.buildSlice yv 7 [(.str [])] [(0,1),(1,1),(2,1),(3,1),(4,1),(5,1),(6,1)]) [(.str [43]),(.str [45]),(.str [42]),(.str [38]),(.str [94]),(.str [60,60]),(.str [62,62])]) fun g o1 k1=>Ly g E 0 fun g t0=>Bn g .sub t0 (.int .i64 4) fun g t5=>Xl g (k1 H.next) t5 (H.alloc o1) fun g t7=>GO3 g Q .ret ((2,t7)::(2,(.str []))::E) D (H.alloc o1)):=by intro _ _ _ _;refine W_unf ?_;kernel_rfl
theorem qwg:(cProg Tryd.prog).func qex=some qkd/\qkd.results=[.tmp 2]:=xv (by kernel_rfl)
theorem qwh (h:W M ⟨none,qex⟩ (qo2 0) true (FIN3 M [.tmp 2] Q) [(0,a0)] [] H):vt M qex [a0] H Q:=callf (by decide) qwg (ks:=qo1) (by kernel_rfl) h
def ql3:AFunc:=funcAt Tryd.prog qfs
def qq4:Kp:=⟨[0,2,3,4],false,[0,2,18,30,42,49]⟩
def qad (k:Nat):Kp × ACode:=(qq4,part ql3.body k)
theorem qyk (M:Mac) (c:Ctx):(∀ Q E D H,W M c (qad 0) true Q E D H =
 W M c (qad 2) true Q ((3,(.int .i64 0))::(2,(.int .i64 0))::E) D H) /\
 (∀ Q E D H,W M c (qad 2) true Q E D H =
  Lz E 0 fun g t0=>Cb g .eql t0 (.str [43]) (fun g=>GO3 g (BLK3 0 (SEQ3 (W M c (qad 49)) Q)) .ret ((3,(.int .i64 1))::(2,(.int .i64 4))::(4,t0)::E) D H) (fun g=>Cb g .eql t0 (.str [45]) (fun g=>GO3 g (BLK3 0 (SEQ3 (W M c (qad 49)) Q)) .ret ((3,(.int .i64 1))::(2,(.int .i64 5))::(4,t0)::E) D H) (fun g=>W M c (qad 18) g (BLK3 0 (SEQ3 (W M c (qad 49)) Q)) ((4,t0)::E) D H))) /\
 (∀ Q E D H,W M c (qad 49) true Q E D H =
  GO3 true Q .ret ((3,(.int .i64 0))::(2,(.int .i64 0))::E) D H) /\
 (∀ Q E D H,W M c (qad 18) true Q E D H =
  Lz E 4 fun g t4=>Cb g .eql t4 (.str [94]) (fun g=>GO3 g Q .ret ((3,(.int .i64 1))::(2,(.int .i64 8))::E) D H) (fun g=>Ly g E 4 fun g t4_1=>Cb g .eql t4_1 (.str [42]) (fun g=>GO3 g Q .ret ((3,(.int .i64 2))::(2,(.int .i64 6))::E) D H) (fun g=>W M c (qad 30) g Q E D H))) /\
 (∀ Q E D H,W M c (qad 30) true Q E D H =
  Lz E 4 fun g t4=>Cb g .eql t4 (.str [38]) (fun g=>GO3 g Q .ret ((3,(.int .i64 2))::(2,(.int .i64 7))::E) D H) (fun g=>Ly g E 4 fun g t4_1=>Cb g .eql t4_1 (.str [60,60]) (fun g=>GO3 g Q .ret ((3,(.int .i64 2))::(2,(.int .i64 9))::E) D H) (fun g=>W M c (qad 42) g Q E D H))) /\
 (∀ Q E D H,W M c (qad 42) true Q E D H =
  Lz E 4 fun g t4=>Cb g .eql t4 (.str [62,62]) (fun g=>GO3 g Q .ret ((3,(.int .i64 2))::(2,(.int .i64 10))::E) D H) (fun g=>GO3 g Q .normal E D H)):=by (repeat' apply And.intro)<;>(intro _ _ _ _;refine W_unf ?_;kernel_rfl)
theorem qyi:(cProg Tryd.prog).func qfs=some ql3/\ql3.results=[.tmp 2,.tmp 3]:=xv (by kernel_rfl)
theorem qyj (h:W M ⟨none,qfs⟩ (qad 0) true (FIN3 M [.tmp 2,.tmp 3] Q) [(0,a0)] [] H):vt M qfs [a0] H Q:=callf (by decide) qyi (ks:=qq4) (by kernel_rfl) h
end
end Go.Am
namespace Go.Am
abbrev qbv:Nat:=43
abbrev yb:Nat:=16
abbrev qc1:Nat:=67
abbrev qdu:Nat:=71
abbrev qcg:Nat:=102
abbrev wo:Nat:=70
abbrev wq:Nat:=68
abbrev qch:Nat:=69
abbrev vl:Nat:=44
abbrev qdf:Nat:=103
noncomputable section
open Go.Proofs Go.Proofs.YtbimikjajohflaaDoor
variable {M:Mac} [MK M] {H:AHeap} {Q:AEnd->AHeap->Prop} {a0 a1 a2:AV}
def qjf:AFunc:=funcAt Tryd.prog yb
def qm9:Kp:=⟨[0,2,3,4,5,6,7],false,[0,4,12,16,21,27,35,41,48,49]⟩
def xx (k:Nat):Kp × ACode:=(qm9,part qjf.body k)
theorem qjg (M:Mac) (c:Ctx):(∀ Q E D H,W M c (xx 0) true Q E D H =
 Lz E 0 fun g t0=>C3 M g (.func qbv) [t0] H fun g t9 H1=>W M c (xx 4) g Q ((4,t9)::(3,(.int .i64 0))::(2,(.str []))::E) D H1) /\
 (∀ Q E D H,W M c (xx 4) true Q E D H =
  Lz E 4 fun g t4=>B3 g ((Op.un .not) [t4]) fun g t11=>IF3 g t11 (fun g=>GO3 g (SEQ3 (W M c (xx 12)) Q) .ret ((3,(.int .i64 2))::(2,(.str []))::E) D H) (fun g=>Gt g M c (xx 12) Q E D H)) /\
 (∀ Q E D H,W M c (xx 12) true Q E D H =
  Lz E 0 fun g t0=>B3 g (Op.lenSl [t0]) fun g t14=>Bn g .sub t14 (.int .i64 1) fun g t15=>C3 M g (.func vl) [t0,t15,(.str [])] H fun g t16 H1=>W M c (xx 16) g Q ((6,(.int .i64 0))::(5,t16)::E) D H1) /\
 (∀ Q E D H,W M c (xx 16) true Q E D H =
  LOOP3 (W M c (xx 21)) (BLK3 0 (SEQ3 (W M c (xx 49)) Q)) ((7,(.int .i64 0))::E) D H) /\
 (∀ Q E D H,W M c (xx 49) true Q E D H =
  Lz E 5 fun g t5=>GO3 g Q .ret ((3,(.int .i64 0))::(2,t5)::E) D H) /\
 (∀ Q E D H,W M c (xx 21) true Q E D H =
  Lz E 7 fun g t7=>Ly g E 5 fun g t5=>B3 g (Op.lenStr [t5]) fun g t19=>Cb g .lss t7 t19 (fun g=>Gt g M c (xx 27) Q E D H) (fun g=>GO3 g (SEQ3 (W M c (xx 27)) Q) (.exit 0) E D H)) /\
 (∀ Q E D H,W M c (xx 27) true Q E D H =
  Lz E 5 fun g t5=>Ly g E 7 fun g t7=>B3 g (Op.indexStr [t5,t7]) fun g t25=>Bn g .eql t25 (.int .u8 40) fun g t26=>JN (fun (k:Bool->AV->AV->AV->AV->AHeap->Prop)=>B3 g (wantV false (some t26)) fun g w=>IG3 g w (fun g=>B3 g (Op.indexStr [t5,t7]) fun g t30=>Bn g .eql t30 (.int .u8 123) fun g t31=>k g t31 t30 t7 t5 H) (fun g=>k g uu uu uu uu H)) (fun g t31_1 t30_1 t29_1 t28_1 H1=>B3 g (Op.pick [t26,(.bool true),t31_1]) fun g t32=>IF3 g t32 (fun g=>Ly g E 6 fun g t6=>Bn g .add t6 (.int .i64 1) fun g t34=>Gt g M c (xx 35) (BLK3 1 (SEQ3 (W M c (xx 48)) Q)) ((6,t34)::E) D H1) (fun g=>Gt g M c (xx 35) (BLK3 1 (SEQ3 (W M c (xx 48)) Q)) E D H1))) /\
 (∀ Q E D H,W M c (xx 48) true Q E D H =
  Lz E 7 fun g t7=>Bn g .add t7 (.int .i64 1) fun g t22=>GO3 g Q .normal ((7,t22)::E) D H) /\
 (∀ Q E D H,W M c (xx 35) true Q E D H =
  Lz E 5 fun g t5=>Ly g E 7 fun g t7=>B3 g (Op.indexStr [t5,t7]) fun g t37=>Bn g .eql t37 (.int .u8 41) fun g t38=>JN (fun (k:Bool->AV->AV->AV->AV->AHeap->Prop)=>B3 g (wantV false (some t38)) fun g w=>IG3 g w (fun g=>B3 g (Op.indexStr [t5,t7]) fun g t42=>Bn g .eql t42 (.int .u8 125) fun g t43=>k g t43 t42 t7 t5 H) (fun g=>k g uu uu uu uu H)) (fun g t43_1 t42_1 t41_1 t40_1 H1=>B3 g (Op.pick [t38,(.bool true),t43_1]) fun g t44=>IF3 g t44 (fun g=>Ly g E 6 fun g t6=>Bn g .sub t6 (.int .i64 1) fun g t46=>Gt g M c (xx 41) Q ((6,t46)::E) D H1) (fun g=>Gt g M c (xx 41) Q E D H1))) /\
 (∀ Q E D H,W M c (xx 41) true Q E D H =
  Lz E 6 fun g t6=>Cb g .gtr t6 (.int .i64 50) (fun g=>GO3 g Q .ret ((3,(.int .i64 2))::(2,(.str []))::E) D H) (fun g=>GO3 g Q .normal E D H)):=by (repeat' apply And.intro)<;>(intro _ _ _ _;refine W_unf ?_;kernel_rfl)
theorem quq:(cProg Tryd.prog).func yb=some qjf/\qjf.results=[.tmp 2,.tmp 3]:=xv (by kernel_rfl)
theorem qna (h:W M ⟨none,yb⟩ (xx 0) true (FIN3 M [.tmp 2,.tmp 3] Q) [(0,a0)] [] H):vt M yb [a0] H Q:=callf (by decide) quq (ks:=qm9) (by kernel_rfl) h
def ql7:AFunc:=funcAt Tryd.prog qbv
def qrt:Kp:=⟨[0,2,3,4,5,6,7,8,9],false,[0,2,10,14,19,25,31,39,44,50,60,61,62,64,72,75,76]⟩
def xi (k:Nat):Kp × ACode:=(qrt,part ql7.body k)
theorem qru (M:Mac) (c:Ctx):(∀ Q E D H,W M c (xi 0) true Q E D H =
 W M c (xi 2) true Q ((2,(.bool false))::E) D H) /\
 (∀ Q E D H,W M c (xi 2) true Q E D H =
  Lz E 0 fun g t0=>B3 g (Op.lenSl [t0]) fun g t11=>Bn g .lss t11 (.int .i64 1) fun g t12=>JN (fun (k:Bool->AV->AV->AV->AHeap->Prop)=>B3 g (wantV false (some t12)) fun g w=>IG3 g w (fun g=>B3 g (Op.lenSl [t0]) fun g t15=>Bn g .gtr t15 (.int .i64 2000) fun g t16=>k g t16 t15 t0 H) (fun g=>k g uu uu uu H)) (fun g t16_1 t15_1 t14_1 H1=>B3 g (Op.pick [t12,(.bool true),t16_1]) fun g t17=>JN (fun (k:Bool->AV->AV->AV->AV->AV->AV->AV->AV->AHeap->Prop)=>B3 g (wantV false (some t17)) fun g w=>IG3 g w (fun g=>B3 g (Op.lenSl [t0]) fun g t21=>Bn g .sub t21 (.int .i64 1) fun g t22=>B3 g ((Op.indexSl 3) [t0,t22]) fun g t23=>B3 g ((Op.fieldAddr 0) [t23]) fun g t24=>B3 g (Op.load1 [t24] H1) fun g t25=>Bn g .neq t25 (.int .i64 20) fun g t26=>k g t26 t25 t24 t23 t22 t21 t0 t0 H1) (fun g=>k g uu uu uu uu uu uu uu uu H1)) (fun g t26_1 t25_1 t24_1 t23_1 t22_1 t21_1 t20_1 t19_1 H2=>B3 g (Op.pick [t17,(.bool true),t26_1]) fun g t27=>IF3 g t27 (fun g=>GO3 g (SEQ3 (W M c (xi 10)) Q) .ret ((2,(.bool false))::E) D H2) (fun g=>Gt g M c (xi 10) Q E D H2)))) /\
 (∀ Q E D H,W M c (xi 10) true Q E D H =
  Lz E 0 fun g t0=>B3 g (Op.lenSl [t0]) fun g t29=>B32 g ((Op.mkSlice qoj 1 [(.bool false)]) [t29,t29]) fun g o1 k1=>W M c (xi 14) g Q ((4,(k1 H.next))::(3,.nils)::E) D (H.alloc o1)) /\
 (∀ Q E D H,W M c (xi 14) true Q E D H =
  LOOP3 (W M c (xi 19)) (BLK3 0 (SEQ3 (W M c (xi 76)) Q)) ((5,(.int .i64 0))::E) D H) /\
 (∀ Q E D H,W M c (xi 76) true Q E D H =
  Lz E 3 fun g t3=>B3 g (Op.lenSl [t3]) fun g t129=>Bn g .eql t129 (.int .i64 1) fun g t130=>GO3 g Q .ret ((2,t130)::E) D H) /\
 (∀ Q E D H,W M c (xi 19) true Q E D H =
  Lz E 5 fun g t5=>Ly g E 0 fun g t0=>B3 g (Op.lenSl [t0]) fun g t33=>Cb g .lss t5 t33 (fun g=>Gt g M c (xi 25) Q E D H) (fun g=>GO3 g (SEQ3 (W M c (xi 25)) Q) (.exit 0) E D H)) /\
 (∀ Q E D H,W M c (xi 25) true Q E D H =
  Lz E 0 fun g t0=>Ly g E 5 fun g t5=>B3 g ((Op.indexSl 3) [t0,t5]) fun g t39=>B3 g ((Op.loadN 3) [t39] H) fun g t40=>A3 g qo [(.int .i64 0),(.int .u64 0),.nils] H fun g t6 H1=>B32 g ((Op.store 3) [t6,t40] H1) fun g u H2=>Fl g 2 t6 H2 fun g t42=>B3 g (Op.lenSl [t42]) fun g t43=>W M c (xi 31) g (BLK3 1 (SEQ3 (W M c (xi 75)) Q)) ((7,t43)::(6,t6)::E) D H2) /\
 (∀ Q E D H,W M c (xi 75) true Q E D H =
  Lz E 5 fun g t5=>Bn g .add t5 (.int .i64 1) fun g t36=>GO3 g Q .normal ((5,t36)::E) D H) /\
 (∀ Q E D H,W M c (xi 31) true Q E D H =
  Lz E 6 fun g t6=>Fl g 0 t6 H fun g t45=>C3 M g (.func qc1) [t45] H fun g t46 H1=>Bn g .eql t46 (.int .i64 0) fun g t47=>JN (fun (k:Bool->AV->AV->AV->AV->AHeap->Prop)=>B3 g (wantV false (some t47)) fun g w=>IG3 g w (fun g=>Ly g E 7 fun g t7=>Ly g E 3 fun g t3=>B3 g (Op.lenSl [t3]) fun g t51=>Bn g .gtr t7 t51 fun g t52=>k g t52 t51 t3 t7 H1) (fun g=>k g uu uu uu uu H1)) (fun g t52_1 t51_1 t50_1 t49_1 H2=>B3 g (Op.pick [t47,(.bool true),t52_1]) fun g t53=>IF3 g t53 (fun g=>GO3 g (SEQ3 (W M c (xi 39)) Q) .ret ((2,(.bool false))::E) D H2) (fun g=>Gt g M c (xi 39) Q E D H2))) /\
 (∀ Q E D H,W M c (xi 39) true Q E D H =
  LOOP3 (W M c (xi 44)) (BLK3 2 (SEQ3 (W M c (xi 62)) Q)) ((8,(.int .i64 0))::E) D H) /\
 (∀ Q E D H,W M c (xi 62) true Q E D H =
  Lz E 0 fun g t0=>Ly g E 6 fun g t6=>B3 g ((Op.loadN 3) [t6] H) fun g t92=>C3 M g (.func wq) [t0,t92] H fun g t93 H1=>W M c (xi 64) g Q ((9,t93)::E) D H1) /\
 (∀ Q E D H,W M c (xi 44) true Q E D H =
  Lz E 8 fun g t8=>Ly g E 7 fun g t7=>Cb g .lss t8 t7 (fun g=>Gt g M c (xi 50) Q E D H) (fun g=>GO3 g (SEQ3 (W M c (xi 50)) Q) (.exit 2) E D H)) /\
 (∀ Q E D H,W M c (xi 64) true Q E D H =
  Lz E 9 fun g t9=>B3 g ((Op.un .not) [t9]) fun g t95=>JN (fun (k:Bool->AV->AV->AV->AV->AHeap->Prop)=>B3 g (wantV false (some t95)) fun g w=>IG3 g w (fun g=>Ly g E 6 fun g t6=>B3 g ((Op.fieldAddr 0) [t6]) fun g t97=>B3 g (Op.load1 [t97] H) fun g t98=>Bn g .eql t98 (.int .i64 18) fun g t99=>k g t99 t99 t98 t97 H) (fun g=>k g uu uu uu uu H)) (fun g t100_1 t99_1 t98_1 t97_1 H1=>JN (fun (k:Bool->AV->AV->AV->AV->AHeap->Prop)=>B3 g (wantV true (some t100_1)) fun g w=>IG3 g w (fun g=>Ly g E 4 fun g t4=>Ly g E 5 fun g t5=>B3 g ((Op.indexSl 1) [t4,t5]) fun g t103=>B3 g (Op.load1 [t103] H1) fun g t104=>k g t104 t103 t5 t4 H1) (fun g=>k g uu uu uu uu H1)) (fun g t104_1 t103_1 t102_1 t101_1 H2=>JN (fun (k:Bool->AV->AHeap->Prop)=>B3 g (wantV false (some t95)) fun g w=>IG3 g w (fun g=>B3 g (Op.pick [t100_1,t104_1,(.bool false)]) fun g t105=>k g t105 H2) (fun g=>k g uu H2)) (fun g t105_1 H3=>B3 g (Op.pick [t95,(.bool true),t105_1]) fun g t106=>IF3 g t106 (fun g=>GO3 g (SEQ3 (W M c (xi 72)) Q) .ret ((2,(.bool false))::E) D H3) (fun g=>Gt g M c (xi 72) Q E D H3))))) /\
 (∀ Q E D H,W M c (xi 50) true Q E D H =
  Lz E 6 fun g t6=>Fl g 2 t6 H fun g t60=>Ly g E 8 fun g t8=>Xl g t60 t8 H fun g t63=>Ly g E 3 fun g t3=>B3 g (Op.lenSl [t3]) fun g t66=>Ly g E 7 fun g t7=>Bn g .sub t66 t7 fun g t68=>Bn g .add t68 t8 fun g t70=>Xl g t3 t70 H fun g t72=>Cb g .neq t63 t72 (fun g=>GO3 g (SEQ3 (W M c (xi 60)) (BLK3 3 (SEQ3 (W M c (xi 61)) Q))) .ret ((2,(.bool false))::E) D H) (fun g=>Gt g M c (xi 60) (BLK3 3 (SEQ3 (W M c (xi 61)) Q)) E D H)) /\
 (∀ Q E D H,W M c (xi 72) true Q E D H =
  Lz E 4 fun g t4=>Ly g E 5 fun g t5=>Xl g t4 t5 H fun g t112=>JN (fun (k:Bool->AV->AV->AV->AHeap->Prop)=>B3 g (wantV false (some t112)) fun g w=>IG3 g w (fun g=>Ly g E 6 fun g t6=>B3 g ((Op.fieldAddr 0) [t6]) fun g t114=>B3 g (Op.load1 [t114] H) fun g t115=>Bn g .eql t115 (.int .i64 18) fun g t116=>k g t116 t115 t114 H) (fun g=>k g uu uu uu H)) (fun g t116_1 t115_1 t114_1 H1=>B3 g (Op.pick [t112,(.bool true),t116_1]) fun g t117=>Xs g t4 t5 t117 H1 fun g u H2=>Ly g E 3 fun g t3=>B3 g (Op.lenSl [t3]) fun g t121=>Ly g E 7 fun g t7=>Bn g .sub t121 t7 fun g t123=>B3 g ((Op.sliceSl 1 [none,(some 0),none]) [t3,t123]) fun g t124=>Ly g E 5 fun g t5_1=>B32 g ((Op.buildSlice T_int 1 [(.int .i64 0)] [(0,1)]) [t5_1]) fun g o3 k3=>B32 g ((Op.append T_int 1 8) [t124,(k3 H2.next)] (H2.alloc o3)) fun g t127 H4=>GO3 g Q .normal ((3,t127)::E) D H4)) /\
 (∀ Q E D H,W M c (xi 61) true Q E D H =
  Lz E 8 fun g t8=>Bn g .add t8 (.int .i64 1) fun g t58=>GO3 g Q .normal ((8,t58)::E) D H) /\
 (∀ Q E D H,W M c (xi 60) true Q E D H =
  Lz E 4 fun g t4=>Ly g E 5 fun g t5=>Xl g t4 t5 H fun g t79=>JN (fun (k:Bool->AV->AV->AV->AV->AV->AV->AV->AV->AHeap->Prop)=>B3 g (wantV false (some t79)) fun g w=>IG3 g w (fun g=>Ly g E 6 fun g t6=>B3 g ((Op.fieldAddr 2) [t6]) fun g t82=>B3 g (Op.load1 [t82] H) fun g t83=>Ly g E 8 fun g t8=>B3 g ((Op.indexSl 1) [t83,t8]) fun g t85=>B3 g (Op.load1 [t85] H) fun g t86=>B3 g ((Op.indexSl 1) [t4,t86]) fun g t87=>B3 g (Op.load1 [t87] H) fun g t88=>k g t88 t87 t86 t85 t8 t83 t82 t4 H) (fun g=>k g uu uu uu uu uu uu uu uu H)) (fun g t88_1 t87_1 t86_1 t85_1 t84_1 t83_1 t82_1 t81_1 H1=>B3 g (Op.pick [t79,(.bool true),t88_1]) fun g t89=>Xs g t4 t5 t89 H1 fun g u H2=>GO3 g Q .normal E D H2)):=by (repeat' apply And.intro)<;>(intro _ _ _ _;refine W_unf ?_;kernel_rfl)
theorem qy4:(cProg Tryd.prog).func qbv=some ql7/\ql7.results=[.tmp 2]:=xv (by kernel_rfl)
theorem qy5 (h:W M ⟨none,qbv⟩ (xi 0) true (FIN3 M [.tmp 2] Q) [(0,a0)] [] H):vt M qbv [a0] H Q:=callf (by decide) qy4 (ks:=qrt) (by kernel_rfl) h
def qkl:AFunc:=funcAt Tryd.prog vl
def qo9:Kp:=⟨[0,1,2,6,7,8,9,35],false,[0,4,9,15,21,33,38,46,47,56,57,58]⟩
def zg (k:Nat):Kp × ACode:=(qo9,part qkl.body k)
theorem qpa (M:Mac) (c:Ctx):(∀ Q E D H,W M c (zg 0) true Q E D H =
 W M c (zg 4) true Q ((7,(.str []))::(6,(.str []))::E) D H) /\
 (∀ Q E D H,W M c (zg 4) true Q E D H =
  LOOP3 (W M c (zg 9)) (BLK3 0 (SEQ3 (W M c (zg 58)) Q)) ((8,(.int .i64 0))::E) D H) /\
 (∀ Q E D H,W M c (zg 58) true Q E D H =
  Lz E 7 fun g t7=>GO3 g Q .ret ((6,t7)::E) D H) /\
 (∀ Q E D H,W M c (zg 9) true Q E D H =
  Lz E 8 fun g t8=>Ly g E 0 fun g t0=>Ly g E 1 fun g t1=>B3 g ((Op.indexSl 3) [t0,t1]) fun g t13=>Fl g 2 t13 H fun g t15=>B3 g (Op.lenSl [t15]) fun g t16=>Cb g .lss t8 t16 (fun g=>Gt g M c (zg 15) Q E D H) (fun g=>GO3 g (SEQ3 (W M c (zg 15)) Q) (.exit 0) E D H)) /\
 (∀ Q E D H,W M c (zg 15) true Q E D H =
  Lz E 0 fun g t0=>Ly g E 1 fun g t1=>B3 g ((Op.indexSl 3) [t0,t1]) fun g t23=>Fl g 2 t23 H fun g t25=>Ly g E 8 fun g t8=>Xl g t25 t8 H fun g t28=>B3 g ((Op.indexSl 3) [t0,t28]) fun g t29=>B3 g ((Op.loadN 3) [t29] H) fun g t30=>A3 g qo [(.int .i64 0),(.int .u64 0),.nils] H fun g t9 H1=>B32 g ((Op.store 3) [t9,t30] H1) fun g u H2=>Ly g E 7 fun g t7=>Ly g E 2 fun g t2=>Bn g .add t7 t2 fun g t33=>W M c (zg 21) g (BLK3 1 (SEQ3 (W M c (zg 57)) Q)) ((7,t33)::(9,t9)::E) D H2) /\
 (∀ Q E D H,W M c (zg 57) true Q E D H =
  Lz E 8 fun g t8=>Bn g .add t8 (.int .i64 1) fun g t19=>GO3 g Q .normal ((8,t19)::E) D H) /\
 (∀ Q E D H,W M c (zg 21) true Q E D H =
  Lz E 9 fun g t9=>Fl g 0 t9 H fun g t35=>Cb g .eql t35 (.int .i64 14) (fun g=>Ly g E 7 fun g t7=>Ly g E 9 fun g t9_1=>Fl g 1 t9_1 H fun g t40=>Ly g E 0 fun g t0=>B3 g ((Op.fieldAddr 2) [t9_1]) fun g t45=>B3 g (Op.load1 [t45] H) fun g t46=>B3 g ((Op.indexSl 1) [t46,(.int .i64 0)]) fun g t47=>B3 g (Op.load1 [t47] H) fun g t48=>C3 M g (.func qch) [t40] H fun g t41 H1=>CK3 g (Op.load1 [t45] H1) (some t46) fun g=>CK3 g (Op.load1 [t47] H1) (some t48) fun g=>Bn g .add t7 t41 fun g t42=>Bn g .add t42 (.str [32,61,32]) fun g t43=>C3 M g (.func wo) [t0,t48,(.int .i64 0)] H1 fun g t49 H2=>Bn g .add t43 t49 fun g t50=>Bn g .add t50 (.str [59]) fun g t51=>GO3 g (BLK3 2 (SEQ3 (W M c (zg 56)) Q)) .normal ((7,t51)::(35,t35)::E) D H2) (fun g=>Cb g .eql t35 (.int .i64 15) (fun g=>Ly g E 7 fun g t7=>Bn g .add t7 (.str [115,116,111,114,101,40]) fun g t55=>Ly g E 0 fun g t0=>Ly g E 9 fun g t9_1=>Fl g 2 t9_1 H fun g t58=>Xl g t58 (.int .i64 0) H fun g t60=>B3 g ((Op.fieldAddr 2) [t9_1]) fun g t65=>B3 g (Op.load1 [t65] H) fun g t66=>B3 g ((Op.indexSl 1) [t66,(.int .i64 1)]) fun g t67=>B3 g (Op.load1 [t67] H) fun g t68=>C3 M g (.func wo) [t0,t60,(.int .i64 0)] H fun g t61 H1=>CK3 g (Op.load1 [t65] H1) (some t66) fun g=>CK3 g (Op.load1 [t67] H1) (some t68) fun g=>Bn g .add t55 t61 fun g t62=>Bn g .add t62 (.str [44,32]) fun g t63=>C3 M g (.func wo) [t0,t68,(.int .i64 0)] H1 fun g t69 H2=>Bn g .add t63 t69 fun g t70=>Bn g .add t70 (.str [41,59]) fun g t71=>GO3 g (BLK3 2 (SEQ3 (W M c (zg 56)) Q)) .normal ((7,t71)::(35,t35)::E) D H2) (fun g=>W M c (zg 33) g (BLK3 2 (SEQ3 (W M c (zg 56)) Q)) ((35,t35)::E) D H))) /\
 (∀ Q E D H,W M c (zg 56) true Q E D H =
  Lz E 7 fun g t7=>Bn g .add t7 (.str [10]) fun g t159=>GO3 g Q .normal ((7,t159)::E) D H) /\
 (∀ Q E D H,W M c (zg 33) true Q E D H =
  Lz E 35 fun g t35=>Cb g .eql t35 (.int .i64 16) (fun g=>Ly g E 7 fun g t7=>Bn g .add t7 (.str [105,102,32,40]) fun g t75=>Ly g E 0 fun g t0=>Ly g E 9 fun g t9=>Fl g 2 t9 H fun g t78=>Xl g t78 (.int .i64 0) H fun g t80=>B3 g ((Op.fieldAddr 2) [t9]) fun g t85=>B3 g (Op.load1 [t85] H) fun g t86=>B3 g ((Op.indexSl 1) [t86,(.int .i64 1)]) fun g t87=>B3 g (Op.load1 [t87] H) fun g t88=>Ly g E 2 fun g t2=>Bn g .add t2 (.str [32,32]) fun g t90=>C3 M g (.func qdu) [t0,t80] H fun g t81 H1=>CK3 g (Op.load1 [t85] H1) (some t86) fun g=>CK3 g (Op.load1 [t87] H1) (some t88) fun g=>Bn g .add t75 t81 fun g t82=>Bn g .add t82 (.str [41,32,123,10]) fun g t83=>C3 M g (.func vl) [t0,t88,t90] H1 fun g t91 H2=>Bn g .add t83 t91 fun g t92=>Bn g .add t92 t2 fun g t94=>Bn g .add t94 (.str [125]) fun g t95=>W M c (zg 38) g Q ((7,t95)::E) D H2) (fun g=>Ly g E 35 fun g t35_1=>Cb g .eql t35_1 (.int .i64 17) (fun g=>W M c (zg 46) g Q E D H) (fun g=>W M c (zg 47) g Q E D H))) /\
 (∀ Q E D H,W M c (zg 38) true Q E D H =
  Lz E 9 fun g t9=>Fl g 2 t9 H fun g t97=>B3 g (Op.lenSl [t97]) fun g t98=>Cb g .eql t98 (.int .i64 3) (fun g=>Ly g E 7 fun g t7=>Bn g .add t7 (.str [32,101,108,115,101,32,123,10]) fun g t101=>Ly g E 0 fun g t0=>Ly g E 9 fun g t9_1=>Fl g 2 t9_1 H fun g t104=>Xl g t104 (.int .i64 2) H fun g t106=>Ly g E 2 fun g t2=>Bn g .add t2 (.str [32,32]) fun g t108=>C3 M g (.func vl) [t0,t106,t108] H fun g t109 H1=>Bn g .add t101 t109 fun g t110=>Bn g .add t110 t2 fun g t112=>Bn g .add t112 (.str [125]) fun g t113=>GO3 g Q .normal ((7,t113)::E) D H1) (fun g=>GO3 g Q .normal E D H)) /\
 (∀ Q E D H,W M c (zg 46) true Q E D H =
  Lz E 7 fun g t7=>Bn g .add t7 (.str [119,104,105,108,101,32,40]) fun g t117=>Ly g E 0 fun g t0=>Ly g E 9 fun g t9=>Fl g 2 t9 H fun g t120=>Xl g t120 (.int .i64 0) H fun g t122=>B3 g ((Op.fieldAddr 2) [t9]) fun g t127=>B3 g (Op.load1 [t127] H) fun g t128=>B3 g ((Op.indexSl 1) [t128,(.int .i64 1)]) fun g t129=>B3 g (Op.load1 [t129] H) fun g t130=>Ly g E 2 fun g t2=>Bn g .add t2 (.str [32,32]) fun g t132=>C3 M g (.func qdu) [t0,t122] H fun g t123 H1=>CK3 g (Op.load1 [t127] H1) (some t128) fun g=>CK3 g (Op.load1 [t129] H1) (some t130) fun g=>Bn g .add t117 t123 fun g t124=>Bn g .add t124 (.str [41,32,123,10]) fun g t125=>C3 M g (.func vl) [t0,t130,t132] H1 fun g t133 H2=>Bn g .add t125 t133 fun g t134=>Bn g .add t134 t2 fun g t136=>Bn g .add t136 (.str [125]) fun g t137=>GO3 g Q .normal ((7,t137)::E) D H2) /\
 (∀ Q E D H,W M c (zg 47) true Q E D H =
  Lz E 35 fun g t35=>Cb g .eql t35 (.int .i64 18) (fun g=>Ly g E 7 fun g t7=>Bn g .add t7 (.str [97,116,111,109,105,99,32,123,10]) fun g t141=>Ly g E 0 fun g t0=>Ly g E 9 fun g t9=>Fl g 2 t9 H fun g t144=>Xl g t144 (.int .i64 0) H fun g t146=>Ly g E 2 fun g t2=>Bn g .add t2 (.str [32,32]) fun g t148=>C3 M g (.func vl) [t0,t146,t148] H fun g t149 H1=>Bn g .add t141 t149 fun g t150=>Bn g .add t150 t2 fun g t152=>Bn g .add t152 (.str [125]) fun g t153=>GO3 g Q .normal ((7,t153)::E) D H1) (fun g=>Ly g E 35 fun g t35_1=>Cb g .eql t35_1 (.int .i64 19) (fun g=>Ly g E 7 fun g t7=>Bn g .add t7 (.str [104,97,108,116,59]) fun g t157=>GO3 g Q .normal ((7,t157)::E) D H) (fun g=>GO3 g Q .normal E D H))):=by (repeat' apply And.intro)<;>(intro _ _ _ _;refine W_unf ?_;kernel_rfl)
theorem qxh:(cProg Tryd.prog).func vl=some qkl/\qkl.results=[.tmp 6]:=xv (by kernel_rfl)
theorem qxi (h:W M ⟨none,vl⟩ (zg 0) true (FIN3 M [.tmp 6] Q) [(0,a0),(1,a1),(2,a2)] [] H):vt M vl [a0,a1,a2] H Q:=callf (by decide) qxh (ks:=qo9) (by kernel_rfl) h
def qjh:AFunc:=funcAt Tryd.prog qc1
def qnb:Kp:=⟨[0,2],false,[0,2,10,18,26,34]⟩
def kr (k:Nat):Kp × ACode:=(qnb,part qjh.body k)
theorem qeb (M:Mac) (c:Ctx):(∀ Q E D H,W M c (kr 0) true Q E D H =
 W M c (kr 2) true Q ((2,(.int .i64 0))::E) D H) /\
 (∀ Q E D H,W M c (kr 2) true Q E D H =
  Lz E 0 fun g t0=>Bn g .lss t0 (.int .i64 1) fun g t4=>JN (fun (k:Bool->AV->AV->AHeap->Prop)=>B3 g (wantV false (some t4)) fun g w=>IG3 g w (fun g=>Bn g .gtr t0 (.int .i64 20) fun g t7=>k g t7 t0 H) (fun g=>k g uu uu H)) (fun g t7_1 t6_1 H1=>B3 g (Op.pick [t4,(.bool true),t7_1]) fun g t8=>IF3 g t8 (fun g=>GO3 g (SEQ3 (W M c (kr 10)) Q) .ret ((2,(.int .i64 0))::E) D H1) (fun g=>Gt g M c (kr 10) Q E D H1))) /\
 (∀ Q E D H,W M c (kr 10) true Q E D H =
  Lz E 0 fun g t0=>Cb g .leq t0 (.int .i64 10) (fun g=>GO3 g (SEQ3 (W M c (kr 18)) Q) .ret ((2,(.int .i64 1))::E) D H) (fun g=>Gt g M c (kr 18) Q E D H)) /\
 (∀ Q E D H,W M c (kr 18) true Q E D H =
  Lz E 0 fun g t0=>Cb g .leq t0 (.int .i64 13) (fun g=>GO3 g (SEQ3 (W M c (kr 26)) Q) .ret ((2,(.int .i64 2))::E) D H) (fun g=>Gt g M c (kr 26) Q E D H)) /\
 (∀ Q E D H,W M c (kr 26) true Q E D H =
  Lz E 0 fun g t0=>Cb g .leq t0 (.int .i64 19) (fun g=>GO3 g (SEQ3 (W M c (kr 34)) Q) .ret ((2,(.int .i64 3))::E) D H) (fun g=>Gt g M c (kr 34) Q E D H)) /\
 (∀ Q E D H,W M c (kr 34) true Q E D H =
  GO3 true Q .ret ((2,(.int .i64 4))::E) D H):=by (repeat' apply And.intro)<;>(intro _ _ _ _;refine W_unf ?_;kernel_rfl)
theorem qur:(cProg Tryd.prog).func qc1=some qjh/\qjh.results=[.tmp 2]:=xv (by kernel_rfl)
theorem qus (h:W M ⟨none,qc1⟩ (kr 0) true (FIN3 M [.tmp 2] Q) [(0,a0)] [] H):vt M qc1 [a0] H Q:=callf (by decide) qur (ks:=qnb) (by kernel_rfl) h
def qkk:AFunc:=funcAt Tryd.prog wq
def qo7:Kp:=⟨[0,1,3,4,5,6,7,8,9],false,[0,4,12,14,20,26,32,40,45,51,57,63,69,75,81,88,89]⟩
def qz (k:Nat):Kp × ACode:=(qo7,part qkk.body k)
theorem qo8 (M:Mac) (c:Ctx):(∀ Q E D H,W M c (qz 0) true Q E D H =
 Lz E 1 fun g t1=>A3 g qo (AV.cells t1) H fun g t3 H1=>Fl g 0 t3 H1 fun g t11=>Bn g .eql t11 (.int .i64 2) fun g t12=>JN (fun (k:Bool->AV->AV->AV->AHeap->Prop)=>B3 g (wantV false (some t12)) fun g w=>IG3 g w (fun g=>B3 g ((Op.fieldAddr 0) [t3]) fun g t14=>B3 g (Op.load1 [t14] H1) fun g t15=>Bn g .eql t15 (.int .i64 14) fun g t16=>k g t16 t15 t14 H1) (fun g=>k g uu uu uu H1)) (fun g t16_1 t15_1 t14_1 H2=>B3 g (Op.pick [t12,(.bool true),t16_1]) fun g t17=>W M c (qz 4) g Q ((5,t17)::(4,(.bool false))::(3,t3)::E) D H2)) /\
 (∀ Q E D H,W M c (qz 4) true Q E D H =
  Lz E 5 fun g t5=>JN (fun (k:Bool->AV->AV->AV->AHeap->Prop)=>B3 g (wantV true (some t5)) fun g w=>IG3 g w (fun g=>Ly g E 3 fun g t3=>B3 g ((Op.fieldAddr 1) [t3]) fun g t20=>B3 g (Op.load1 [t20] H) fun g t21=>Bn g .gtr t21 (.int .u64 7) fun g t22=>k g t22 t21 t20 H) (fun g=>k g uu uu uu H)) (fun g t22_1 t21_1 t20_1 H1=>B3 g (Op.pick [t5,t22_1,(.bool false)]) fun g t23=>JN (fun (k:Bool->AV->AV->AV->AHeap->Prop)=>B3 g (wantV false (some t23)) fun g w=>IG3 g w (fun g=>B3 g ((Op.un .not) [t5]) fun g t26=>k g t26 t26 t5 H1) (fun g=>k g uu uu uu H1)) (fun g t27_1 t26_1 t25_1 H2=>JN (fun (k:Bool->AV->AV->AV->AHeap->Prop)=>B3 g (wantV true (some t27_1)) fun g w=>IG3 g w (fun g=>Ly g E 3 fun g t3_1=>B3 g ((Op.fieldAddr 0) [t3_1]) fun g t28=>B3 g (Op.load1 [t28] H2) fun g t29=>Bn g .neq t29 (.int .i64 1) fun g t30=>k g t30 t29 t28 H2) (fun g=>k g uu uu uu H2)) (fun g t30_1 t29_1 t28_1 H3=>JN (fun (k:Bool->AV->AV->AHeap->Prop)=>B3 g (wantV false (some t23)) fun g w=>IG3 g w (fun g=>B3 g (Op.pick [t27_1,t30_1,(.bool false)]) fun g t31=>k g t31 t31 H3) (fun g=>k g uu uu H3)) (fun g t32_1 t31_1 H4=>JN (fun (k:Bool->AV->AV->AV->AHeap->Prop)=>B3 g (wantV true (some t32_1)) fun g w=>IG3 g w (fun g=>Ly g E 3 fun g t3_2=>B3 g ((Op.fieldAddr 1) [t3_2]) fun g t33=>B3 g (Op.load1 [t33] H4) fun g t34=>Bn g .neq t34 (.int .u64 0) fun g t35=>k g t35 t34 t33 H4) (fun g=>k g uu uu uu H4)) (fun g t35_1 t34_1 t33_1 H5=>JN (fun (k:Bool->AV->AHeap->Prop)=>B3 g (wantV false (some t23)) fun g w=>IG3 g w (fun g=>B3 g (Op.pick [t32_1,t35_1,(.bool false)]) fun g t36=>k g t36 H5) (fun g=>k g uu H5)) (fun g t36_1 H6=>B3 g (Op.pick [t23,(.bool true),t36_1]) fun g t37=>IF3 g t37 (fun g=>GO3 g (SEQ3 (W M c (qz 12)) Q) .ret ((4,(.bool false))::E) D H6) (fun g=>Gt g M c (qz 12) Q E D H6)))))))) /\
 (∀ Q E D H,W M c (qz 12) true Q E D H =
  W M c (qz 14) true Q ((6,(.int .i64 2))::E) D H) /\
 (∀ Q E D H,W M c (qz 14) true Q E D H =
  Lz E 3 fun g t3=>Fl g 0 t3 H fun g t39=>Bn g .leq t39 (.int .i64 2) fun g t40=>JN (fun (k:Bool->AV->AV->AV->AHeap->Prop)=>B3 g (wantV false (some t40)) fun g w=>IG3 g w (fun g=>B3 g ((Op.fieldAddr 0) [t3]) fun g t42=>B3 g (Op.load1 [t42] H) fun g t43=>Bn g .eql t43 (.int .i64 19) fun g t44=>k g t44 t43 t42 H) (fun g=>k g uu uu uu H)) (fun g t44_1 t43_1 t42_1 H1=>B3 g (Op.pick [t40,(.bool true),t44_1]) fun g t45=>IF3 g t45 (fun g=>Gt g M c (qz 20) Q ((6,(.int .i64 0))::E) D H1) (fun g=>Gt g M c (qz 20) Q E D H1))) /\
 (∀ Q E D H,W M c (qz 20) true Q E D H =
  Lz E 3 fun g t3=>Fl g 0 t3 H fun g t47=>Bn g .eql t47 (.int .i64 3) fun g t48=>JN (fun (k:Bool->AV->AV->AV->AHeap->Prop)=>B3 g (wantV false (some t48)) fun g w=>IG3 g w (fun g=>B3 g ((Op.fieldAddr 0) [t3]) fun g t50=>B3 g (Op.load1 [t50] H) fun g t51=>Bn g .eql t51 (.int .i64 14) fun g t52=>k g t52 t51 t50 H) (fun g=>k g uu uu uu H)) (fun g t52_1 t51_1 t50_1 H1=>B3 g (Op.pick [t48,(.bool true),t52_1]) fun g t53=>JN (fun (k:Bool->AV->AV->AV->AHeap->Prop)=>B3 g (wantV false (some t53)) fun g w=>IG3 g w (fun g=>B3 g ((Op.fieldAddr 0) [t3]) fun g t55=>B3 g (Op.load1 [t55] H1) fun g t56=>Bn g .eql t56 (.int .i64 18) fun g t57=>k g t57 t56 t55 H1) (fun g=>k g uu uu uu H1)) (fun g t57_1 t56_1 t55_1 H2=>B3 g (Op.pick [t53,(.bool true),t57_1]) fun g t58=>IF3 g t58 (fun g=>Gt g M c (qz 26) Q ((6,(.int .i64 1))::E) D H2) (fun g=>Gt g M c (qz 26) Q E D H2)))) /\
 (∀ Q E D H,W M c (qz 26) true Q E D H =
  Lz E 3 fun g t3=>Fl g 0 t3 H fun g t60=>Bn g .eql t60 (.int .i64 16) fun g t61=>JN (fun (k:Bool->AV->AV->AV->AV->AHeap->Prop)=>B3 g (wantV true (some t61)) fun g w=>IG3 g w (fun g=>B3 g ((Op.fieldAddr 2) [t3]) fun g t63=>B3 g (Op.load1 [t63] H) fun g t64=>B3 g (Op.lenSl [t64]) fun g t65=>Bn g .eql t65 (.int .i64 3) fun g t66=>k g t66 t65 t64 t63 H) (fun g=>k g uu uu uu uu H)) (fun g t66_1 t65_1 t64_1 t63_1 H1=>B3 g (Op.pick [t61,t66_1,(.bool false)]) fun g t67=>IF3 g t67 (fun g=>Gt g M c (qz 32) Q ((6,(.int .i64 3))::E) D H1) (fun g=>Gt g M c (qz 32) Q E D H1))) /\
 (∀ Q E D H,W M c (qz 32) true Q E D H =
  Lz E 3 fun g t3=>Fl g 0 t3 H fun g t69=>Bn g .neq t69 (.int .i64 20) fun g t70=>JN (fun (k:Bool->AV->AV->AV->AV->AV->AHeap->Prop)=>B3 g (wantV true (some t70)) fun g w=>IG3 g w (fun g=>B3 g ((Op.fieldAddr 2) [t3]) fun g t72=>B3 g (Op.load1 [t72] H) fun g t73=>B3 g (Op.lenSl [t73]) fun g t74=>Ly g E 6 fun g t6=>Bn g .neq t74 t6 fun g t76=>k g t76 t6 t74 t73 t72 H) (fun g=>k g uu uu uu uu uu H)) (fun g t76_1 t75_1 t74_1 t73_1 t72_1 H1=>B3 g (Op.pick [t70,t76_1,(.bool false)]) fun g t77=>IF3 g t77 (fun g=>GO3 g (SEQ3 (W M c (qz 40)) Q) .ret ((4,(.bool false))::E) D H1) (fun g=>Gt g M c (qz 40) Q E D H1))) /\
 (∀ Q E D H,W M c (qz 40) true Q E D H =
  LOOP3 (W M c (qz 45)) (BLK3 0 (SEQ3 (W M c (qz 89)) Q)) ((7,(.int .i64 0))::E) D H) /\
 (∀ Q E D H,W M c (qz 89) true Q E D H =
  GO3 true Q .ret ((4,(.bool true))::E) D H) /\
 (∀ Q E D H,W M c (qz 45) true Q E D H =
  Lz E 7 fun g t7=>Ly g E 3 fun g t3=>Fl g 2 t3 H fun g t80=>B3 g (Op.lenSl [t80]) fun g t81=>Cb g .lss t7 t81 (fun g=>Gt g M c (qz 51) Q E D H) (fun g=>GO3 g (SEQ3 (W M c (qz 51)) Q) (.exit 0) E D H)) /\
 (∀ Q E D H,W M c (qz 51) true Q E D H =
  Lz E 0 fun g t0=>Ly g E 3 fun g t3=>Fl g 2 t3 H fun g t87=>Ly g E 7 fun g t7=>Xl g t87 t7 H fun g t90=>B3 g ((Op.indexSl 3) [t0,t90]) fun g t91=>Fl g 0 t91 H fun g t93=>C3 M g (.func qc1) [t93] H fun g t94 H1=>W M c (qz 57) g (BLK3 1 (SEQ3 (W M c (qz 88)) Q)) ((9,(.int .i64 1))::(8,t94)::E) D H1) /\
 (∀ Q E D H,W M c (qz 88) true Q E D H =
  Lz E 7 fun g t7=>Bn g .add t7 (.int .i64 1) fun g t84=>GO3 g Q .normal ((7,t84)::E) D H) /\
 (∀ Q E D H,W M c (qz 57) true Q E D H =
  Lz E 3 fun g t3=>Fl g 0 t3 H fun g t96=>Bn g .eql t96 (.int .i64 16) fun g t97=>JN (fun (k:Bool->AV->AV->AV->AHeap->Prop)=>B3 g (wantV false (some t97)) fun g w=>IG3 g w (fun g=>B3 g ((Op.fieldAddr 0) [t3]) fun g t99=>B3 g (Op.load1 [t99] H) fun g t100=>Bn g .eql t100 (.int .i64 17) fun g t101=>k g t101 t100 t99 H) (fun g=>k g uu uu uu H)) (fun g t101_1 t100_1 t99_1 H1=>B3 g (Op.pick [t97,(.bool true),t101_1]) fun g t102=>IF3 g t102 (fun g=>W M c (qz 63) g (SEQ3 (W M c (qz 69)) Q) ((9,(.int .i64 4))::E) D H1) (fun g=>Gt g M c (qz 69) Q E D H1))) /\
 (∀ Q E D H,W M c (qz 69) true Q E D H =
  Lz E 3 fun g t3=>Fl g 0 t3 H fun g t106=>Cb g .eql t106 (.int .i64 18) (fun g=>Gt g M c (qz 75) Q ((9,(.int .i64 4))::E) D H) (fun g=>Gt g M c (qz 75) Q E D H)) /\
 (∀ Q E D H,W M c (qz 63) true Q E D H =
  Lz E 7 fun g t7=>Cb g .eql t7 (.int .i64 0) (fun g=>GO3 g Q .normal ((9,(.int .i64 2))::E) D H) (fun g=>GO3 g Q .normal E D H)) /\
 (∀ Q E D H,W M c (qz 75) true Q E D H =
  Lz E 3 fun g t3=>Fl g 0 t3 H fun g t109=>Cb g .eql t109 (.int .i64 20) (fun g=>Gt g M c (qz 81) Q ((9,(.int .i64 3))::E) D H) (fun g=>Gt g M c (qz 81) Q E D H)) /\
 (∀ Q E D H,W M c (qz 81) true Q E D H =
  Lz E 8 fun g t8=>Ly g E 9 fun g t9=>Cb g .neq t8 t9 (fun g=>GO3 g Q .ret ((4,(.bool false))::E) D H) (fun g=>GO3 g Q .normal E D H)):=by (repeat' apply And.intro)<;>(intro _ _ _ _;refine W_unf ?_;kernel_rfl)
theorem qxf:(cProg Tryd.prog).func wq=some qkk/\qkk.results=[.tmp 4]:=xv (by kernel_rfl)
theorem qxg (h:W M ⟨none,wq⟩ (qz 0) true (FIN3 M [.tmp 4] Q) [(0,a0),(1,a1)] [] H):vt M wq [a0,a1] H Q:=callf (by decide) qxf (ks:=qo7) (by kernel_rfl) h
def qig:AFunc:=funcAt Tryd.prog qch
def qlp:Kp:=⟨[0,2],false,[0]⟩
def qlq (k:Nat):Kp × ACode:=(qlp,part qig.body k)
theorem qsk (M:Mac) (c:Ctx):(∀ Q E D H,W M c (qlq 0) true Q E D H =
 Lz E 0 fun g t0=>Bn g .add (.int .u64 97) t0 fun g t4=>B3 g ((Op.wrap .u8) [t4]) fun g t5=>B32 g ((Op.buildSlice qbd 1 [(.int .u8 0)] [(0,1)]) [t5]) fun g o1 k1=>B3 g (Op.strOfBytes [(k1 H.next)] (H.alloc o1)) fun g t7=>GO3 g Q .ret ((2,t7)::(2,(.str []))::E) D (H.alloc o1)):=by intro _ _ _ _;refine W_unf ?_;kernel_rfl
theorem qsi:(cProg Tryd.prog).func qch=some qig/\qig.results=[.tmp 2]:=xv (by kernel_rfl)
theorem qsj (h:W M ⟨none,qch⟩ (qlq 0) true (FIN3 M [.tmp 2] Q) [(0,a0)] [] H):vt M qch [a0] H Q:=callf (by decide) qsi (ks:=qlp) (by kernel_rfl) h
def qkj:AFunc:=funcAt Tryd.prog wo
def qo6:Kp:=⟨[0,1,2,6,7,8,9,10,11],false,[0,4,12,20,28,32,34,42]⟩
def jv (k:Nat):Kp × ACode:=(qo6,part qkj.body k)
theorem qa1 (M:Mac) (c:Ctx):(∀ Q E D H,W M c (jv 0) true Q E D H =
 Lz E 0 fun g t0=>Ly g E 1 fun g t1=>B3 g ((Op.indexSl 3) [t0,t1]) fun g t14=>B3 g ((Op.loadN 3) [t14] H) fun g t15=>A3 g qo [(.int .i64 0),(.int .u64 0),.nils] H fun g t7 H1=>B32 g ((Op.store 3) [t7,t15] H1) fun g u H2=>W M c (jv 4) g Q ((7,t7)::(6,(.str []))::E) D H2) /\
 (∀ Q E D H,W M c (jv 4) true Q E D H =
  Lz E 7 fun g t7=>Fl g 0 t7 H fun g t17=>Cb g .eql t17 (.int .i64 1) (fun g=>Ly g E 7 fun g t7_1=>Fl g 1 t7_1 H fun g t20=>C3 M g (.func qcg) [t20] H fun g t21 H1=>GO3 g (SEQ3 (W M c (jv 12)) Q) .ret ((6,t21)::E) D H1) (fun g=>Gt g M c (jv 12) Q E D H)) /\
 (∀ Q E D H,W M c (jv 12) true Q E D H =
  Lz E 7 fun g t7=>Fl g 0 t7 H fun g t23=>Cb g .eql t23 (.int .i64 2) (fun g=>Ly g E 7 fun g t7_1=>Fl g 1 t7_1 H fun g t26=>C3 M g (.func qch) [t26] H fun g t27 H1=>GO3 g (SEQ3 (W M c (jv 20)) Q) .ret ((6,t27)::E) D H1) (fun g=>Gt g M c (jv 20) Q E D H)) /\
 (∀ Q E D H,W M c (jv 20) true Q E D H =
  Lz E 7 fun g t7=>Fl g 0 t7 H fun g t29=>Cb g .eql t29 (.int .i64 3) (fun g=>Ly g E 0 fun g t0=>Ly g E 7 fun g t7_1=>Fl g 2 t7_1 H fun g t33=>Xl g t33 (.int .i64 0) H fun g t35=>C3 M g (.func wo) [t0,t35,(.int .i64 0)] H fun g t36 H1=>Bn g .add (.str [108,111,97,100,40]) t36 fun g t37=>Bn g .add t37 (.str [41]) fun g t38=>GO3 g (SEQ3 (W M c (jv 28)) Q) .ret ((6,t38)::E) D H1) (fun g=>Gt g M c (jv 28) Q E D H)) /\
 (∀ Q E D H,W M c (jv 28) true Q E D H =
  Lz E 7 fun g t7=>Fl g 0 t7 H fun g t41=>C3 M g (.func qdf) [t41] H fun g t42 H1=>B3 g ((Op.extract 0) [t42]) fun g t43=>B3 g ((Op.extract 1) [t42]) fun g t44=>Ly g E 0 fun g t0=>Ly g E 7 fun g t7_1=>Fl g 2 t7_1 H1 fun g t47=>Xl g t47 (.int .i64 0) H1 fun g t49=>C3 M g (.func wo) [t0,t49,t44] H1 fun g t51 H2=>W M c (jv 32) g Q ((10,t51)::(9,t44)::(8,t43)::E) D H2) /\
 (∀ Q E D H,W M c (jv 32) true Q E D H =
  Lz E 0 fun g t0=>Ly g E 7 fun g t7=>Fl g 2 t7 H fun g t54=>Xl g t54 (.int .i64 1) H fun g t56=>Ly g E 9 fun g t9=>Bn g .add t9 (.int .i64 1) fun g t58=>C3 M g (.func wo) [t0,t56,t58] H fun g t59 H1=>W M c (jv 34) g Q ((11,t59)::E) D H1) /\
 (∀ Q E D H,W M c (jv 34) true Q E D H =
  Lz E 9 fun g t9=>Ly g E 2 fun g t2=>Cb g .lss t9 t2 (fun g=>Ly g E 10 fun g t10=>Bn g .add (.str [40]) t10 fun g t64=>Bn g .add t64 (.str [32]) fun g t65=>Ly g E 8 fun g t8=>Bn g .add t65 t8 fun g t67=>Bn g .add t67 (.str [32]) fun g t68=>Ly g E 11 fun g t11=>Bn g .add t68 t11 fun g t70=>Bn g .add t70 (.str [41]) fun g t71=>GO3 g (SEQ3 (W M c (jv 42)) Q) .ret ((6,t71)::E) D H) (fun g=>Gt g M c (jv 42) Q E D H)) /\
 (∀ Q E D H,W M c (jv 42) true Q E D H =
  Lz E 10 fun g t10=>Bn g .add t10 (.str [32]) fun g t73=>Ly g E 8 fun g t8=>Bn g .add t73 t8 fun g t75=>Bn g .add t75 (.str [32]) fun g t76=>Ly g E 11 fun g t11=>Bn g .add t76 t11 fun g t78=>GO3 g Q .ret ((6,t78)::E) D H):=by (repeat' apply And.intro)<;>(intro _ _ _ _;refine W_unf ?_;kernel_rfl)
theorem qxe:(cProg Tryd.prog).func wo=some qkj/\qkj.results=[.tmp 6]:=xv (by kernel_rfl)
theorem qic (h:W M ⟨none,wo⟩ (jv 0) true (FIN3 M [.tmp 6] Q) [(0,a0),(1,a1),(2,a2)] [] H):vt M wo [a0,a1,a2] H Q:=callf (by decide) qxe (ks:=qo6) (by kernel_rfl) h
def qkh:AFunc:=funcAt Tryd.prog qdu
def qo5:Kp:=⟨[0,1,4,5],false,[0,4]⟩
def qib (k:Nat):Kp × ACode:=(qo5,part qkh.body k)
theorem qki (M:Mac) (c:Ctx):(∀ Q E D H,W M c (qib 0) true Q E D H =
 B32 true ((Op.buildSlice yv 3 [(.str [])] [(0,1),(1,1),(2,1)]) [(.str [32,61,61,32]),(.str [32,33,61,32]),(.str [32,60,32])]) fun g o1 k1=>W M c (qib 4) g Q ((5,(k1 H.next))::(4,(.str []))::E) D (H.alloc o1)) /\
 (∀ Q E D H,W M c (qib 4) true Q E D H =
  Lz E 0 fun g t0=>Ly g E 1 fun g t1=>B3 g ((Op.indexSl 3) [t0,t1]) fun g t10=>Fl g 2 t10 H fun g t12=>Xl g t12 (.int .i64 0) H fun g t14=>Ly g E 5 fun g t5=>B3 g ((Op.indexSl 3) [t0,t1]) fun g t19=>B3 g ((Op.fieldAddr 0) [t19]) fun g t20=>B3 g (Op.load1 [t20] H) fun g t21=>Bn g .sub t21 (.int .i64 11) fun g t22=>B3 g ((Op.indexSl 1) [t5,t22]) fun g t23=>B3 g (Op.load1 [t23] H) fun g t24=>B3 g ((Op.indexSl 3) [t0,t1]) fun g t29=>B3 g ((Op.fieldAddr 2) [t29]) fun g t30=>B3 g (Op.load1 [t30] H) fun g t31=>B3 g ((Op.indexSl 1) [t31,(.int .i64 1)]) fun g t32=>B3 g (Op.load1 [t32] H) fun g t33=>C3 M g (.func wo) [t0,t14,(.int .i64 0)] H fun g t15 H1=>CK3 g (Op.load1 [t20] H1) (some t21) fun g=>CK3 g (Op.load1 [t23] H1) (some t24) fun g=>CK3 g (Op.load1 [t30] H1) (some t31) fun g=>CK3 g (Op.load1 [t32] H1) (some t33) fun g=>Bn g .add t15 t24 fun g t25=>C3 M g (.func wo) [t0,t33,(.int .i64 0)] H1 fun g t34 H2=>CK3 g (Op.load1 [t20] H2) (some t21) fun g=>CK3 g (Op.load1 [t23] H2) (some t24) fun g=>Bn g .add t25 t34 fun g t35=>GO3 g Q .ret ((4,t35)::E) D H2):=by (repeat' apply And.intro)<;>(intro _ _ _ _;refine W_unf ?_;kernel_rfl)
theorem qxc:(cProg Tryd.prog).func qdu=some qkh/\qkh.results=[.tmp 4]:=xv (by kernel_rfl)
theorem qxd (h:W M ⟨none,qdu⟩ (qib 0) true (FIN3 M [.tmp 4] Q) [(0,a0),(1,a1)] [] H):vt M qdu [a0,a1] H Q:=callf (by decide) qxc (ks:=qo5) (by kernel_rfl) h
def qif:AFunc:=funcAt Tryd.prog qcg
def qlo:Kp:=⟨[0,2,3],false,[0,4,7,13,18,25]⟩
def yh (k:Nat):Kp × ACode:=(qlo,part qif.body k)
theorem qsh (M:Mac) (c:Ctx):(∀ Q E D H,W M c (yh 0) true Q E D H =
 W M c (yh 4) true Q ((3,(.str []))::(2,(.str []))::E) D H) /\
 (∀ Q E D H,W M c (yh 4) true Q E D H =
  LOOP3 (W M c (yh 7)) (BLK3 0 (SEQ3 (W M c (yh 25)) Q)) E D H) /\
 (∀ Q E D H,W M c (yh 25) true Q E D H =
  Lz E 0 fun g t0=>Bn g .add (.int .u64 48) t0 fun g t24=>B3 g ((Op.wrap .u8) [t24]) fun g t25=>B32 g ((Op.buildSlice qbd 1 [(.int .u8 0)] [(0,1)]) [t25]) fun g o1 k1=>B3 g (Op.strOfBytes [(k1 H.next)] (H.alloc o1)) fun g t27=>Ly g E 3 fun g t3=>Bn g .add t27 t3 fun g t29=>GO3 g Q .ret ((2,t29)::E) D (H.alloc o1)) /\
 (∀ Q E D H,W M c (yh 7) true Q E D H =
  Lz E 0 fun g t0=>Bn g .gtr t0 (.int .u64 9) fun g t5=>JN (fun (k:Bool->AV->AV->AHeap->Prop)=>B3 g (wantV false (some t5)) fun g w=>IG3 g w (fun g=>Ly g E 3 fun g t3=>Bn g .eql t3 (.str []) fun g t8=>k g t8 t3 H) (fun g=>k g uu uu H)) (fun g t8_1 t7_1 H1=>B3 g (Op.pick [t5,(.bool true),t8_1]) fun g t9=>IF3 g t9 (fun g=>Gt g M c (yh 13) Q E D H1) (fun g=>GO3 g (SEQ3 (W M c (yh 13)) Q) (.exit 0) E D H1))) /\
 (∀ Q E D H,W M c (yh 13) true Q E D H =
  Lz E 0 fun g t0=>Bn g .rem t0 (.int .u64 10) fun g t11=>Bn g .add (.int .u64 48) t11 fun g t12=>B3 g ((Op.wrap .u8) [t12]) fun g t13=>B32 g ((Op.buildSlice qbd 1 [(.int .u8 0)] [(0,1)]) [t13]) fun g o1 k1=>B3 g (Op.strOfBytes [(k1 H.next)] (H.alloc o1)) fun g t15=>Ly g E 3 fun g t3=>Bn g .add t15 t3 fun g t17=>Ly g E 0 fun g t0_1=>Bn g .quo t0_1 (.int .u64 10) fun g t19=>W M c (yh 18) g (BLK3 1 Q) ((0,t19)::(3,t17)::E) D (H.alloc o1)) /\
 (∀ Q E D H,W M c (yh 18) true Q E D H =
  Lz E 0 fun g t0=>Cb g .eql t0 (.int .u64 0) (fun g=>Ly g E 3 fun g t3=>GO3 g Q .ret ((2,t3)::E) D H) (fun g=>GO3 g Q .normal E D H)):=by (repeat' apply And.intro)<;>(intro _ _ _ _;refine W_unf ?_;kernel_rfl)
theorem qsf:(cProg Tryd.prog).func qcg=some qif/\qif.results=[.tmp 2]:=xv (by kernel_rfl)
theorem qsg (h:W M ⟨none,qcg⟩ (yh 0) true (FIN3 M [.tmp 2] Q) [(0,a0)] [] H):vt M qcg [a0] H Q:=callf (by decide) qsf (ks:=qlo) (by kernel_rfl) h
def qih:AFunc:=funcAt Tryd.prog qdf
def qlr:Kp:=⟨[0,2,3,4,5],false,[0,4,6,12]⟩
def qaz (k:Nat):Kp × ACode:=(qlr,part qih.body k)
theorem qf8 (M:Mac) (c:Ctx):(∀ Q E D H,W M c (qaz 0) true Q E D H =
 B32 true ((Op.buildSlice yv 7 [(.str [])] [(0,1),(1,1),(2,1),(3,1),(4,1),(5,1),(6,1)]) [(.str [43]),(.str [45]),(.str [42]),(.str [38]),(.str [94]),(.str [60,60]),(.str [62,62])]) fun g o1 k1=>W M c (qaz 4) g Q ((4,(k1 H.next))::(3,(.int .i64 0))::(2,(.str []))::E) D (H.alloc o1)) /\
 (∀ Q E D H,W M c (qaz 4) true Q E D H =
  W M c (qaz 6) true Q ((5,(.int .i64 2))::E) D H) /\
 (∀ Q E D H,W M c (qaz 6) true Q E D H =
  Lz E 0 fun g t0=>Bn g .eql t0 (.int .i64 4) fun g t8=>JN (fun (k:Bool->AV->AV->AHeap->Prop)=>B3 g (wantV false (some t8)) fun g w=>IG3 g w (fun g=>Bn g .eql t0 (.int .i64 5) fun g t11=>k g t11 t0 H) (fun g=>k g uu uu H)) (fun g t11_1 t10_1 H1=>B3 g (Op.pick [t8,(.bool true),t11_1]) fun g t12=>JN (fun (k:Bool->AV->AV->AHeap->Prop)=>B3 g (wantV false (some t12)) fun g w=>IG3 g w (fun g=>Bn g .eql t0 (.int .i64 8) fun g t15=>k g t15 t0 H1) (fun g=>k g uu uu H1)) (fun g t15_1 t14_1 H2=>B3 g (Op.pick [t12,(.bool true),t15_1]) fun g t16=>IF3 g t16 (fun g=>Gt g M c (qaz 12) Q ((5,(.int .i64 1))::E) D H2) (fun g=>Gt g M c (qaz 12) Q E D H2)))) /\
 (∀ Q E D H,W M c (qaz 12) true Q E D H =
  Lz E 4 fun g t4=>Ly g E 0 fun g t0=>Bn g .sub t0 (.int .i64 4) fun g t19=>Xl g t4 t19 H fun g t21=>Ly g E 5 fun g t5=>GO3 g Q .ret ((3,t5)::(2,t21)::E) D H):=by (repeat' apply And.intro)<;>(intro _ _ _ _;refine W_unf ?_;kernel_rfl)
theorem qsl:(cProg Tryd.prog).func qdf=some qih/\qih.results=[.tmp 2,.tmp 3]:=xv (by kernel_rfl)
theorem qsm (h:W M ⟨none,qdf⟩ (qaz 0) true (FIN3 M [.tmp 2,.tmp 3] Q) [(0,a0)] [] H):vt M qdf [a0] H Q:=callf (by decide) qsl (ks:=qlr) (by kernel_rfl) h
end
end Go.Am
namespace Go.Am
abbrev qcf:Nat:=34
abbrev qbc:Nat:=59
abbrev qds:Nat:=35
abbrev qbn:Nat:=61
abbrev qhh:Nat:=120
abbrev qdt:Nat:=58
abbrev vi:Nat:=90
abbrev ze:Nat:=60
abbrev yo:Nat:=92
abbrev yj:Nat:=121
abbrev x7:Nat:=89
abbrev vj:Nat:=91
abbrev zq:Nat:=88
abbrev jk:Nat:=134
abbrev qce:Nat:=67
abbrev qe5:Nat:=111
abbrev qe6:Nat:=109
noncomputable section
open Go.Proofs Go.Proofs.YtbimikjajohflaaDoor
variable {M:Mac} [MK M] {H:AHeap} {Q:AEnd->AHeap->Prop} {a0 a1 a2:AV}
def qie:AFunc:=funcAt Tryd.prog qcf
def qlj:Kp:=⟨[0,1,3,4,5,6],false,[0,2,10,14,22]⟩
def y8 (k:Nat):Kp × ACode:=(qlj,part qie.body k)
theorem qr8 (M:Mac) (c:Ctx):(∀ Q E D H,W M c (y8 0) true Q E D H =
 Lz E 1 fun g t1=>A3 g qce (AV.cells t1) H fun g t3 H1=>W M c (y8 2) g Q ((5,(.int .i64 0))::(4,.nils)::(3,t3)::E) D H1) /\
 (∀ Q E D H,W M c (y8 2) true Q E D H =
  Lz E 0 fun g t0=>C3 M g (.func qdt) [t0] H fun g t8 H1=>B3 g ((Op.un .not) [t8]) fun g t9=>JN (fun (k:Bool->AV->AV->AV->AHeap->Prop)=>B3 g (wantV false (some t9)) fun g w=>IG3 g w (fun g=>Ly g E 3 fun g t3=>B3 g ((Op.loadN 3) [t3] H1) fun g t11=>C3 M g (.func qbc) [t11] H1 fun g t12 H2=>B3 g ((Op.un .not) [t12]) fun g t13=>k g t13 t12 t11 H2) (fun g=>k g uu uu uu H1)) (fun g t13_1 t12_1 t11_1 H3=>B3 g (Op.pick [t9,(.bool true),t13_1]) fun g t14=>IF3 g t14 (fun g=>GO3 g (SEQ3 (W M c (y8 10)) Q) .ret ((5,(.int .i64 2))::(4,.nils)::E) D H3) (fun g=>Gt g M c (y8 10) Q E D H3))) /\
 (∀ Q E D H,W M c (y8 10) true Q E D H =
  Lz E 0 fun g t0=>Ly g E 3 fun g t3=>B3 g ((Op.loadN 3) [t3] H) fun g t16=>B3 g ((Op.build [.nils,(.int .i64 0),(.int .i64 0),(.int .i64 0),.nils,(.bool false)] [(0,1),(1,3)]) [t0,t16]) fun g t17=>A3 g qe5 (AV.cells t17) H fun g t18 H1=>Ly g E 0 fun g t0_1=>B3 g (Op.lenSl [t0_1]) fun g t21=>Bn g .sub t21 (.int .i64 1) fun g t22=>C3 M g (.func ze) [t18,t22] H1 fun g t23 H2=>W M c (y8 14) g Q ((6,t18)::E) D H2) /\
 (∀ Q E D H,W M c (y8 14) true Q E D H =
  Lz E 6 fun g t6=>Nf g 5 t6 H fun g t27=>JN (fun (k:Bool->AV->AV->AV->AV->AV->AV->AHeap->Prop)=>B3 g (wantV false (some t27)) fun g w=>IG3 g w (fun g=>B3 g (Op.nilCheck [t6]) fun g t30=>B3 g ((Op.fieldAddr 4) [t30]) fun g t31=>B3 g (Op.load1 [t31] H) fun g t32=>B3 g (Op.lenSl [t32]) fun g t33=>Bn g .gtr t33 (.int .i64 1024) fun g t34=>k g t34 t33 t32 t31 t30 t6 H) (fun g=>k g uu uu uu uu uu uu H)) (fun g t34_1 t33_1 t32_1 t31_1 t30_1 t29_1 H1=>B3 g (Op.pick [t27,(.bool true),t34_1]) fun g t35=>IF3 g t35 (fun g=>GO3 g (SEQ3 (W M c (y8 22)) Q) .ret ((5,(.int .i64 210))::(4,.nils)::E) D H1) (fun g=>Gt g M c (y8 22) Q E D H1))) /\
 (∀ Q E D H,W M c (y8 22) true Q E D H =
  Lz E 6 fun g t6=>Nf g 4 t6 H fun g t39=>GO3 g Q .ret ((5,(.int .i64 0))::(4,t39)::E) D H):=by (repeat' apply And.intro)<;>(intro _ _ _ _;refine W_unf ?_;kernel_rfl)
theorem qr6:(cProg Tryd.prog).func qcf=some qie/\qie.results=[.tmp 4,.tmp 5]:=xv (by kernel_rfl)
theorem qr7 (h:W M ⟨none,qcf⟩ (y8 0) true (FIN3 M [.tmp 4,.tmp 5] Q) [(0,a0),(1,a1)] [] H):vt M qcf [a0,a1] H Q:=callf (by decide) qr6 (ks:=qlj) (by kernel_rfl) h
def qj3:AFunc:=funcAt Tryd.prog qds
def qol:Kp:=⟨[0,1,4],false,[0,2,10]⟩
def qdx (k:Nat):Kp × ACode:=(qol,part qj3.body k)
theorem qvq (M:Mac) (c:Ctx):(∀ Q E D H,W M c (qdx 0) true Q E D H =
 W M c (qdx 2) true Q ((4,(.int .i64 0))::E) D H) /\
 (∀ Q E D H,W M c (qdx 2) true Q E D H =
  Lz E 0 fun g t0=>C3 M g (.func qdt) [t0] H fun g t6 H1=>B3 g ((Op.un .not) [t6]) fun g t7=>JN (fun (k:Bool->AV->AV->AHeap->Prop)=>B3 g (wantV false (some t7)) fun g w=>IG3 g w (fun g=>Ly g E 1 fun g t1=>Bn g .lss t1 (.int .i64 0) fun g t10=>k g t10 t1 H1) (fun g=>k g uu uu H1)) (fun g t10_1 t9_1 H2=>B3 g (Op.pick [t7,(.bool true),t10_1]) fun g t11=>JN (fun (k:Bool->AV->AV->AV->AV->AHeap->Prop)=>B3 g (wantV false (some t11)) fun g w=>IG3 g w (fun g=>Ly g E 1 fun g t1_1=>B3 g (Op.lenSl [t0]) fun g t15=>Bn g .geq t1_1 t15 fun g t16=>k g t16 t15 t0 t1_1 H2) (fun g=>k g uu uu uu uu H2)) (fun g t16_1 t15_1 t14_1 t13_1 H3=>B3 g (Op.pick [t11,(.bool true),t16_1]) fun g t17=>JN (fun (k:Bool->AV->AV->AV->AV->AV->AV->AHeap->Prop)=>B3 g (wantV false (some t17)) fun g w=>IG3 g w (fun g=>Ly g E 1 fun g t1_2=>B3 g ((Op.indexSl 3) [t0,t1_2]) fun g t21=>B3 g ((Op.fieldAddr 0) [t21]) fun g t22=>B3 g (Op.load1 [t22] H3) fun g t23=>Bn g .gtr t23 (.int .i64 10) fun g t24=>k g t24 t23 t22 t21 t1_2 t0 H3) (fun g=>k g uu uu uu uu uu uu H3)) (fun g t24_1 t23_1 t22_1 t21_1 t20_1 t19_1 H4=>B3 g (Op.pick [t17,(.bool true),t24_1]) fun g t25=>IF3 g t25 (fun g=>GO3 g (SEQ3 (W M c (qdx 10)) Q) .ret ((4,(.int .i64 0))::E) D H4) (fun g=>Gt g M c (qdx 10) Q E D H4))))) /\
 (∀ Q E D H,W M c (qdx 10) true Q E D H =
  Lz E 0 fun g t0=>Ly g E 1 fun g t1=>C3 M g (.func qbn) [t0,t1] H fun g t28 H1=>GO3 g Q .ret ((4,t28)::E) D H1):=by (repeat' apply And.intro)<;>(intro _ _ _ _;refine W_unf ?_;kernel_rfl)
theorem qvo:(cProg Tryd.prog).func qds=some qj3/\qj3.results=[.tmp 4]:=xv (by kernel_rfl)
theorem qvp (h:W M ⟨none,qds⟩ (qdx 0) true (FIN3 M [.tmp 4] Q) [(0,a0),(1,a1)] [] H):vt M qds [a0,a1] H Q:=callf (by decide) qvo (ks:=qol) (by kernel_rfl) h
def qj7:AFunc:=funcAt Tryd.prog qdt
def qon:Kp:=⟨[0,2,4],false,[0]⟩
def qoo (k:Nat):Kp × ACode:=(qon,part qj7.body k)
theorem qvw (M:Mac) (c:Ctx):(∀ Q E D H,W M c (qoo 0) true Q E D H =
 Lz E 0 fun g t0=>C3 M g (.func qbo) [t0] H fun g t7 H1=>B3 g ((Op.extract 0) [t7]) fun g t8=>B3 g ((Op.extract 1) [t7]) fun g t9=>Bn g .eql t9 (.int .i64 0) fun g t11=>GO3 g Q .ret ((2,t11)::(4,t9)::(2,(.bool false))::E) D H1):=by intro _ _ _ _;refine W_unf ?_;kernel_rfl
theorem qvu:(cProg Tryd.prog).func qdt=some qj7/\qj7.results=[.tmp 2]:=xv (by kernel_rfl)
theorem qvv (h:W M ⟨none,qdt⟩ (qoo 0) true (FIN3 M [.tmp 2] Q) [(0,a0)] [] H):vt M qdt [a0] H Q:=callf (by decide) qvu (ks:=qon) (by kernel_rfl) h
def qgi:AFunc:=funcAt Tryd.prog qbc
def qjr:Kp:=⟨[0,1,2],false,[0,2,10]⟩
def qbe (k:Nat):Kp × ACode:=(qjr,part qgi.body k)
theorem qpk (M:Mac) (c:Ctx):(∀ Q E D H,W M c (qbe 0) true Q E D H =
 Lz E 0 fun g t0=>A3 g qce (AV.cells t0) H fun g t1 H1=>W M c (qbe 2) g Q ((2,(.bool false))::(1,t1)::E) D H1) /\
 (∀ Q E D H,W M c (qbe 2) true Q E D H =
  Lz E 1 fun g t1=>Fl g 0 t1 H fun g t4=>Bn g .lss t4 (.int .i64 0) fun g t5=>JN (fun (k:Bool->AV->AV->AV->AHeap->Prop)=>B3 g (wantV false (some t5)) fun g w=>IG3 g w (fun g=>B3 g ((Op.fieldAddr 0) [t1]) fun g t7=>B3 g (Op.load1 [t7] H) fun g t8=>Bn g .gtr t8 (.int .i64 4096) fun g t9=>k g t9 t8 t7 H) (fun g=>k g uu uu uu H)) (fun g t9_1 t8_1 t7_1 H1=>B3 g (Op.pick [t5,(.bool true),t9_1]) fun g t10=>JN (fun (k:Bool->AV->AV->AV->AHeap->Prop)=>B3 g (wantV false (some t10)) fun g w=>IG3 g w (fun g=>B3 g ((Op.fieldAddr 1) [t1]) fun g t12=>B3 g (Op.load1 [t12] H1) fun g t13=>Bn g .lss t13 (.int .i64 0) fun g t14=>k g t14 t13 t12 H1) (fun g=>k g uu uu uu H1)) (fun g t14_1 t13_1 t12_1 H2=>B3 g (Op.pick [t10,(.bool true),t14_1]) fun g t15=>JN (fun (k:Bool->AV->AV->AV->AHeap->Prop)=>B3 g (wantV false (some t15)) fun g w=>IG3 g w (fun g=>B3 g ((Op.fieldAddr 1) [t1]) fun g t17=>B3 g (Op.load1 [t17] H2) fun g t18=>Bn g .gtr t18 (.int .i64 4096) fun g t19=>k g t19 t18 t17 H2) (fun g=>k g uu uu uu H2)) (fun g t19_1 t18_1 t17_1 H3=>B3 g (Op.pick [t15,(.bool true),t19_1]) fun g t20=>JN (fun (k:Bool->AV->AV->AV->AHeap->Prop)=>B3 g (wantV false (some t20)) fun g w=>IG3 g w (fun g=>B3 g ((Op.fieldAddr 2) [t1]) fun g t22=>B3 g (Op.load1 [t22] H3) fun g t23=>Bn g .lss t23 (.int .i64 0) fun g t24=>k g t24 t23 t22 H3) (fun g=>k g uu uu uu H3)) (fun g t24_1 t23_1 t22_1 H4=>B3 g (Op.pick [t20,(.bool true),t24_1]) fun g t25=>JN (fun (k:Bool->AV->AV->AV->AHeap->Prop)=>B3 g (wantV false (some t25)) fun g w=>IG3 g w (fun g=>B3 g ((Op.fieldAddr 2) [t1]) fun g t27=>B3 g (Op.load1 [t27] H4) fun g t28=>Bn g .gtr t28 (.int .i64 4096) fun g t29=>k g t29 t28 t27 H4) (fun g=>k g uu uu uu H4)) (fun g t29_1 t28_1 t27_1 H5=>B3 g (Op.pick [t25,(.bool true),t29_1]) fun g t30=>IF3 g t30 (fun g=>GO3 g (SEQ3 (W M c (qbe 10)) Q) .ret ((2,(.bool false))::E) D H5) (fun g=>Gt g M c (qbe 10) Q E D H5))))))) /\
 (∀ Q E D H,W M c (qbe 10) true Q E D H =
  Lz E 1 fun g t1=>Fl g 2 t1 H fun g t32=>Bn g .eql t32 (.int .i64 0) fun g t33=>JN (fun (k:Bool->AV->AV->AV->AV->AV->AV->AHeap->Prop)=>B3 g (wantV false (some t33)) fun g w=>IG3 g w (fun g=>B3 g ((Op.fieldAddr 0) [t1]) fun g t35=>B3 g (Op.load1 [t35] H) fun g t36=>Bn g .add t36 (.int .i64 8) fun g t37=>B3 g ((Op.fieldAddr 1) [t1]) fun g t38=>B3 g (Op.load1 [t38] H) fun g t39=>Bn g .leq t37 t39 fun g t40=>k g t40 t39 t38 t37 t36 t35 H) (fun g=>k g uu uu uu uu uu uu H)) (fun g t40_1 t39_1 t38_1 t37_1 t36_1 t35_1 H1=>B3 g (Op.pick [t33,(.bool true),t40_1]) fun g t41=>JN (fun (k:Bool->AV->AV->AV->AV->AV->AV->AV->AV->AHeap->Prop)=>B3 g (wantV false (some t41)) fun g w=>IG3 g w (fun g=>B3 g ((Op.fieldAddr 1) [t1]) fun g t43=>B3 g (Op.load1 [t43] H1) fun g t44=>B3 g ((Op.fieldAddr 2) [t1]) fun g t45=>B3 g (Op.load1 [t45] H1) fun g t46=>Bn g .add t44 t46 fun g t47=>B3 g ((Op.fieldAddr 0) [t1]) fun g t48=>B3 g (Op.load1 [t48] H1) fun g t49=>Bn g .leq t47 t49 fun g t50=>k g t50 t49 t48 t47 t46 t45 t44 t43 H1) (fun g=>k g uu uu uu uu uu uu uu uu H1)) (fun g t50_1 t49_1 t48_1 t47_1 t46_1 t45_1 t44_1 t43_1 H2=>B3 g (Op.pick [t41,(.bool true),t50_1]) fun g t51=>GO3 g Q .ret ((2,t51)::E) D H2))):=by (repeat' apply And.intro)<;>(intro _ _ _ _;refine W_unf ?_;kernel_rfl)
theorem qpi:(cProg Tryd.prog).func qbc=some qgi/\qgi.results=[.tmp 2]:=xv (by kernel_rfl)
theorem qpj (h:W M ⟨none,qbc⟩ (qbe 0) true (FIN3 M [.tmp 2] Q) [(0,a0)] [] H):vt M qbc [a0] H Q:=callf (by decide) qpi (ks:=qjr) (by kernel_rfl) h
def qgj:AFunc:=funcAt Tryd.prog ze
def qjs:Kp:=⟨[0,1,4,6,7,8,9,10,19,23,24,25],false,[0,8,12,18,23,24,40,45,61,70]⟩
def x5 (k:Nat):Kp × ACode:=(qjs,part qgj.body k)
theorem qak (M:Mac) (c:Ctx):(∀ Q E D H,W M c (x5 0) true Q E D H =
 Lz E 0 fun g t0=>Nf g 0 t0 H fun g t14=>Ly g E 1 fun g t1=>B3 g ((Op.indexSl 3) [t14,t1]) fun g t16=>B3 g ((Op.loadN 3) [t16] H) fun g t17=>A3 g qo [(.int .i64 0),(.int .u64 0),.nils] H fun g t4 H1=>B32 g ((Op.store 3) [t4,t17] H1) fun g u H2=>Fl g 0 t4 H2 fun g t19=>Cb g .eql t19 (.int .i64 20) (fun g=>W M c (x5 8) g (BLK3 0 Q) ((19,t19)::(4,t4)::E) D H2) (fun g=>W M c (x5 24) g (BLK3 0 Q) ((19,t19)::(4,t4)::E) D H2)) /\
 (∀ Q E D H,W M c (x5 8) true Q E D H =
  Lz E 4 fun g t4=>Fl g 2 t4 H fun g t23=>B3 g (Op.lenSl [t23]) fun g t24=>LOOP3 (W M c (x5 12)) (BLK3 1 Q) ((25,(.int .i64 0))::(24,t24)::(23,t23)::E) D H) /\
 (∀ Q E D H,W M c (x5 24) true Q E D H =
  Lz E 19 fun g t19=>Cb g .eql t19 (.int .i64 14) (fun g=>Ly g E 0 fun g t0=>Ly g E 4 fun g t4=>Fl g 2 t4 H fun g t37=>Xl g t37 (.int .i64 0) H fun g t39=>C3 M g (.func zq) [t0,t39,(.int .i64 0)] H fun g t40 H1=>Ly g E 0 fun g t0_1=>B3 g (Op.nilCheck [t0_1]) fun g t43=>B3 g ((Op.fieldAddr 1) [t43]) fun g t44=>Fl g 0 t44 H1 fun g t46=>Ly g E 4 fun g t4_1=>Fl g 1 t4_1 H1 fun g t48=>B3 g ((Op.wrap .i64) [t48]) fun g t49=>Bn g .add t46 t49 fun g t50=>B3 g ((Op.build [(.int .i64 0),(.int .i64 0),(.int .i64 0),(.int .i64 0),(.int .i64 0)] [(0,1),(1,1),(2,1),(4,1)]) [(.int .i64 12),(.int .i64 0),(.int .i64 7),t50]) fun g t51=>B32 g ((Op.buildSlice jk 1 [(.int .i64 0),(.int .i64 0),(.int .i64 0),(.int .i64 0),(.int .i64 0)] [(0,5)]) [t51]) fun g o2 k2=>C3 M g (.func x7) [t0_1,(k2 H1.next)] (H1.alloc o2) fun g t53 H3=>GO3 g Q .normal E D H3) (fun g=>Ly g E 19 fun g t19_1=>Cb g .eql t19_1 (.int .i64 15) (fun g=>Ly g E 0 fun g t0=>Ly g E 4 fun g t4=>Fl g 2 t4 H fun g t58=>Xl g t58 (.int .i64 0) H fun g t60=>C3 M g (.func zq) [t0,t60,(.int .i64 0)] H fun g t61 H1=>Ly g E 0 fun g t0_1=>Ly g E 4 fun g t4_1=>Fl g 2 t4_1 H1 fun g t64=>Xl g t64 (.int .i64 1) H1 fun g t66=>C3 M g (.func zq) [t0_1,t66,(.int .i64 1)] H1 fun g t67 H2=>Ly g E 0 fun g t0_2=>C3 M g (.func vi) [t0_2,(.int .i64 0)] H2 fun g t69 H3=>Ly g E 0 fun g t0_3=>B3 g (Op.nilCheck [t0_3]) fun g t72=>B3 g ((Op.fieldAddr 1) [t72]) fun g t73=>Fl g 1 t73 H3 fun g t75=>B3 g ((Op.build [(.int .i64 0),(.int .i64 0),(.int .i64 0),(.int .i64 0),(.int .i64 0)] [(0,1),(1,1),(2,1),(4,1)]) [(.int .i64 12),(.int .i64 1),(.int .i64 0),t75]) fun g t76=>B32 g ((Op.buildSlice jk 1 [(.int .i64 0),(.int .i64 0),(.int .i64 0),(.int .i64 0),(.int .i64 0)] [(0,5)]) [t76]) fun g o4 k4=>C3 M g (.func x7) [t0_3,(k4 H3.next)] (H3.alloc o4) fun g t78 H5=>GO3 g Q .normal E D H5) (fun g=>W M c (x5 40) g Q E D H))) /\
 (∀ Q E D H,W M c (x5 12) true Q E D H =
  Lz E 25 fun g t25=>Ly g E 24 fun g t24=>Cb g .lss t25 t24 (fun g=>Gt g M c (x5 18) Q E D H) (fun g=>GO3 g (SEQ3 (W M c (x5 18)) Q) (.exit 1) E D H)) /\
 (∀ Q E D H,W M c (x5 40) true Q E D H =
  Lz E 19 fun g t19=>Cb g .eql t19 (.int .i64 16) (fun g=>Ly g E 0 fun g t0=>Ly g E 4 fun g t4=>Fl g 2 t4 H fun g t83=>Xl g t83 (.int .i64 0) H fun g t85=>C3 M g (.func vj) [t0,t85] H fun g t86 H1=>W M c (x5 45) g Q ((7,t86)::E) D H1) (fun g=>Ly g E 19 fun g t19_1=>Cb g .eql t19_1 (.int .i64 17) (fun g=>W M c (x5 61) g Q E D H) (fun g=>W M c (x5 70) g Q E D H))) /\
 (∀ Q E D H,W M c (x5 18) true Q E D H =
  Lz E 23 fun g t23=>Ly g E 25 fun g t25=>Xl g t23 t25 H fun g t28=>Ly g E 0 fun g t0=>C3 M g (.func ze) [t0,t28] H fun g t31 H1=>GO3 g (BLK3 2 (SEQ3 (W M c (x5 23)) Q)) .normal ((6,t28)::E) D H1) /\
 (∀ Q E D H,W M c (x5 45) true Q E D H =
  Lz E 0 fun g t0=>Ly g E 4 fun g t4=>Fl g 2 t4 H fun g t89=>Xl g t89 (.int .i64 1) H fun g t91=>C3 M g (.func ze) [t0,t91] H fun g t92 H1=>Ly g E 4 fun g t4_1=>Fl g 2 t4_1 H1 fun g t94=>B3 g (Op.lenSl [t94]) fun g t95=>Cb g .eql t95 (.int .i64 3) (fun g=>Ly g E 0 fun g t0_1=>B3 g ((Op.build [(.int .i64 0),(.int .i64 0),(.int .i64 0),(.int .i64 0),(.int .i64 0)] [(0,1)]) [(.int .i64 13)]) fun g t98=>C3 M g (.func yo) [t0_1,t98] H1 fun g t99 H2=>Ly g E 7 fun g t7=>V3 g [t7] fun g f vs=>C3 M g f vs H2 fun g t101 H3=>Ly g E 0 fun g t0_2=>Ly g E 4 fun g t4_2=>Fl g 2 t4_2 H3 fun g t104=>Xl g t104 (.int .i64 2) H3 fun g t106=>C3 M g (.func ze) [t0_2,t106] H3 fun g t107 H4=>V3 g [t99] fun g f vs=>C3 M g f vs H4 fun g t109 H5=>GO3 g Q .normal ((8,t99)::E) D H5) (fun g=>Ly g E 7 fun g t7=>V3 g [t7] fun g f vs=>C3 M g f vs H1 fun g t111 H2=>GO3 g Q .normal E D H2)) /\
 (∀ Q E D H,W M c (x5 61) true Q E D H =
  Lz E 0 fun g t0=>Nf g 4 t0 H fun g t117=>B3 g (Op.lenSl [t117]) fun g t118=>Ly g E 0 fun g t0_1=>Ly g E 4 fun g t4=>Fl g 2 t4 H fun g t121=>Xl g t121 (.int .i64 0) H fun g t123=>C3 M g (.func vj) [t0_1,t123] H fun g t124 H1=>Ly g E 0 fun g t0_2=>Ly g E 4 fun g t4_1=>Fl g 2 t4_1 H1 fun g t127=>Xl g t127 (.int .i64 1) H1 fun g t129=>C3 M g (.func ze) [t0_2,t129] H1 fun g t130 H2=>Ly g E 0 fun g t0_3=>B3 g ((Op.build [(.int .i64 0),(.int .i64 0),(.int .i64 0),(.int .i64 0),(.int .i64 0)] [(0,1),(4,1)]) [(.int .i64 13),t118]) fun g t133=>B32 g ((Op.buildSlice jk 1 [(.int .i64 0),(.int .i64 0),(.int .i64 0),(.int .i64 0),(.int .i64 0)] [(0,5)]) [t133]) fun g o3 k3=>C3 M g (.func x7) [t0_3,(k3 H2.next)] (H2.alloc o3) fun g t135 H4=>V3 g [t124] fun g f vs=>C3 M g f vs H4 fun g t137 H5=>GO3 g Q .normal ((10,t124)::(9,t118)::E) D H5) /\
 (∀ Q E D H,W M c (x5 70) true Q E D H =
  Lz E 19 fun g t19=>Cb g .eql t19 (.int .i64 18) (fun g=>Ly g E 0 fun g t0=>B3 g ((Op.build [(.int .i64 0),(.int .i64 0),(.int .i64 0),(.int .i64 0),(.int .i64 0)] [(0,1)]) [(.int .i64 17)]) fun g t141=>B32 g ((Op.buildSlice jk 1 [(.int .i64 0),(.int .i64 0),(.int .i64 0),(.int .i64 0),(.int .i64 0)] [(0,5)]) [t141]) fun g o1 k1=>C3 M g (.func x7) [t0,(k1 H.next)] (H.alloc o1) fun g t143 H2=>Ly g E 0 fun g t0_1=>Ly g E 4 fun g t4=>Fl g 2 t4 H2 fun g t146=>Xl g t146 (.int .i64 0) H2 fun g t148=>C3 M g (.func ze) [t0_1,t148] H2 fun g t149 H3=>Ly g E 0 fun g t0_2=>B3 g ((Op.build [(.int .i64 0),(.int .i64 0),(.int .i64 0),(.int .i64 0),(.int .i64 0)] [(0,1)]) [(.int .i64 18)]) fun g t151=>B32 g ((Op.buildSlice jk 1 [(.int .i64 0),(.int .i64 0),(.int .i64 0),(.int .i64 0),(.int .i64 0)] [(0,5)]) [t151]) fun g o4 k4=>C3 M g (.func x7) [t0_2,(k4 H3.next)] (H3.alloc o4) fun g t153 H5=>GO3 g Q .normal E D H5) (fun g=>Ly g E 19 fun g t19_1=>Cb g .eql t19_1 (.int .i64 19) (fun g=>Ly g E 0 fun g t0=>B3 g ((Op.build [(.int .i64 0),(.int .i64 0),(.int .i64 0),(.int .i64 0),(.int .i64 0)] [(0,1)]) [(.int .i64 1)]) fun g t157=>B32 g ((Op.buildSlice jk 1 [(.int .i64 0),(.int .i64 0),(.int .i64 0),(.int .i64 0),(.int .i64 0)] [(0,5)]) [t157]) fun g o1 k1=>C3 M g (.func x7) [t0,(k1 H.next)] (H.alloc o1) fun g t159 H2=>GO3 g Q .normal E D H2) (fun g=>GO3 g Q .normal E D H))) /\
 (∀ Q E D H,W M c (x5 23) true Q E D H =
  Lz E 25 fun g t25=>Bn g .add t25 (.int .i64 1) fun g t32=>GO3 g Q .normal ((25,t32)::E) D H):=by (repeat' apply And.intro)<;>(intro _ _ _ _;refine W_unf ?_;kernel_rfl)
theorem qpl:(cProg Tryd.prog).func ze=some qgj/\qgj.results=[]:=xv (by kernel_rfl)
theorem qaj (h:W M ⟨none,ze⟩ (x5 0) true (FIN3 M [] Q) [(0,a0),(1,a1)] [] H):vt M ze [a0,a1] H Q:=callf (by decide) qpl (ks:=qjs) (by kernel_rfl) h
def qj4:AFunc:=funcAt Tryd.prog qbn
def qom:Kp:=⟨[0,1,4,5,12],false,[0,4,21]⟩
def qcu (k:Nat):Kp × ACode:=(qom,part qj4.body k)
theorem qj6 (M:Mac) (c:Ctx):(∀ Q E D H,W M c (qcu 0) true Q E D H =
 Lz E 0 fun g t0=>Ly g E 1 fun g t1=>B3 g ((Op.indexSl 3) [t0,t1]) fun g t8=>B3 g ((Op.loadN 3) [t8] H) fun g t9=>A3 g qo [(.int .i64 0),(.int .u64 0),.nils] H fun g t5 H1=>B32 g ((Op.store 3) [t5,t9] H1) fun g u H2=>W M c (qcu 4) g Q ((5,t5)::(4,(.int .i64 0))::E) D H2) /\
 (∀ Q E D H,W M c (qcu 4) true Q E D H =
  Lz E 5 fun g t5=>Fl g 2 t5 H fun g t11=>B3 g (Op.lenSl [t11]) fun g t12=>Cb g .eql t12 (.int .i64 0) (fun g=>GO3 g (BLK3 0 (SEQ3 (W M c (qcu 21)) Q)) .ret ((4,(.int .i64 1))::(12,t12)::E) D H) (fun g=>Cb g .eql t12 (.int .i64 1) (fun g=>Ly g E 0 fun g t0=>Ly g E 5 fun g t5_1=>Fl g 2 t5_1 H fun g t19=>Xl g t19 (.int .i64 0) H fun g t21=>C3 M g (.func qbn) [t0,t21] H fun g t22 H1=>GO3 g (BLK3 0 (SEQ3 (W M c (qcu 21)) Q)) .ret ((4,t22)::(12,t12)::E) D H1) (fun g=>GO3 g (BLK3 0 (SEQ3 (W M c (qcu 21)) Q)) .normal ((12,t12)::E) D H))) /\
 (∀ Q E D H,W M c (qcu 21) true Q E D H =
  Lz E 0 fun g t0=>Ly g E 5 fun g t5=>Fl g 2 t5 H fun g t25=>Xl g t25 (.int .i64 0) H fun g t27=>B3 g ((Op.fieldAddr 2) [t5]) fun g t30=>B3 g (Op.load1 [t30] H) fun g t31=>B3 g ((Op.indexSl 1) [t31,(.int .i64 1)]) fun g t32=>B3 g (Op.load1 [t32] H) fun g t33=>C3 M g (.func qbn) [t0,t27] H fun g t28 H1=>CK3 g (Op.load1 [t30] H1) (some t31) fun g=>CK3 g (Op.load1 [t32] H1) (some t33) fun g=>C3 M g (.func qbn) [t0,t33] H1 fun g t34 H2=>Bn g .add (.int .i64 1) t34 fun g t35=>B3 g ((Op.minmax true) [t28,t35]) fun g t36=>GO3 g Q .ret ((4,t36)::E) D H2):=by (repeat' apply And.intro)<;>(intro _ _ _ _;refine W_unf ?_;kernel_rfl)
theorem qvr:(cProg Tryd.prog).func qbn=some qj4/\qj4.results=[.tmp 4]:=xv (by kernel_rfl)
theorem qj5 (h:W M ⟨none,qbn⟩ (qcu 0) true (FIN3 M [.tmp 4] Q) [(0,a0),(1,a1)] [] H):vt M qbn [a0,a1] H Q:=callf (by decide) qvr (ks:=qom) (by kernel_rfl) h
def qep:AFunc:=funcAt Tryd.prog zq
def qhi:Kp:=⟨[0,1,2,6,20],false,[0,8,17,29]⟩
def yc (k:Nat):Kp × ACode:=(qhi,part qep.body k)
theorem qbz (M:Mac) (c:Ctx):(∀ Q E D H,W M c (yc 0) true Q E D H =
 Lz E 2 fun g t2=>Cb g .geq t2 (.int .i64 6) (fun g=>Ly g E 0 fun g t0=>Ns g 5 t0 (.bool true) H fun g u H1=>GO3 g (SEQ3 (W M c (yc 8)) Q) .ret E D H1) (fun g=>Gt g M c (yc 8) Q E D H)) /\
 (∀ Q E D H,W M c (yc 8) true Q E D H =
  Lz E 0 fun g t0=>Nf g 0 t0 H fun g t15=>Ly g E 1 fun g t1=>B3 g ((Op.indexSl 3) [t15,t1]) fun g t17=>B3 g ((Op.loadN 3) [t17] H) fun g t18=>A3 g qo [(.int .i64 0),(.int .u64 0),.nils] H fun g t6 H1=>B32 g ((Op.store 3) [t6,t18] H1) fun g u H2=>Fl g 0 t6 H2 fun g t20=>Cb g .eql t20 (.int .i64 1) (fun g=>Ly g E 0 fun g t0_1=>Ly g E 2 fun g t2=>Fl g 1 t6 H2 fun g t52=>B3 g ((Op.wrap .i64) [t52]) fun g t53=>B3 g ((Op.build [(.int .i64 0),(.int .i64 0),(.int .i64 0),(.int .i64 0),(.int .i64 0)] [(0,1),(1,1),(4,1)]) [(.int .i64 2),t2,t53]) fun g t54=>B32 g ((Op.buildSlice jk 1 [(.int .i64 0),(.int .i64 0),(.int .i64 0),(.int .i64 0),(.int .i64 0)] [(0,5)]) [t54]) fun g o3 k3=>C3 M g (.func x7) [t0_1,(k3 H2.next)] (H2.alloc o3) fun g t56 H4=>GO3 g (BLK3 0 Q) .normal ((20,t20)::(6,t6)::E) D H4) (fun g=>W M c (yc 17) g (BLK3 0 Q) ((20,t20)::(6,t6)::E) D H2)) /\
 (∀ Q E D H,W M c (yc 17) true Q E D H =
  Lz E 20 fun g t20=>Cb g .eql t20 (.int .i64 2) (fun g=>Ly g E 0 fun g t0=>Ly g E 2 fun g t2=>B3 g (Op.nilCheck [t0]) fun g t62=>B3 g ((Op.fieldAddr 1) [t62]) fun g t63=>Fl g 0 t63 H fun g t65=>Ly g E 6 fun g t6=>Fl g 1 t6 H fun g t67=>B3 g ((Op.wrap .i64) [t67]) fun g t68=>Bn g .add t65 t68 fun g t69=>B3 g ((Op.build [(.int .i64 0),(.int .i64 0),(.int .i64 0),(.int .i64 0),(.int .i64 0)] [(0,1),(1,1),(2,1),(4,1)]) [(.int .i64 11),t2,(.int .i64 7),t69]) fun g t70=>B32 g ((Op.buildSlice jk 1 [(.int .i64 0),(.int .i64 0),(.int .i64 0),(.int .i64 0),(.int .i64 0)] [(0,5)]) [t70]) fun g o1 k1=>C3 M g (.func x7) [t0,(k1 H.next)] (H.alloc o1) fun g t72 H2=>GO3 g Q .normal E D H2) (fun g=>Ly g E 20 fun g t20_1=>Cb g .eql t20_1 (.int .i64 3) (fun g=>Ly g E 0 fun g t0=>Ly g E 6 fun g t6=>Fl g 2 t6 H fun g t77=>Xl g t77 (.int .i64 0) H fun g t79=>Ly g E 2 fun g t2=>C3 M g (.func zq) [t0,t79,t2] H fun g t81 H1=>Ly g E 0 fun g t0_1=>Ly g E 2 fun g t2_1=>C3 M g (.func vi) [t0_1,t2_1] H1 fun g t84 H2=>Ly g E 0 fun g t0_2=>Ly g E 2 fun g t2_2=>B3 g (Op.nilCheck [t0_2]) fun g t89=>B3 g ((Op.fieldAddr 1) [t89]) fun g t90=>Fl g 1 t90 H2 fun g t92=>B3 g ((Op.build [(.int .i64 0),(.int .i64 0),(.int .i64 0),(.int .i64 0),(.int .i64 0)] [(0,1),(1,1),(2,1),(4,1)]) [(.int .i64 11),t2_2,t2_2,t92]) fun g t93=>B32 g ((Op.buildSlice jk 1 [(.int .i64 0),(.int .i64 0),(.int .i64 0),(.int .i64 0),(.int .i64 0)] [(0,5)]) [t93]) fun g o3 k3=>C3 M g (.func x7) [t0_2,(k3 H2.next)] (H2.alloc o3) fun g t95 H4=>GO3 g Q .normal E D H4) (fun g=>W M c (yc 29) g Q E D H))) /\
 (∀ Q E D H,W M c (yc 29) true Q E D H =
  Lz E 0 fun g t0=>Ly g E 6 fun g t6=>Fl g 2 t6 H fun g t23=>Xl g t23 (.int .i64 0) H fun g t25=>Ly g E 2 fun g t2=>C3 M g (.func zq) [t0,t25,t2] H fun g t27 H1=>Ly g E 0 fun g t0_1=>Ly g E 6 fun g t6_1=>Fl g 2 t6_1 H1 fun g t30=>Xl g t30 (.int .i64 1) H1 fun g t32=>Ly g E 2 fun g t2_1=>Bn g .add t2_1 (.int .i64 1) fun g t34=>C3 M g (.func zq) [t0_1,t32,t34] H1 fun g t35 H2=>Ly g E 0 fun g t0_2=>Ly g E 6 fun g t6_2=>Fl g 0 t6_2 H2 fun g t38=>C3 M g (.func qhh) [t38] H2 fun g t39 H3=>Ly g E 2 fun g t2_2=>Bn g .add t2_2 (.int .i64 1) fun g t43=>B3 g ((Op.build [(.int .i64 0),(.int .i64 0),(.int .i64 0),(.int .i64 0),(.int .i64 0)] [(0,1),(1,1),(2,1),(3,1)]) [t39,t2_2,t2_2,t43]) fun g t44=>B32 g ((Op.buildSlice jk 1 [(.int .i64 0),(.int .i64 0),(.int .i64 0),(.int .i64 0),(.int .i64 0)] [(0,5)]) [t44]) fun g o4 k4=>C3 M g (.func x7) [t0_2,(k4 H3.next)] (H3.alloc o4) fun g t46 H5=>GO3 g Q .normal E D H5):=by (repeat' apply And.intro)<;>(intro _ _ _ _;refine W_unf ?_;kernel_rfl)
theorem qly:(cProg Tryd.prog).func zq=some qep/\qep.results=[]:=xv (by kernel_rfl)
theorem qby (h:W M ⟨none,zq⟩ (yc 0) true (FIN3 M [] Q) [(0,a0),(1,a1),(2,a2)] [] H):vt M zq [a0,a1,a2] H Q:=callf (by decide) qly (ks:=qhi) (by kernel_rfl) h
def qfu:AFunc:=funcAt Tryd.prog x7
def qim:Kp:=⟨[0,1],false,[0]⟩
def qin (k:Nat):Kp × ACode:=(qim,part qfu.body k)
theorem qnv (M:Mac) (c:Ctx):(∀ Q E D H,W M c (qin 0) true Q E D H =
 Lz E 0 fun g t0=>Nf g 4 t0 H fun g t8=>Ly g E 1 fun g t1=>B32 g ((Op.append jk 5 40) [t8,t1] H) fun g t10 H1=>Ns g 4 t0 t10 H1 fun g u H2=>GO3 g Q .normal E D H2):=by intro _ _ _ _;refine W_unf ?_;kernel_rfl
theorem qnt:(cProg Tryd.prog).func x7=some qfu/\qfu.results=[]:=xv (by kernel_rfl)
theorem qnu (h:W M ⟨none,x7⟩ (qin 0) true (FIN3 M [] Q) [(0,a0),(1,a1)] [] H):vt M x7 [a0,a1] H Q:=callf (by decide) qnt (ks:=qim) (by kernel_rfl) h
def qed:AFunc:=funcAt Tryd.prog vi
def qgq:Kp:=⟨[0,1,4],false,[0]⟩
def qgr (k:Nat):Kp × ACode:=(qgq,part qed.body k)
theorem qk8 (M:Mac) (c:Ctx):(∀ Q E D H,W M c (qgr 0) true Q E D H =
 Lz E 0 fun g t0=>B3 g (Op.nilCheck [t0]) fun g t7=>B3 g ((Op.fieldAddr 1) [t7]) fun g t8=>Fl g 2 t8 H fun g t10=>B3 g ((Op.build [(.int .i64 0),(.int .i64 0),(.int .i64 0),(.int .i64 0),(.int .i64 0)] [(0,1),(1,1),(4,1)]) [(.int .i64 2),(.int .i64 6),t10]) fun g t11=>B32 g ((Op.buildSlice jk 1 [(.int .i64 0),(.int .i64 0),(.int .i64 0),(.int .i64 0),(.int .i64 0)] [(0,5)]) [t11]) fun g o1 k1=>C3 M g (.func x7) [t0,(k1 H.next)] (H.alloc o1) fun g t13 H2=>Ly g E 0 fun g t0_1=>Ly g E 1 fun g t1=>B3 g ((Op.build [(.int .i64 0),(.int .i64 0),(.int .i64 0),(.int .i64 0),(.int .i64 0)] [(0,1),(1,1),(2,1)]) [(.int .i64 16),t1,(.int .i64 6)]) fun g t16=>C3 M g (.func yo) [t0_1,t16] H2 fun g t17 H3=>Ly g E 0 fun g t0_2=>B3 g ((Op.build [(.int .i64 0),(.int .i64 0),(.int .i64 0),(.int .i64 0),(.int .i64 0)] []) []) fun g t19=>B32 g ((Op.buildSlice jk 1 [(.int .i64 0),(.int .i64 0),(.int .i64 0),(.int .i64 0),(.int .i64 0)] [(0,5)]) [t19]) fun g o4 k4=>C3 M g (.func x7) [t0_2,(k4 H3.next)] (H3.alloc o4) fun g t21 H5=>V3 g [t17] fun g f vs=>C3 M g f vs H5 fun g t23 H6=>GO3 g Q .normal ((4,t17)::E) D H6):=by intro _ _ _ _;refine W_unf ?_;kernel_rfl
theorem qk6:(cProg Tryd.prog).func vi=some qed/\qed.results=[]:=xv (by kernel_rfl)
theorem qk7 (h:W M ⟨none,vi⟩ (qgr 0) true (FIN3 M [] Q) [(0,a0),(1,a1)] [] H):vt M vi [a0,a1] H Q:=callf (by decide) qk6 (ks:=qgq) (by kernel_rfl) h
def qef:AFunc:=funcAt Tryd.prog vj
def qgu:Kp:=⟨[0,1,4,5,6,7],false,[0,4]⟩
def qcl (k:Nat):Kp × ACode:=(qgu,part qef.body k)
theorem qlf (M:Mac) (c:Ctx):(∀ Q E D H,W M c (qcl 0) true Q E D H =
 Lz E 0 fun g t0=>Nf g 0 t0 H fun g t11=>Ly g E 1 fun g t1=>B3 g ((Op.indexSl 3) [t11,t1]) fun g t13=>B3 g ((Op.loadN 3) [t13] H) fun g t14=>A3 g qo [(.int .i64 0),(.int .u64 0),.nils] H fun g t5 H1=>B32 g ((Op.store 3) [t5,t14] H1) fun g u H2=>W M c (qcl 4) g Q ((5,t5)::(4,.nilf)::E) D H2) /\
 (∀ Q E D H,W M c (qcl 4) true Q E D H =
  Lz E 0 fun g t0=>Ly g E 5 fun g t5=>Fl g 2 t5 H fun g t17=>Xl g t17 (.int .i64 0) H fun g t19=>C3 M g (.func zq) [t0,t19,(.int .i64 0)] H fun g t20 H1=>Ly g E 0 fun g t0_1=>Ly g E 5 fun g t5_1=>Fl g 2 t5_1 H1 fun g t23=>Xl g t23 (.int .i64 1) H1 fun g t25=>C3 M g (.func zq) [t0_1,t25,(.int .i64 1)] H1 fun g t26 H2=>Ly g E 0 fun g t0_2=>Ly g E 5 fun g t5_2=>Fl g 0 t5_2 H2 fun g t29=>C3 M g (.func qhh) [t29] H2 fun g t30 H3=>B3 g ((Op.build [(.int .i64 0),(.int .i64 0),(.int .i64 0),(.int .i64 0),(.int .i64 0)] [(0,1),(1,1),(2,1)]) [t30,(.int .i64 0),(.int .i64 1)]) fun g t31=>C3 M g (.func yo) [t0_2,t31] H3 fun g t32 H4=>Ly g E 0 fun g t0_3=>B3 g ((Op.build [(.int .i64 0),(.int .i64 0),(.int .i64 0),(.int .i64 0),(.int .i64 0)] [(0,1)]) [(.int .i64 13)]) fun g t34=>C3 M g (.func yo) [t0_3,t34] H4 fun g t35 H5=>V3 g [t32] fun g f vs=>C3 M g f vs H5 fun g t37 H6=>GO3 g Q .ret ((4,t35)::(7,t35)::(6,t32)::E) D H6):=by (repeat' apply And.intro)<;>(intro _ _ _ _;refine W_unf ?_;kernel_rfl)
theorem qlc:(cProg Tryd.prog).func vj=some qef/\qef.results=[.tmp 4]:=xv (by kernel_rfl)
theorem qld (h:W M ⟨none,vj⟩ (qcl 0) true (FIN3 M [.tmp 4] Q) [(0,a0),(1,a1)] [] H):vt M vj [a0,a1] H Q:=callf (by decide) qlc (ks:=qgu) (by kernel_rfl) h
def qe9:AFunc:=funcAt Tryd.prog yo
def qhz:Kp:=⟨[0,1,2,3,4,5],false,[0]⟩
def qh0 (k:Nat):Kp × ACode:=(qhz,part qe9.body k)
theorem qmo (M:Mac) (c:Ctx):(∀ Q E D H,W M c (qh0 0) true Q E D H =
 Lz E 0 fun g t0=>A3 g qe6 (AV.cells t0) H fun g t2 H1=>Ly g E 1 fun g t1=>A3 g jk (AV.cells t1) H1 fun g t3 H2=>B3 g (Op.load1 [t2] H2) fun g t6=>Nf g 4 t6 H2 fun g t9=>B3 g (Op.lenSl [t9]) fun g t10=>A3 g T_int [(.int .i64 0)] H2 fun g t5 H3=>B32 g ((Op.store 1) [t5,t10] H3) fun g u H4=>B3 g (Op.load1 [t2] H4) fun g t11=>B3 g ((Op.loadN 5) [t3] H4) fun g t12=>B32 g ((Op.buildSlice jk 1 [(.int .i64 0),(.int .i64 0),(.int .i64 0),(.int .i64 0),(.int .i64 0)] [(0,5)]) [t12]) fun g o5 k5=>C3 M g (.func x7) [t11,(k5 H4.next)] (H4.alloc o5) fun g t14 H6=>B3 g ((Op.mkFunc yj 0) [t2,t5]) fun g t15=>GO3 g Q .ret ((4,t15)::(5,t5)::(4,.nilf)::(3,t3)::(2,t2)::E) D H6):=by intro _ _ _ _;refine W_unf ?_;kernel_rfl
theorem qmm:(cProg Tryd.prog).func yo=some qe9/\qe9.results=[.tmp 4]:=xv (by kernel_rfl)
theorem qmn (h:W M ⟨none,yo⟩ (qh0 0) true (FIN3 M [.tmp 4] Q) [(0,a0),(1,a1)] [] H):vt M yo [a0,a1] H Q:=callf (by decide) qmm (ks:=qhz) (by kernel_rfl) h
def qqq:AFunc:=funcAt Tryd.prog qhh
def qvs:Kp:=⟨[0,2],false,[0]⟩
def qvt (k:Nat):Kp × ACode:=(qvs,part qqq.body k)
theorem q3g (M:Mac) (c:Ctx):(∀ Q E D H,W M c (qvt 0) true Q E D H =
 B32 true (Op.mkMap []) fun g o1 k1=>B32 g ((Op.mapUpdate .int) [(k1 H.next),(.int .i64 4),(.int .i64 4)] (H.alloc o1)) fun g u H2=>B32 g ((Op.mapUpdate .int) [(k1 H.next),(.int .i64 5),(.int .i64 5)] H2) fun g u_1 H3=>B32 g ((Op.mapUpdate .int) [(k1 H.next),(.int .i64 6),(.int .i64 6)] H3) fun g u_2 H4=>B32 g ((Op.mapUpdate .int) [(k1 H.next),(.int .i64 7),(.int .i64 7)] H4) fun g u_3 H5=>B32 g ((Op.mapUpdate .int) [(k1 H.next),(.int .i64 8),(.int .i64 8)] H5) fun g u_4 H6=>B32 g ((Op.mapUpdate .int) [(k1 H.next),(.int .i64 9),(.int .i64 9)] H6) fun g u_5 H7=>B32 g ((Op.mapUpdate .int) [(k1 H.next),(.int .i64 10),(.int .i64 10)] H7) fun g u_6 H8=>B32 g ((Op.mapUpdate .int) [(k1 H.next),(.int .i64 11),(.int .i64 14)] H8) fun g u_7 H9=>B32 g ((Op.mapUpdate .int) [(k1 H.next),(.int .i64 12),(.int .i64 15)] H9) fun g u_8 H10=>B32 g ((Op.mapUpdate .int) [(k1 H.next),(.int .i64 13),(.int .i64 16)] H10) fun g u_9 H11=>Ly g E 0 fun g t0=>B3 g ((Op.lookup .int (.int .i64 0) false) [(k1 H.next),t0] H11) fun g t6=>GO3 g Q .ret ((2,t6)::(2,(.int .i64 0))::E) D H11):=by intro _ _ _ _;refine W_unf ?_;kernel_rfl
theorem q3e:(cProg Tryd.prog).func qhh=some qqq/\qqq.results=[.tmp 2]:=xv (by kernel_rfl)
theorem q3f (h:W M ⟨none,qhh⟩ (qvt 0) true (FIN3 M [.tmp 2] Q) [(0,a0)] [] H):vt M qhh [a0] H Q:=callf (by decide) q3e (ks:=qvs) (by kernel_rfl) h
def qee:AFunc:=funcAt Tryd.prog yj
def qgs:Kp:=⟨[0,1],false,[0]⟩
def qgt (k:Nat):Kp × ACode:=(qgs,part qee.body k)
theorem qlb (M:Mac) (c:Ctx):(∀ Q E D H,W M c (qgt 0) true Q E D H =
 Lz E 0 fun g t0=>B3 g (Op.load1 [t0] H) fun g t2=>Nf g 4 t2 H fun g t5=>Ly g E 1 fun g t1=>B3 g (Op.load1 [t1] H) fun g t6=>B3 g (Op.load1 [t0] H) fun g t7=>Nf g 4 t7 H fun g t10=>B3 g (Op.lenSl [t10]) fun g t11=>B3 g ((Op.indexSl 5) [t5,t6]) fun g t12=>Fs g 4 t12 t11 H fun g u H1=>GO3 g Q .normal E D H1):=by intro _ _ _ _;refine W_unf ?_;kernel_rfl
theorem qk9:(cProg Tryd.prog).func yj=some qee/\qee.results=[]:=xv (by kernel_rfl)
theorem qla (h:W M ⟨none,yj⟩ (qgt 0) true (FIN3 M [] Q) [(0,a0),(1,a1)] [] H):vt M yj [a0,a1] H Q:=callf (by decide) qk9 (ks:=qgs) (by kernel_rfl) h
end
end Go.Am
namespace Go.Am
abbrev wk:Nat:=12
abbrev qc0:Nat:=33
abbrev qdv:Nat:=39
abbrev qc2:Nat:=37
abbrev qax:Nat:=38
abbrev qd9:Nat:=36
noncomputable section
open Go.Proofs Go.Proofs.YtbimikjajohflaaDoor
variable {M:Mac} [MK M] {H:AHeap} {Q:AEnd->AHeap->Prop} {a0 a1 a2:AV}
def qfy:AFunc:=funcAt Tryd.prog wk
def qiw:Kp:=⟨[0,1,2,4,6,7,8,9,10,11,12],false,[0,2,10,14,18,20,26,34,42,50]⟩
def xf (k:Nat):Kp × ACode:=(qiw,part qfy.body k)
theorem qn1 (M:Mac) (c:Ctx):(∀ Q E D H,W M c (xf 0) true Q E D H =
 Lz E 1 fun g t1=>A3 g qce (AV.cells t1) H fun g t4 H1=>W M c (xf 2) g Q ((6,(.bool false))::(4,t4)::E) D H1) /\
 (∀ Q E D H,W M c (xf 2) true Q E D H =
  Lz E 0 fun g t0=>C3 M g (.func qc0) [t0] H fun g t14 H1=>IF3 g t14 (fun g=>GO3 g (SEQ3 (W M c (xf 10)) Q) .ret ((6,(.bool true))::E) D H1) (fun g=>Gt g M c (xf 10) Q E D H1)) /\
 (∀ Q E D H,W M c (xf 10) true Q E D H =
  Lz E 0 fun g t0=>Ly g E 4 fun g t4=>B3 g ((Op.loadN 3) [t4] H) fun g t17=>C3 M g (.func qcf) [t0,t17] H fun g t18 H1=>B3 g ((Op.extract 0) [t18]) fun g t19=>B3 g ((Op.extract 1) [t18]) fun g t20=>Ly g E 0 fun g t0_1=>Ly g E 2 fun g t2=>C3 M g (.func qds) [t0_1,t2] H1 fun g t23 H2=>W M c (xf 14) g Q ((9,t23)::(8,t20)::(7,t19)::E) D H2) /\
 (∀ Q E D H,W M c (xf 14) true Q E D H =
  Lz E 0 fun g t0=>C3 M g (.func qd9) [t0] H fun g t25 H1=>Ly g E 4 fun g t4=>Fl g 0 t4 H1 fun g t27=>Fl g 1 t4 H1 fun g t29=>Fl g 2 t4 H1 fun g t31=>C3 M g (.func qc2) [t27,t29,t31] H1 fun g t32 H2=>W M c (xf 18) g Q ((11,t32)::(10,t25)::E) D H2) /\
 (∀ Q E D H,W M c (xf 18) true Q E D H =
  W M c (xf 20) true Q ((12,(.int .i64 0))::E) D H) /\
 (∀ Q E D H,W M c (xf 20) true Q E D H =
  Lz E 10 fun g t10=>JN (fun (k:Bool->AV->AV->AHeap->Prop)=>B3 g (wantV true (some t10)) fun g w=>IG3 g w (fun g=>Ly g E 2 fun g t2=>Bn g .geq t2 (.int .i64 0) fun g t36=>k g t36 t2 H) (fun g=>k g uu uu H)) (fun g t36_1 t35_1 H1=>B3 g (Op.pick [t10,t36_1,(.bool false)]) fun g t37=>JN (fun (k:Bool->AV->AV->AV->AV->AHeap->Prop)=>B3 g (wantV true (some t37)) fun g w=>IG3 g w (fun g=>Ly g E 2 fun g t2_1=>Ly g E 0 fun g t0=>B3 g (Op.lenSl [t0]) fun g t41=>Bn g .lss t2_1 t41 fun g t42=>k g t42 t41 t0 t2_1 H1) (fun g=>k g uu uu uu uu H1)) (fun g t42_1 t41_1 t40_1 t39_1 H2=>B3 g (Op.pick [t37,t42_1,(.bool false)]) fun g t43=>JN (fun (k:Bool->AV->AV->AV->AV->AV->AV->AHeap->Prop)=>B3 g (wantV true (some t43)) fun g w=>IG3 g w (fun g=>Ly g E 0 fun g t0_1=>Ly g E 2 fun g t2_2=>B3 g ((Op.indexSl 3) [t0_1,t2_2]) fun g t47=>B3 g ((Op.fieldAddr 0) [t47]) fun g t48=>B3 g (Op.load1 [t48] H2) fun g t49=>Bn g .leq t49 (.int .i64 10) fun g t50=>k g t50 t49 t48 t47 t2_2 t0_1 H2) (fun g=>k g uu uu uu uu uu uu H2)) (fun g t50_1 t49_1 t48_1 t47_1 t46_1 t45_1 H3=>B3 g (Op.pick [t43,t50_1,(.bool false)]) fun g t51=>IF3 g t51 (fun g=>Ly g E 0 fun g t0_2=>Ly g E 2 fun g t2_3=>C3 M g (.func qax) [t0_2,t2_3] H3 fun g t54 H4=>Gt g M c (xf 26) Q ((12,t54)::E) D H4) (fun g=>Gt g M c (xf 26) Q E D H3))))) /\
 (∀ Q E D H,W M c (xf 26) true Q E D H =
  Lz E 9 fun g t9=>Ly g E 12 fun g t12=>Cb g .neq t9 t12 (fun g=>GO3 g (SEQ3 (W M c (xf 34)) Q) .ret ((6,(.bool false))::E) D H) (fun g=>Gt g M c (xf 34) Q E D H)) /\
 (∀ Q E D H,W M c (xf 34) true Q E D H =
  Lz E 10 fun g t10=>B3 g ((Op.un .not) [t10]) fun g t59=>JN (fun (k:Bool->AV->AV->AHeap->Prop)=>B3 g (wantV false (some t59)) fun g w=>IG3 g w (fun g=>Ly g E 11 fun g t11=>B3 g ((Op.un .not) [t11]) fun g t62=>k g t62 t11 H) (fun g=>k g uu uu H)) (fun g t62_1 t61_1 H1=>B3 g (Op.pick [t59,(.bool true),t62_1]) fun g t63=>IF3 g t63 (fun g=>Ly g E 8 fun g t8=>Bn g .eql t8 (.int .i64 2) fun g t65=>JN (fun (k:Bool->AV->AV->AV->AHeap->Prop)=>B3 g (wantV true (some t65)) fun g w=>IG3 g w (fun g=>Ly g E 7 fun g t7=>B3 g (Op.lenSl [t7]) fun g t68=>Bn g .eql t68 (.int .i64 0) fun g t69=>k g t69 t68 t7 H1) (fun g=>k g uu uu uu H1)) (fun g t69_1 t68_1 t67_1 H2=>B3 g (Op.pick [t65,t69_1,(.bool false)]) fun g t70=>GO3 g (SEQ3 (W M c (xf 42)) Q) .ret ((6,t70)::E) D H2)) (fun g=>Gt g M c (xf 42) Q E D H1))) /\
 (∀ Q E D H,W M c (xf 42) true Q E D H =
  Lz E 0 fun g t0=>C3 M g (.func qdv) [t0] H fun g t72 H1=>IF3 g t72 (fun g=>Ly g E 8 fun g t8=>Bn g .eql t8 (.int .i64 210) fun g t74=>JN (fun (k:Bool->AV->AV->AV->AHeap->Prop)=>B3 g (wantV true (some t74)) fun g w=>IG3 g w (fun g=>Ly g E 7 fun g t7=>B3 g (Op.lenSl [t7]) fun g t77=>Bn g .eql t77 (.int .i64 0) fun g t78=>k g t78 t77 t7 H1) (fun g=>k g uu uu uu H1)) (fun g t78_1 t77_1 t76_1 H2=>B3 g (Op.pick [t74,t78_1,(.bool false)]) fun g t79=>GO3 g (SEQ3 (W M c (xf 50)) Q) .ret ((6,t79)::E) D H2)) (fun g=>Gt g M c (xf 50) Q E D H1)) /\
 (∀ Q E D H,W M c (xf 50) true Q E D H =
  Lz E 8 fun g t8=>Bn g .eql t8 (.int .i64 0) fun g t81=>JN (fun (k:Bool->AV->AV->AV->AHeap->Prop)=>B3 g (wantV true (some t81)) fun g w=>IG3 g w (fun g=>Ly g E 7 fun g t7=>B3 g (Op.lenSl [t7]) fun g t84=>Bn g .leq t84 (.int .i64 1024) fun g t85=>k g t85 t84 t7 H) (fun g=>k g uu uu uu H)) (fun g t85_1 t84_1 t83_1 H1=>B3 g (Op.pick [t81,t85_1,(.bool false)]) fun g t86=>JN (fun (k:Bool->AV->AV->AV->AHeap->Prop)=>B3 g (wantV false (some t86)) fun g w=>IG3 g w (fun g=>Bn g .eql t8 (.int .i64 210) fun g t89=>k g t89 t89 t8 H1) (fun g=>k g uu uu uu H1)) (fun g t90_1 t89_1 t88_1 H2=>JN (fun (k:Bool->AV->AV->AV->AHeap->Prop)=>B3 g (wantV true (some t90_1)) fun g w=>IG3 g w (fun g=>Ly g E 7 fun g t7_1=>B3 g (Op.lenSl [t7_1]) fun g t92=>Bn g .eql t92 (.int .i64 0) fun g t93=>k g t93 t92 t7_1 H2) (fun g=>k g uu uu uu H2)) (fun g t93_1 t92_1 t91_1 H3=>JN (fun (k:Bool->AV->AV->AHeap->Prop)=>B3 g (wantV false (some t86)) fun g w=>IG3 g w (fun g=>B3 g (Op.pick [t90_1,t93_1,(.bool false)]) fun g t94=>k g t94 t94 H3) (fun g=>k g uu uu H3)) (fun g t95_1 t94_1 H4=>JN (fun (k:Bool->AV->AV->AV->AHeap->Prop)=>B3 g (wantV true (some t95_1)) fun g w=>IG3 g w (fun g=>Ly g E 0 fun g t0=>B3 g (Op.lenSl [t0]) fun g t97=>Bn g .gtr t97 (.int .i64 100) fun g t98=>k g t98 t97 t0 H4) (fun g=>k g uu uu uu H4)) (fun g t98_1 t97_1 t96_1 H5=>JN (fun (k:Bool->AV->AHeap->Prop)=>B3 g (wantV false (some t86)) fun g w=>IG3 g w (fun g=>B3 g (Op.pick [t95_1,t98_1,(.bool false)]) fun g t99=>k g t99 H5) (fun g=>k g uu H5)) (fun g t99_1 H6=>B3 g (Op.pick [t86,(.bool true),t99_1]) fun g t100=>GO3 g Q .ret ((6,t100)::E) D H6))))))):=by (repeat' apply And.intro)<;>(intro _ _ _ _;refine W_unf ?_;kernel_rfl)
theorem qnz:(cProg Tryd.prog).func wk=some qfy/\qfy.results=[.tmp 6]:=xv (by kernel_rfl)
theorem qn0 (h:W M ⟨none,wk⟩ (xf 0) true (FIN3 M [.tmp 6] Q) [(0,a0),(1,a1),(2,a2)] [] H):vt M wk [a0,a1,a2] H Q:=callf (by decide) qnz (ks:=qiw) (by kernel_rfl) h
def qja:AFunc:=funcAt Tryd.prog qc0
def qm4:Kp:=⟨[0,2,3,4],false,[0,4,9,15,18,19]⟩
def ve (k:Nat):Kp × ACode:=(qm4,part qja.body k)
theorem qt4 (M:Mac) (c:Ctx):(∀ Q E D H,W M c (ve 0) true Q E D H =
 W M c (ve 4) true Q ((3,(.int .i64 0))::(2,(.bool false))::E) D H) /\
 (∀ Q E D H,W M c (ve 4) true Q E D H =
  LOOP3 (W M c (ve 9)) (BLK3 0 (SEQ3 (W M c (ve 19)) Q)) ((4,(.int .i64 0))::E) D H) /\
 (∀ Q E D H,W M c (ve 19) true Q E D H =
  Lz E 3 fun g t3=>Bn g .gtr t3 (.int .i64 1000) fun g t21=>GO3 g Q .ret ((2,t21)::E) D H) /\
 (∀ Q E D H,W M c (ve 9) true Q E D H =
  Lz E 4 fun g t4=>Ly g E 0 fun g t0=>B3 g (Op.lenSl [t0]) fun g t7=>Cb g .lss t4 t7 (fun g=>Gt g M c (ve 15) Q E D H) (fun g=>GO3 g (SEQ3 (W M c (ve 15)) Q) (.exit 0) E D H)) /\
 (∀ Q E D H,W M c (ve 15) true Q E D H =
  Lz E 3 fun g t3=>Bn g .add t3 (.int .i64 1) fun g t12=>Ly g E 0 fun g t0=>Ly g E 4 fun g t4=>B3 g ((Op.indexSl 3) [t0,t4]) fun g t15=>Fl g 2 t15 H fun g t17=>B3 g (Op.lenSl [t17]) fun g t18=>Bn g .add t12 t18 fun g t19=>GO3 g (BLK3 1 (SEQ3 (W M c (ve 18)) Q)) .normal ((3,t19)::E) D H) /\
 (∀ Q E D H,W M c (ve 18) true Q E D H =
  Lz E 4 fun g t4=>Bn g .add t4 (.int .i64 1) fun g t10=>GO3 g Q .normal ((4,t10)::E) D H):=by (repeat' apply And.intro)<;>(intro _ _ _ _;refine W_unf ?_;kernel_rfl)
theorem qt2:(cProg Tryd.prog).func qc0=some qja/\qja.results=[.tmp 2]:=xv (by kernel_rfl)
theorem qt3 (h:W M ⟨none,qc0⟩ (ve 0) true (FIN3 M [.tmp 2] Q) [(0,a0)] [] H):vt M qc0 [a0] H Q:=callf (by decide) qt2 (ks:=qm4) (by kernel_rfl) h
def qjl:AFunc:=funcAt Tryd.prog qd9
def qne:Kp:=⟨[0,2,4],false,[0]⟩
def qnf (k:Nat):Kp × ACode:=(qne,part qjl.body k)
theorem quz (M:Mac) (c:Ctx):(∀ Q E D H,W M c (qnf 0) true Q E D H =
 Lz E 0 fun g t0=>C3 M g (.func yb) [t0] H fun g t7 H1=>B3 g ((Op.extract 0) [t7]) fun g t8=>B3 g ((Op.extract 1) [t7]) fun g t9=>Bn g .eql t9 (.int .i64 0) fun g t11=>GO3 g Q .ret ((2,t11)::(4,t9)::(2,(.bool false))::E) D H1):=by intro _ _ _ _;refine W_unf ?_;kernel_rfl
theorem qux:(cProg Tryd.prog).func qd9=some qjl/\qjl.results=[.tmp 2]:=xv (by kernel_rfl)
theorem quy (h:W M ⟨none,qd9⟩ (qnf 0) true (FIN3 M [.tmp 2] Q) [(0,a0)] [] H):vt M qd9 [a0] H Q:=callf (by decide) qux (ks:=qne) (by kernel_rfl) h
def qji:AFunc:=funcAt Tryd.prog qc2
def qnc:Kp:=⟨[0,1,2,6,7],false,[0,2,10,15,21,30,31]⟩
def kc (k:Nat):Kp × ACode:=(qnc,part qji.body k)
theorem quv (M:Mac) (c:Ctx):(∀ Q E D H,W M c (kc 0) true Q E D H =
 W M c (kc 2) true Q ((6,(.bool false))::E) D H) /\
 (∀ Q E D H,W M c (kc 2) true Q E D H =
  Lz E 0 fun g t0=>Bn g .lss t0 (.int .i64 0) fun g t9=>JN (fun (k:Bool->AV->AV->AHeap->Prop)=>B3 g (wantV false (some t9)) fun g w=>IG3 g w (fun g=>Bn g .gtr t0 (.int .i64 4096) fun g t12=>k g t12 t0 H) (fun g=>k g uu uu H)) (fun g t12_1 t11_1 H1=>B3 g (Op.pick [t9,(.bool true),t12_1]) fun g t13=>JN (fun (k:Bool->AV->AV->AHeap->Prop)=>B3 g (wantV false (some t13)) fun g w=>IG3 g w (fun g=>Ly g E 1 fun g t1=>Bn g .lss t1 (.int .i64 0) fun g t16=>k g t16 t1 H1) (fun g=>k g uu uu H1)) (fun g t16_1 t15_1 H2=>B3 g (Op.pick [t13,(.bool true),t16_1]) fun g t17=>JN (fun (k:Bool->AV->AV->AHeap->Prop)=>B3 g (wantV false (some t17)) fun g w=>IG3 g w (fun g=>Ly g E 1 fun g t1_1=>Bn g .gtr t1_1 (.int .i64 4096) fun g t20=>k g t20 t1_1 H2) (fun g=>k g uu uu H2)) (fun g t20_1 t19_1 H3=>B3 g (Op.pick [t17,(.bool true),t20_1]) fun g t21=>JN (fun (k:Bool->AV->AV->AHeap->Prop)=>B3 g (wantV false (some t21)) fun g w=>IG3 g w (fun g=>Ly g E 2 fun g t2=>Bn g .lss t2 (.int .i64 0) fun g t24=>k g t24 t2 H3) (fun g=>k g uu uu H3)) (fun g t24_1 t23_1 H4=>B3 g (Op.pick [t21,(.bool true),t24_1]) fun g t25=>JN (fun (k:Bool->AV->AV->AHeap->Prop)=>B3 g (wantV false (some t25)) fun g w=>IG3 g w (fun g=>Ly g E 2 fun g t2_1=>Bn g .gtr t2_1 (.int .i64 4096) fun g t28=>k g t28 t2_1 H4) (fun g=>k g uu uu H4)) (fun g t28_1 t27_1 H5=>B3 g (Op.pick [t25,(.bool true),t28_1]) fun g t29=>IF3 g t29 (fun g=>GO3 g (SEQ3 (W M c (kc 10)) Q) .ret ((6,(.bool false))::E) D H5) (fun g=>Gt g M c (kc 10) Q E D H5))))))) /\
 (∀ Q E D H,W M c (kc 10) true Q E D H =
  Lz E 0 fun g t0=>LOOP3 (W M c (kc 15)) (BLK3 0 (SEQ3 (W M c (kc 31)) Q)) ((7,t0)::E) D H) /\
 (∀ Q E D H,W M c (kc 31) true Q E D H =
  GO3 true Q .ret ((6,(.bool true))::E) D H) /\
 (∀ Q E D H,W M c (kc 15) true Q E D H =
  Lz E 7 fun g t7=>Ly g E 0 fun g t0=>Bn g .add t0 (.int .i64 8) fun g t33=>Cb g .lss t7 t33 (fun g=>Gt g M c (kc 21) Q E D H) (fun g=>GO3 g (SEQ3 (W M c (kc 21)) Q) (.exit 0) E D H)) /\
 (∀ Q E D H,W M c (kc 21) true Q E D H =
  Lz E 7 fun g t7=>Ly g E 1 fun g t1=>Bn g .geq t7 t1 fun g t39=>JN (fun (k:Bool->AV->AV->AV->AV->AV->AHeap->Prop)=>B3 g (wantV true (some t39)) fun g w=>IG3 g w (fun g=>Ly g E 2 fun g t2=>Bn g .add t1 t2 fun g t44=>Bn g .lss t7 t44 fun g t45=>k g t45 t44 t2 t1 t7 H) (fun g=>k g uu uu uu uu uu H)) (fun g t45_1 t44_1 t43_1 t42_1 t41_1 H1=>B3 g (Op.pick [t39,t45_1,(.bool false)]) fun g t46=>IF3 g t46 (fun g=>GO3 g (BLK3 1 (SEQ3 (W M c (kc 30)) Q)) .ret ((6,(.bool false))::E) D H1) (fun g=>GO3 g (BLK3 1 (SEQ3 (W M c (kc 30)) Q)) .normal E D H1))) /\
 (∀ Q E D H,W M c (kc 30) true Q E D H =
  Lz E 7 fun g t7=>Bn g .add t7 (.int .i64 1) fun g t36=>GO3 g Q .normal ((7,t36)::E) D H):=by (repeat' apply And.intro)<;>(intro _ _ _ _;refine W_unf ?_;kernel_rfl)
theorem qut:(cProg Tryd.prog).func qc2=some qji/\qji.results=[.tmp 6]:=xv (by kernel_rfl)
theorem quu (h:W M ⟨none,qc2⟩ (kc 0) true (FIN3 M [.tmp 6] Q) [(0,a0),(1,a1),(2,a2)] [] H):vt M qc2 [a0,a1,a2] H Q:=callf (by decide) qut (ks:=qnc) (by kernel_rfl) h
def qjj:AFunc:=funcAt Tryd.prog qax
def qnd:Kp:=⟨[0,1,4,5,6,7],false,[0,4,12,14,22,24,32]⟩
def ke (k:Nat):Kp × ACode:=(qnd,part qjj.body k)
theorem qc6 (M:Mac) (c:Ctx):(∀ Q E D H,W M c (ke 0) true Q E D H =
 Lz E 0 fun g t0=>Ly g E 1 fun g t1=>B3 g ((Op.indexSl 3) [t0,t1]) fun g t10=>B3 g ((Op.loadN 3) [t10] H) fun g t11=>A3 g qo [(.int .i64 0),(.int .u64 0),.nils] H fun g t5 H1=>B32 g ((Op.store 3) [t5,t11] H1) fun g u H2=>W M c (ke 4) g Q ((5,t5)::(4,(.int .i64 0))::E) D H2) /\
 (∀ Q E D H,W M c (ke 4) true Q E D H =
  Lz E 5 fun g t5=>Fl g 2 t5 H fun g t13=>B3 g (Op.lenSl [t13]) fun g t14=>Cb g .eql t14 (.int .i64 0) (fun g=>GO3 g (SEQ3 (W M c (ke 12)) Q) .ret ((4,(.int .i64 1))::E) D H) (fun g=>Gt g M c (ke 12) Q E D H)) /\
 (∀ Q E D H,W M c (ke 12) true Q E D H =
  Lz E 0 fun g t0=>Ly g E 5 fun g t5=>Fl g 2 t5 H fun g t18=>Xl g t18 (.int .i64 0) H fun g t20=>C3 M g (.func qax) [t0,t20] H fun g t21 H1=>W M c (ke 14) g Q ((6,t21)::E) D H1) /\
 (∀ Q E D H,W M c (ke 14) true Q E D H =
  Lz E 5 fun g t5=>Fl g 2 t5 H fun g t23=>B3 g (Op.lenSl [t23]) fun g t24=>Cb g .eql t24 (.int .i64 1) (fun g=>Ly g E 6 fun g t6=>GO3 g (SEQ3 (W M c (ke 22)) Q) .ret ((4,t6)::E) D H) (fun g=>Gt g M c (ke 22) Q E D H)) /\
 (∀ Q E D H,W M c (ke 22) true Q E D H =
  Lz E 0 fun g t0=>Ly g E 5 fun g t5=>Fl g 2 t5 H fun g t29=>Xl g t29 (.int .i64 1) H fun g t31=>C3 M g (.func qax) [t0,t31] H fun g t32 H1=>Bn g .add t32 (.int .i64 1) fun g t33=>W M c (ke 24) g Q ((7,t33)::E) D H1) /\
 (∀ Q E D H,W M c (ke 24) true Q E D H =
  Lz E 7 fun g t7=>Ly g E 6 fun g t6=>Cb g .gtr t7 t6 (fun g=>Ly g E 7 fun g t7_1=>GO3 g (SEQ3 (W M c (ke 32)) Q) .ret ((4,t7_1)::E) D H) (fun g=>Gt g M c (ke 32) Q E D H)) /\
 (∀ Q E D H,W M c (ke 32) true Q E D H =
  Lz E 6 fun g t6=>GO3 g Q .ret ((4,t6)::E) D H):=by (repeat' apply And.intro)<;>(intro _ _ _ _;refine W_unf ?_;kernel_rfl)
theorem quw:(cProg Tryd.prog).func qax=some qjj/\qjj.results=[.tmp 4]:=xv (by kernel_rfl)
theorem qjk (h:W M ⟨none,qax⟩ (ke 0) true (FIN3 M [.tmp 4] Q) [(0,a0),(1,a1)] [] H):vt M qax [a0,a1] H Q:=callf (by decide) quw (ks:=qnd) (by kernel_rfl) h
def qkm:AFunc:=funcAt Tryd.prog qdv
def qpb:Kp:=⟨[0,2,3,4,5],false,[0,2,7,13,20,24,30,39,41,42]⟩
def z8 (k:Nat):Kp × ACode:=(qpb,part qkm.body k)
theorem qxl (M:Mac) (c:Ctx):(∀ Q E D H,W M c (z8 0) true Q E D H =
 W M c (z8 2) true Q ((2,(.bool false))::E) D H) /\
 (∀ Q E D H,W M c (z8 2) true Q E D H =
  LOOP3 (W M c (z8 7)) (BLK3 0 (SEQ3 (W M c (z8 42)) Q)) ((3,(.int .i64 0))::E) D H) /\
 (∀ Q E D H,W M c (z8 42) true Q E D H =
  GO3 true Q .ret ((2,(.bool false))::E) D H) /\
 (∀ Q E D H,W M c (z8 7) true Q E D H =
  Lz E 3 fun g t3=>Ly g E 0 fun g t0=>B3 g (Op.lenSl [t0]) fun g t8=>Cb g .lss t3 t8 (fun g=>Gt g M c (z8 13) Q E D H) (fun g=>GO3 g (SEQ3 (W M c (z8 13)) Q) (.exit 0) E D H)) /\
 (∀ Q E D H,W M c (z8 13) true Q E D H =
  Lz E 0 fun g t0=>Ly g E 3 fun g t3=>B3 g ((Op.indexSl 3) [t0,t3]) fun g t14=>B3 g ((Op.loadN 3) [t14] H) fun g t15=>A3 g qo [(.int .i64 0),(.int .u64 0),.nils] H fun g t4 H1=>B32 g ((Op.store 3) [t4,t15] H1) fun g u H2=>Fl g 0 t4 H2 fun g t17=>Bn g .geq t17 (.int .i64 11) fun g t18=>JN (fun (k:Bool->AV->AV->AV->AHeap->Prop)=>B3 g (wantV true (some t18)) fun g w=>IG3 g w (fun g=>B3 g ((Op.fieldAddr 0) [t4]) fun g t20=>B3 g (Op.load1 [t20] H2) fun g t21=>Bn g .leq t21 (.int .i64 15) fun g t22=>k g t22 t21 t20 H2) (fun g=>k g uu uu uu H2)) (fun g t22_1 t21_1 t20_1 H3=>B3 g (Op.pick [t18,t22_1,(.bool false)]) fun g t23=>IF3 g t23 (fun g=>W M c (z8 20) g (BLK3 1 (SEQ3 (W M c (z8 41)) Q)) ((4,t4)::E) D H3) (fun g=>GO3 g (BLK3 1 (SEQ3 (W M c (z8 41)) Q)) .normal ((4,t4)::E) D H3))) /\
 (∀ Q E D H,W M c (z8 41) true Q E D H =
  Lz E 3 fun g t3=>Bn g .add t3 (.int .i64 1) fun g t11=>GO3 g Q .normal ((3,t11)::E) D H) /\
 (∀ Q E D H,W M c (z8 20) true Q E D H =
  LOOP3 (W M c (z8 24)) (BLK3 2 Q) ((5,(.int .i64 0))::E) D H) /\
 (∀ Q E D H,W M c (z8 24) true Q E D H =
  Lz E 5 fun g t5=>Ly g E 4 fun g t4=>Fl g 2 t4 H fun g t26=>B3 g (Op.lenSl [t26]) fun g t27=>Cb g .lss t5 t27 (fun g=>Gt g M c (z8 30) Q E D H) (fun g=>GO3 g (SEQ3 (W M c (z8 30)) Q) (.exit 2) E D H)) /\
 (∀ Q E D H,W M c (z8 30) true Q E D H =
  Lz E 0 fun g t0=>Ly g E 4 fun g t4=>Fl g 2 t4 H fun g t33=>Ly g E 5 fun g t5=>Xl g t33 t5 H fun g t36=>C3 M g (.func qax) [t0,t36] H fun g t37 H1=>Bn g .add t37 t5 fun g t39=>Cb g .gtr t39 (.int .i64 6) (fun g=>GO3 g (BLK3 3 (SEQ3 (W M c (z8 39)) Q)) .ret ((2,(.bool true))::E) D H1) (fun g=>GO3 g (BLK3 3 (SEQ3 (W M c (z8 39)) Q)) .normal E D H1)) /\
 (∀ Q E D H,W M c (z8 39) true Q E D H =
  Lz E 5 fun g t5=>Bn g .add t5 (.int .i64 1) fun g t30=>GO3 g Q .normal ((5,t30)::E) D H):=by (repeat' apply And.intro)<;>(intro _ _ _ _;refine W_unf ?_;kernel_rfl)
theorem qxj:(cProg Tryd.prog).func qdv=some qkm/\qkm.results=[.tmp 2]:=xv (by kernel_rfl)
theorem qxk (h:W M ⟨none,qdv⟩ (z8 0) true (FIN3 M [.tmp 2] Q) [(0,a0)] [] H):vt M qdv [a0] H Q:=callf (by decide) qxj (ks:=qpb) (by kernel_rfl) h
end
end Go.Am
