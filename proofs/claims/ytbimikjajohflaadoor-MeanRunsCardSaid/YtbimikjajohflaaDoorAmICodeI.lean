/- CodeI: CodeS CodeLA CodeLB CodeMA CodeMF CodeMR CodeMT. -/
import Derived.Test.YtbimikjajohflaaDoorAmIB4
import Derived.Test.YtbimikjajohflaaDoorAmIB1
import Derived.KernelRfl
import Derived.Test.YtbimikjajohflaaDoorRows
set_option linter.unusedVariables false
set_option maxRecDepth 100000
namespace Go.Am
abbrev kj:Nat:=136
abbrev ky:Nat:=147
abbrev jj:Nat:=141
abbrev qh2:Nat:=142
abbrev kz:Nat:=145
abbrev k9:Nat:=140
abbrev vi:Nat:=139
abbrev qa7:Nat:=146
abbrev qaq:Nat:=127
abbrev vz:Nat:=97
abbrev ym:Nat:=98
abbrev j9:Nat:=42
abbrev z9:Nat:=94
abbrev jz:Nat:=122
abbrev qa1:Nat:=126
abbrev q75:Nat:=167
abbrev vj:Nat:=9
abbrev qbz:Nat:=5
abbrev z8:Nat:=1
def q7r:List UInt8:=[115,116,114,105,110,103,115,46,66,117,105,108,100,101,114,46,71,114,111,119,58,32,110,101,103,97,116,105,118,101,32,99,111,117,110,116]
def qug:List UInt8:=[48,49,50,51,52,53,54,55,56,57,97,98,99,100,101,102,103,104,105,106,107,108,109,110,111,112,113,114,115,116,117,118,119,120,121,122]
def wg:List UInt8:=[48,48,48,49,48,50,48,51,48,52,48,53,48,54,48,55,48,56,48,57,49,48,49,49,49,50,49,51,49,52,49,53,49,54,49,55,49,56,49,57,50,48,50,49,50,50,50,51,50,52,50,53,50,54,50,55,50,56,50,57,51,48,51,49,51,50,51,51,51,52,51,53,51,54,51,55,51,56,51,57,52,48,52,49,52,50,52,51,52,52,52,53,52,54,52,55,52,56,52,57,53,48,53,49,53,50,53,51,53,52,53,53,53,54,53,55,53,56,53,57,54,48,54,49,54,50,54,51,54,52,54,53,54,54,54,55,54,56,54,57,55,48,55,49,55,50,55,51,55,52,55,53,55,54,55,55,55,56,55,57,56,48,56,49,56,50,56,51,56,52,56,53,56,54,56,55,56,56,56,57,57,48,57,49,57,50,57,51,57,52,57,53,57,54,57,55,57,56,57,57]
def qpr:List UInt8:=[0,1,2,2,3,3,3,3,4,4,4,4,4,4,4,4,5,5,5,5,5,5,5,5,5,5,5,5,5,5,5,5,6,6,6,6,6,6,6,6,6,6,6,6,6,6,6,6,6,6,6,6,6,6,6,6,6,6,6,6,6,6,6,6,7,7,7,7,7,7,7,7,7,7,7,7,7,7,7,7,7,7,7,7,7,7,7,7,7,7,7,7,7,7,7,7,7,7,7,7,7,7,7,7,7,7,7,7,7,7,7,7,7,7,7,7,7,7,7,7,7,7,7,7,7,7,7,7,8,8,8,8,8,8,8,8,8,8,8,8,8,8,8,8,8,8,8,8,8,8,8,8,8,8,8,8,8,8,8,8,8,8,8,8,8,8,8,8,8,8,8,8,8,8,8,8,8,8,8,8,8,8,8,8,8,8,8,8,8,8,8,8,8,8,8,8,8,8,8,8,8,8,8,8,8,8,8,8,8,8,8,8,8,8,8,8,8,8,8,8,8,8,8,8,8,8,8,8,8,8,8,8,8,8,8,8,8,8,8,8,8,8,8,8,8,8,8,8,8,8,8,8,8,8,8,8]
noncomputable section
open Go.Proofs Go.Proofs.YtbimikjajohflaaDoor
class MK (M:Mac):Prop where
 ok:∀ n,memN n [20,30]=false->M.func n=(cProg Tryd.prog).func n
theorem MK.at {M:Mac} [h:MK M] {n:Nat} {F:AFunc} (hn:memN n [20,30]=false) (hF:(cProg Tryd.prog).func n=some F):M.func n=some F:=(h.ok n hn).trans hF
theorem callf {M:Mac} [h:MK M] {n:Nat} {F:AFunc} (hn:memN n [20,30]=false) {rs:List ARes} (hF:(cProg Tryd.prog).func n=some F/\F.results=rs) {ks:Kp} {vs:List AV} (hk:keepB 0 vs.length ks.keep=true) {H:AHeap} {Q:AEnd->AHeap->Prop} (hw:W M ⟨none,n⟩ (ks,part F.body 0) true (FIN3 M rs Q) (envA 0 vs) [] H):yb M n vs H Q:=calle (MK.at hn hF.1) hk (hF.2 ▸ hw)
variable {M:Mac} [MK M] {H:AHeap} {Q:AEnd->AHeap->Prop} {a0 a1:AV}
def qfk:AFunc:=funcAt Tryd.prog qaq
def qil:Kp:=⟨[0,1,4],false,[0]⟩
def qim (k:Nat):Kp × ACode:=(qil,part qfk.body k)
theorem qin (M:Mac) (c:Ctx):(∀ Q E D H,W M c (qim 0) true Q E D H =
 Lz E 0 fun g t0=>Ly g E 1 fun g t1=>C3 M g (.func kj) [t0,t1] H fun g t7 H1=>GO3 g Q .ret ((4,t7)::(4,(.str []))::E) D H1):=by intro _ _ _ _;refine W_unf ?_;kernel_rfl
theorem qoi:(cProg Tryd.prog).func qaq=some qfk/\qfk.results=[.tmp 4]:=x9 (by kernel_rfl)
theorem qoj (h:W M ⟨none,qaq⟩ (qim 0) true (FIN3 M [.tmp 4] Q) [(0,a0),(1,a1)] [] H):yb M qaq [a0,a1] H Q:=callf (by decide) qoi (ks:=qil) (by kernel_rfl) h
def qed:AFunc:=funcAt Tryd.prog vz
def qg6:Kp:=⟨[0,1],false,[0,2,8]⟩
def v9 (k:Nat):Kp × ACode:=(qg6,part qed.body k)
theorem qcw (M:Mac) (c:Ctx):(∀ Q E D H,W M c (v9 0) true Q E D H =
 Lz E 0 fun g t0=>C3 M g (.func jz) [t0] H fun g t5 H1=>W M c (v9 2) g Q E D H1) /\
 (∀ Q E D H,W M c (v9 2) true Q E D H =
  Lz E 1 fun g t1=>Cb g .lss t1 (.int .i64 0) (fun g=>B3 g ((Op.mkIface vj) [(.str q7r)]) fun g t8=>False) (fun g=>Gt g M c (v9 8) Q E D H)) /\
 (∀ Q E D H,W M c (v9 8) true Q E D H =
  Lz E 0 fun g t0=>Nf g 1 t0 H fun g t12=>B3 g (Op.cap [t12]) fun g t13=>Nf g 1 t0 H fun g t17=>B3 g (Op.lenSl [t17]) fun g t18=>Bn g .sub t13 t18 fun g t19=>Ly g E 1 fun g t1=>Cb g .lss t19 t1 (fun g=>Ly g E 0 fun g t0_1=>Ly g E 1 fun g t1_1=>C3 M g (.func qa1) [t0_1,t1_1] H fun g t24 H1=>GO3 g Q .normal E D H1) (fun g=>GO3 g Q .normal E D H)):=by (repeat' apply And.intro)<;>(intro _ _ _ _;refine W_unf ?_;kernel_rfl)
theorem qms:(cProg Tryd.prog).func vz=some qed/\qed.results=[]:=x9 (by kernel_rfl)
theorem qmt (h:W M ⟨none,vz⟩ (v9 0) true (FIN3 M [] Q) [(0,a0),(1,a1)] [] H):yb M vz [a0,a1] H Q:=callf (by decide) qms (ks:=qg6) (by kernel_rfl) h
def qb2:AFunc:=funcAt Tryd.prog z9
def qd7:Kp:=⟨[0,1,4,5],false,[0]⟩
def qd8 (k:Nat):Kp × ACode:=(qd7,part qb2.body k)
theorem qb3 (M:Mac) (c:Ctx):(∀ Q E D H,W M c (qd8 0) true Q E D H =
 Lz E 0 fun g t0=>C3 M g (.func jz) [t0] H fun g t7 H1=>Ly g E 0 fun g t0_1=>Nf g 1 t0_1 H1 fun g t12=>Ly g E 1 fun g t1=>B32 g ((Op.append qbz 1 1) [t12,t1] H1) fun g t14 H2=>Ns g 1 t0_1 t14 H2 fun g u H3=>Ly g E 1 fun g t1_1=>B3 g (Op.lenStr [t1_1]) fun g t18=>GO3 g Q .ret ((5,.nili)::(4,t18)::(5,.nili)::(4,(.int .i64 0))::E) D H3):=by intro _ _ _ _;refine W_unf ?_;kernel_rfl
theorem qib:(cProg Tryd.prog).func z9=some qb2/\qb2.results=[.tmp 4,.tmp 5]:=x9 (by kernel_rfl)
theorem qic (h:W M ⟨none,z9⟩ (qd8 0) true (FIN3 M [.tmp 4,.tmp 5] Q) [(0,a0),(1,a1)] [] H):yb M z9 [a0,a1] H Q:=callf (by decide) qib (ks:=qd7) (by kernel_rfl) h
def qdq:AFunc:=funcAt Tryd.prog j9
def qge:Kp:=⟨[0,2],false,[0]⟩
def qgf (k:Nat):Kp × ACode:=(qge,part qdq.body k)
theorem qgg (M:Mac) (c:Ctx):(∀ Q E D H,W M c (qgf 0) true Q E D H =
 Lz E 0 fun g t0=>Nf g 1 t0 H fun g t6=>B3 g (Op.sliceData [t6]) fun g t7=>Nf g 1 t0 H fun g t11=>B3 g (Op.lenSl [t11]) fun g t12=>B32 g ((Op.strOfPtr qbz) [t7,t12] H) fun g t13 H1=>GO3 g Q .ret ((2,t13)::(2,(.str []))::E) D H1):=by intro _ _ _ _;refine W_unf ?_;kernel_rfl
theorem qlk:(cProg Tryd.prog).func j9=some qdq/\qdq.results=[.tmp 2]:=x9 (by kernel_rfl)
theorem qll (h:W M ⟨none,j9⟩ (qgf 0) true (FIN3 M [.tmp 2] Q) [(0,a0)] [] H):yb M j9 [a0] H Q:=callf (by decide) qlk (ks:=qge) (by kernel_rfl) h
def qez:AFunc:=funcAt Tryd.prog ym
def qh0:Kp:=⟨[0,2],false,[0]⟩
def qh1 (k:Nat):Kp × ACode:=(qh0,part qez.body k)
theorem qnq (M:Mac) (c:Ctx):(∀ Q E D H,W M c (qh1 0) true Q E D H =
 Lz E 0 fun g t0=>Nf g 1 t0 H fun g t6=>B3 g (Op.lenSl [t6]) fun g t7=>GO3 g Q .ret ((2,t7)::(2,(.int .i64 0))::E) D H):=by intro _ _ _ _;refine W_unf ?_;kernel_rfl
theorem qno:(cProg Tryd.prog).func ym=some qez/\qez.results=[.tmp 2]:=x9 (by kernel_rfl)
theorem qnp (h:W M ⟨none,ym⟩ (qh1 0) true (FIN3 M [.tmp 2] Q) [(0,a0)] [] H):yb M ym [a0] H Q:=callf (by decide) qno (ks:=qh0) (by kernel_rfl) h
def qb1:AFunc:=funcAt Tryd.prog kj
def qd6:Kp:=⟨[0,1,4,5,6,8],false,[0,2,6,14,24]⟩
def x6 (k:Nat):Kp × ACode:=(qd6,part qb1.body k)
theorem wu (M:Mac) (c:Ctx):(∀ Q E D H,W M c (x6 0) true Q E D H =
 W M c (x6 2) true Q ((4,(.str []))::E) D H) /\
 (∀ Q E D H,W M c (x6 2) true Q E D H =
  Lz E 1 fun g t1=>Cb g .eql t1 (.int .i64 10) (fun g=>W M c (x6 6) g (SEQ3 (W M c (x6 24)) Q) E D H) (fun g=>Gt g M c (x6 24) Q E D H)) /\
 (∀ Q E D H,W M c (x6 24) true Q E D H =
  Lz E 0 fun g t0=>Ly g E 1 fun g t1=>C3 M g (.func qh2) [.nils,t0,t1,(.bool false),(.bool false)] H fun g t28 H1=>B3 g ((Op.extract 0) [t28]) fun g t29=>B3 g ((Op.extract 1) [t28]) fun g t30=>GO3 g Q .ret ((4,t30)::(8,t30)::E) D H1) /\
 (∀ Q E D H,W M c (x6 6) true Q E D H =
  Lz E 0 fun g t0=>Cb g .lss t0 (.int .u64 100) (fun g=>Ly g E 0 fun g t0_1=>B3 g ((Op.wrap .i64) [t0_1]) fun g t14=>C3 M g (.func vi) [t14] H fun g t15 H1=>GO3 g (SEQ3 (W M c (x6 14)) Q) .ret ((4,t15)::E) D H1) (fun g=>Gt g M c (x6 14) Q E D H)) /\
 (∀ Q E D H,W M c (x6 14) true Q E D H =
  A3 true q75 (List.replicate 24 (.int .u8 0)) H fun g t5 H1=>Ly g E 0 fun g t0=>C3 M g (.func k9) [t0] H1 fun g t17 H2=>B3 g ((Op.sliceArr 24 1 [none,(some 0),none]) [t5,t17]) fun g t19=>Ly g E 0 fun g t0_1=>C3 M g (.func jj) [t19,t0_1] H2 fun g t21 H3=>B3 g ((Op.sliceArr 24 1 [none,(some 0),none]) [t5,t17]) fun g t23=>B3 g (Op.strOfBytes [t23] H3) fun g t24=>GO3 g Q .ret ((4,t24)::(6,t17)::(5,t5)::E) D H3):=by (repeat' apply And.intro)<;>(intro _ _ _ _;refine W_unf ?_;kernel_rfl)
theorem qh4:(cProg Tryd.prog).func kj=some qb1/\qb1.results=[.tmp 4]:=x9 (by kernel_rfl)
theorem qh5 (h:W M ⟨none,kj⟩ (x6 0) true (FIN3 M [.tmp 4] Q) [(0,a0),(1,a1)] [] H):yb M kj [a0,a1] H Q:=callf (by decide) qh4 (ks:=qd6) (by kernel_rfl) h
def qct:AFunc:=funcAt Tryd.prog jz
def qe0:Kp:=⟨[0],false,[0]⟩
def qe1 (k:Nat):Kp × ACode:=(qe0,part qct.body k)
theorem qe2 (M:Mac) (c:Ctx):(∀ Q E D H,W M c (qe1 0) true Q E D H =
 Lz E 0 fun g t0=>Nf g 0 t0 H fun g t5=>B3 g ((Op.eq .ptr false) [t5,.nilp] H) fun g t6=>IF3 g t6 (fun g=>Ly g E 0 fun g t0_1=>B3 g ((Op.castPtr (liesB Tryd.prog 78)) [t0_1] H) fun g t9=>B3 g (Op.noEscape [t9]) fun g t10=>B3 g ((Op.castPtr (liesB Tryd.prog 78)) [t10] H) fun g t11=>Ns g 0 t0_1 t11 H fun g u H1=>GO3 g Q .normal E D H1) (fun g=>Ly g E 0 fun g t0_1=>Nf g 0 t0_1 H fun g t17=>B3 g ((Op.eq .ptr true) [t17,t0_1] H) fun g t19=>IF3 g t19 (fun g=>False) (fun g=>GO3 g Q .normal E D H))):=by intro _ _ _ _;refine W_unf ?_;kernel_rfl
theorem qjx:(cProg Tryd.prog).func jz=some qct/\qct.results=[]:=x9 (by kernel_rfl)
theorem qjy (h:W M ⟨none,jz⟩ (qe1 0) true (FIN3 M [] Q) [(0,a0)] [] H):yb M jz [a0] H Q:=callf (by decide) qjx (ks:=qe0) (by kernel_rfl) h
def qee:AFunc:=funcAt Tryd.prog qa1
def qg7:Kp:=⟨[0,1,4],false,[0]⟩
def qg8 (k:Nat):Kp × ACode:=(qg7,part qee.body k)
theorem qmw (M:Mac) (c:Ctx):(∀ Q E D H,W M c (qg8 0) true Q E D H =
 Lz E 0 fun g t0=>Nf g 1 t0 H fun g t8=>B3 g (Op.cap [t8]) fun g t9=>Bn g .mul (.int .i64 2) t9 fun g t10=>Ly g E 1 fun g t1=>Bn g .add t10 t1 fun g t12=>Nf g 1 t0 H fun g t17=>B3 g (Op.lenSl [t17]) fun g t18=>B32 g ((Op.makeNoZero qbz) [t12]) fun g o1 k1=>B3 g ((Op.sliceSl 1 [none,(some 0),none]) [(k1 H.next),t18]) fun g t19=>Ly g E 0 fun g t0_1=>Nf g 1 t0_1 (H.alloc o1) fun g t24=>B32 g ((Op.copy 1) [t19,t24] (H.alloc o1)) fun g t25 H2=>Ly g E 0 fun g t0_2=>Ns g 1 t0_2 t19 H2 fun g u H3=>GO3 g Q .normal ((4,t19)::E) D H3):=by intro _ _ _ _;refine W_unf ?_;kernel_rfl
theorem qmu:(cProg Tryd.prog).func qa1=some qee/\qee.results=[]:=x9 (by kernel_rfl)
theorem qmv (h:W M ⟨none,qa1⟩ (qg8 0) true (FIN3 M [] Q) [(0,a0),(1,a1)] [] H):yb M qa1 [a0,a1] H Q:=callf (by decide) qmu (ks:=qg7) (by kernel_rfl) h
def qdo:AFunc:=funcAt Tryd.prog vi
def qga:Kp:=⟨[0,2],false,[0,2,10]⟩
def yi (k:Nat):Kp × ACode:=(qga,part qdo.body k)
theorem qgb (M:Mac) (c:Ctx):(∀ Q E D H,W M c (yi 0) true Q E D H =
 W M c (yi 2) true Q ((2,(.str []))::E) D H) /\
 (∀ Q E D H,W M c (yi 2) true Q E D H =
  Lz E 0 fun g t0=>Cb g .lss t0 (.int .i64 10) (fun g=>Ly g E 0 fun g t0_1=>Bn g .add t0_1 (.int .i64 1) fun g t7=>B3 g ((Op.sliceStr [(some 0),(some 1)]) [(.str qug),t0_1,t7]) fun g t8=>GO3 g (SEQ3 (W M c (yi 10)) Q) .ret ((2,t8)::E) D H) (fun g=>Gt g M c (yi 10) Q E D H)) /\
 (∀ Q E D H,W M c (yi 10) true Q E D H =
  Lz E 0 fun g t0=>Bn g .mul t0 (.int .i64 2) fun g t10=>Bn g .mul t0 (.int .i64 2) fun g t12=>Bn g .add t12 (.int .i64 2) fun g t13=>B3 g ((Op.sliceStr [(some 0),(some 1)]) [(.str wg),t10,t13]) fun g t14=>GO3 g Q .ret ((2,t14)::E) D H):=by (repeat' apply And.intro)<;>(intro _ _ _ _;refine W_unf ?_;kernel_rfl)
theorem qk0:(cProg Tryd.prog).func vi=some qdo/\qdo.results=[.tmp 2]:=x9 (by kernel_rfl)
theorem qk1 (h:W M ⟨none,vi⟩ (yi 0) true (FIN3 M [.tmp 2] Q) [(0,a0)] [] H):yb M vi [a0] H Q:=callf (by decide) qk0 (ks:=qga) (by kernel_rfl) h
def qch:AFunc:=funcAt Tryd.prog k9
def qei:Kp:=⟨[0,2,3],false,[0]⟩
def qej (k:Nat):Kp × ACode:=(qei,part qch.body k)
theorem vd (M:Mac) (c:Ctx):(∀ Q E D H,W M c (qej 0) true Q E D H =
 Lz E 0 fun g t0=>C3 M g (.func qa7) [t0] H fun g t5 H1=>C3 M g (.func kz) [t5] H1 fun g t6 H2=>Ly g E 0 fun g t0_1=>B3 g ((Op.indexArr 20 1) [(.ptr z8 0),t6]) fun g t10=>B3 g (Op.load1 [t10] H2) fun g t11=>Bn g .geq t0_1 t11 fun g t12=>C3 M g (.func ky) [t12] H2 fun g t13 H3=>Bn g .add t6 t13 fun g t14=>GO3 g Q .ret ((2,t14)::(3,t6)::(2,(.int .i64 0))::E) D H3):=by intro _ _ _ _;refine W_unf ?_;kernel_rfl
theorem qiw:(cProg Tryd.prog).func k9=some qch/\qch.results=[.tmp 2]:=x9 (by kernel_rfl)
theorem qix (h:W M ⟨none,k9⟩ (qej 0) true (FIN3 M [.tmp 2] Q) [(0,a0)] [] H):yb M k9 [a0] H Q:=callf (by decide) qiw (ks:=qei) (by kernel_rfl) h
def qbe:AFunc:=funcAt Tryd.prog jj
def qdn:Kp:=⟨[0,1,4,5,6,7,8,9,10,11,12,13,14,15,16],false,[0,2,5,11,16,20,24,31,33,39,43,49,61]⟩
def qi (k:Nat):Kp × ACode:=(qdn,part qbe.body k)
theorem zy (M:Mac) (c:Ctx):(∀ Q E D H,W M c (qi 0) true Q E D H =
 Lz E 0 fun g t0=>B3 g (Op.lenSl [t0]) fun g t18=>W M c (qi 2) g Q ((4,t18)::E) D H) /\
 (∀ Q E D H,W M c (qi 2) true Q E D H =
  LOOP3 (W M c (qi 5)) (BLK3 0 (SEQ3 (W M c (qi 31)) Q)) E D H) /\
 (∀ Q E D H,W M c (qi 31) true Q E D H =
  Lz E 1 fun g t1=>B3 g ((Op.wrap .u32) [t1]) fun g t97=>W M c (qi 33) g Q ((12,t97)::E) D H) /\
 (∀ Q E D H,W M c (qi 5) true Q E D H =
  Lz E 4 fun g t4=>Cb g .geq t4 (.int .i64 8) (fun g=>Gt g M c (qi 11) Q E D H) (fun g=>GO3 g (SEQ3 (W M c (qi 11)) Q) (.exit 0) E D H)) /\
 (∀ Q E D H,W M c (qi 33) true Q E D H =
  Lz E 4 fun g t4=>Cb g .geq t4 (.int .i64 4) (fun g=>Ly g E 12 fun g t12=>Bn g .rem t12 (.int .u32 10000) fun g t101=>W M c (qi 39) g (SEQ3 (W M c (qi 49)) Q) ((13,t101)::E) D H) (fun g=>Gt g M c (qi 49) Q E D H)) /\
 (∀ Q E D H,W M c (qi 11) true Q E D H =
  Lz E 1 fun g t1=>Bn g .rem t1 (.int .u64 100000000) fun g t22=>B3 g ((Op.wrap .u32) [t22]) fun g t23=>Ly g E 1 fun g t1_1=>Bn g .quo t1_1 (.int .u64 100000000) fun g t25=>W M c (qi 16) g (BLK3 1 Q) ((1,t25)::(5,t23)::E) D H) /\
 (∀ Q E D H,W M c (qi 49) true Q E D H =
  Lz E 4 fun g t4=>Cb g .geq t4 (.int .i64 2) (fun g=>Ly g E 12 fun g t12=>Bn g .rem t12 (.int .u32 100) fun g t141=>Bn g .mul t141 (.int .u32 2) fun g t142=>Ly g E 12 fun g t12_1=>Bn g .quo t12_1 (.int .u32 100) fun g t144=>Ly g E 0 fun g t0=>Ly g E 4 fun g t4_1=>Bn g .sub t4_1 (.int .i64 1) fun g t147=>Bn g .sub t4_1 (.int .i64 2) fun g t150=>Bn g .add t142 (.int .u32 1) fun g t152=>B3 g (Op.indexStr [(.str wg),t152]) fun g t153=>B3 g (Op.indexStr [(.str wg),t142]) fun g t155=>Xs g t0 t147 t153 H fun g u H1=>Xs g t0 t150 t155 H1 fun g u_1 H2=>Ly g E 4 fun g t4_2=>Bn g .sub t4_2 (.int .i64 2) fun g t159=>Gt g M c (qi 61) Q ((4,t159)::(12,t144)::(16,t142)::E) D H2) (fun g=>Gt g M c (qi 61) Q E D H)) /\
 (∀ Q E D H,W M c (qi 39) true Q E D H =
  Lz E 12 fun g t12=>Bn g .quo t12 (.int .u32 10000) fun g t103=>Ly g E 13 fun g t13=>Bn g .quo t13 (.int .u32 100) fun g t105=>Bn g .mul t105 (.int .u32 2) fun g t106=>Bn g .rem t13 (.int .u32 100) fun g t108=>Bn g .mul t108 (.int .u32 2) fun g t109=>W M c (qi 43) g Q ((15,t109)::(14,t106)::(12,t103)::E) D H) /\
 (∀ Q E D H,W M c (qi 16) true Q E D H =
  Lz E 5 fun g t5=>Bn g .quo t5 (.int .u32 10000) fun g t27=>Bn g .rem t5 (.int .u32 10000) fun g t29=>Bn g .quo t29 (.int .u32 100) fun g t31=>Bn g .mul t31 (.int .u32 2) fun g t32=>Bn g .rem t29 (.int .u32 100) fun g t34=>Bn g .mul t34 (.int .u32 2) fun g t35=>W M c (qi 20) g Q ((9,t35)::(8,t32)::(7,t29)::(6,t27)::E) D H) /\
 (∀ Q E D H,W M c (qi 61) true Q E D H =
  Lz E 4 fun g t4=>Cb g .gtr t4 (.int .i64 0) (fun g=>Ly g E 0 fun g t0=>Ly g E 12 fun g t12=>Bn g .add (.int .u32 48) t12 fun g t164=>B3 g ((Op.wrap .u8) [t164]) fun g t165=>Xs g t0 (.int .i64 0) t165 H fun g u H1=>GO3 g Q .normal E D H1) (fun g=>GO3 g Q .normal E D H)) /\
 (∀ Q E D H,W M c (qi 43) true Q E D H =
  Lz E 0 fun g t0=>Ly g E 4 fun g t4=>Bn g .sub t4 (.int .i64 1) fun g t112=>Bn g .sub t4 (.int .i64 2) fun g t115=>Ly g E 15 fun g t15=>Bn g .add t15 (.int .u32 1) fun g t117=>B3 g (Op.indexStr [(.str wg),t117]) fun g t118=>B3 g (Op.indexStr [(.str wg),t15]) fun g t120=>Xs g t0 t112 t118 H fun g u H1=>Xs g t0 t115 t120 H1 fun g u_1 H2=>Ly g E 0 fun g t0_1=>Ly g E 4 fun g t4_1=>Bn g .sub t4_1 (.int .i64 3) fun g t125=>Bn g .sub t4_1 (.int .i64 4) fun g t128=>Ly g E 14 fun g t14=>Bn g .add t14 (.int .u32 1) fun g t130=>B3 g (Op.indexStr [(.str wg),t130]) fun g t131=>B3 g (Op.indexStr [(.str wg),t14]) fun g t133=>Xs g t0_1 t125 t131 H2 fun g u_2 H3=>Xs g t0_1 t128 t133 H3 fun g u_3 H4=>Ly g E 4 fun g t4_2=>Bn g .sub t4_2 (.int .i64 4) fun g t137=>GO3 g Q .normal ((4,t137)::E) D H4) /\
 (∀ Q E D H,W M c (qi 20) true Q E D H =
  Lz E 6 fun g t6=>Bn g .quo t6 (.int .u32 100) fun g t37=>Bn g .mul t37 (.int .u32 2) fun g t38=>Bn g .rem t6 (.int .u32 100) fun g t40=>Bn g .mul t40 (.int .u32 2) fun g t41=>Ly g E 0 fun g t0=>Ly g E 4 fun g t4=>Bn g .sub t4 (.int .i64 1) fun g t44=>Bn g .sub t4 (.int .i64 2) fun g t47=>Ly g E 9 fun g t9=>Bn g .add t9 (.int .u32 1) fun g t49=>B3 g (Op.indexStr [(.str wg),t49]) fun g t50=>B3 g (Op.indexStr [(.str wg),t9]) fun g t52=>Xs g t0 t44 t50 H fun g u H1=>Xs g t0 t47 t52 H1 fun g u_1 H2=>W M c (qi 24) g Q ((11,t41)::(10,t38)::E) D H2) /\
 (∀ Q E D H,W M c (qi 24) true Q E D H =
  Lz E 0 fun g t0=>Ly g E 4 fun g t4=>Bn g .sub t4 (.int .i64 3) fun g t57=>Bn g .sub t4 (.int .i64 4) fun g t60=>Ly g E 8 fun g t8=>Bn g .add t8 (.int .u32 1) fun g t62=>B3 g (Op.indexStr [(.str wg),t62]) fun g t63=>B3 g (Op.indexStr [(.str wg),t8]) fun g t65=>Xs g t0 t57 t63 H fun g u H1=>Xs g t0 t60 t65 H1 fun g u_1 H2=>Ly g E 0 fun g t0_1=>Ly g E 4 fun g t4_1=>Bn g .sub t4_1 (.int .i64 5) fun g t70=>Bn g .sub t4_1 (.int .i64 6) fun g t73=>Ly g E 11 fun g t11=>Bn g .add t11 (.int .u32 1) fun g t75=>B3 g (Op.indexStr [(.str wg),t75]) fun g t76=>B3 g (Op.indexStr [(.str wg),t11]) fun g t78=>Xs g t0_1 t70 t76 H2 fun g u_2 H3=>Xs g t0_1 t73 t78 H3 fun g u_3 H4=>Ly g E 0 fun g t0_2=>Ly g E 4 fun g t4_2=>Bn g .sub t4_2 (.int .i64 7) fun g t83=>Bn g .sub t4_2 (.int .i64 8) fun g t86=>Ly g E 10 fun g t10=>Bn g .add t10 (.int .u32 1) fun g t88=>B3 g (Op.indexStr [(.str wg),t88]) fun g t89=>B3 g (Op.indexStr [(.str wg),t10]) fun g t91=>Xs g t0_2 t83 t89 H4 fun g u_4 H5=>Xs g t0_2 t86 t91 H5 fun g u_5 H6=>Ly g E 4 fun g t4_3=>Bn g .sub t4_3 (.int .i64 8) fun g t95=>GO3 g Q .normal ((4,t95)::E) D H6):=by (repeat' apply And.intro)<;>(intro _ _ _ _;refine W_unf ?_;kernel_rfl)
theorem qhg:(cProg Tryd.prog).func jj=some qbe/\qbe.results=[]:=x9 (by kernel_rfl)
theorem qhh (h:W M ⟨none,jj⟩ (qi 0) true (FIN3 M [] Q) [(0,a0),(1,a1)] [] H):yb M jj [a0,a1] H Q:=callf (by decide) qhg (ks:=qdn) (by kernel_rfl) h
def qcg:AFunc:=funcAt Tryd.prog kz
def qeg:Kp:=⟨[0,2],false,[0]⟩
def qeh (k:Nat):Kp × ACode:=(qeg,part qcg.body k)
theorem qiv (M:Mac) (c:Ctx):(∀ Q E D H,W M c (qeh 0) true Q E D H =
 Lz E 0 fun g t0=>Bn g .mul t0 (.int .i64 78913) fun g t4=>Bn g .shr t4 (.int .u64 18) fun g t5=>GO3 g Q .ret ((2,t5)::(2,(.int .i64 0))::E) D H):=by intro _ _ _ _;refine W_unf ?_;kernel_rfl
theorem qit:(cProg Tryd.prog).func kz=some qcg/\qcg.results=[.tmp 2]:=x9 (by kernel_rfl)
theorem qiu (h:W M ⟨none,kz⟩ (qeh 0) true (FIN3 M [.tmp 2] Q) [(0,a0)] [] H):yb M kz [a0] H Q:=callf (by decide) qit (ks:=qeg) (by kernel_rfl) h
def qhi:AFunc:=funcAt Tryd.prog qa7
def qk6:Kp:=⟨[0,2],false,[0,2,10,18,26]⟩
def z5 (k:Nat):Kp × ACode:=(qk6,part qhi.body k)
theorem qe8 (M:Mac) (c:Ctx):(∀ Q E D H,W M c (z5 0) true Q E D H =
 W M c (z5 2) true Q ((2,(.int .i64 0))::E) D H) /\
 (∀ Q E D H,W M c (z5 2) true Q E D H =
  Lz E 0 fun g t0=>Cb g .geq t0 (.int .u64 4294967296) (fun g=>Ly g E 0 fun g t0_1=>Bn g .shr t0_1 (.int .u64 32) fun g t6=>Gt g M c (z5 10) Q ((2,(.int .i64 32))::(0,t6)::E) D H) (fun g=>Gt g M c (z5 10) Q E D H)) /\
 (∀ Q E D H,W M c (z5 10) true Q E D H =
  Lz E 0 fun g t0=>Cb g .geq t0 (.int .u64 65536) (fun g=>Ly g E 0 fun g t0_1=>Bn g .shr t0_1 (.int .u64 16) fun g t10=>Ly g E 2 fun g t2=>Bn g .add t2 (.int .i64 16) fun g t12=>Gt g M c (z5 18) Q ((2,t12)::(0,t10)::E) D H) (fun g=>Gt g M c (z5 18) Q E D H)) /\
 (∀ Q E D H,W M c (z5 18) true Q E D H =
  Lz E 0 fun g t0=>Cb g .geq t0 (.int .u64 256) (fun g=>Ly g E 0 fun g t0_1=>Bn g .shr t0_1 (.int .u64 8) fun g t16=>Ly g E 2 fun g t2=>Bn g .add t2 (.int .i64 8) fun g t18=>Gt g M c (z5 26) Q ((2,t18)::(0,t16)::E) D H) (fun g=>Gt g M c (z5 26) Q E D H)) /\
 (∀ Q E D H,W M c (z5 26) true Q E D H =
  Lz E 2 fun g t2=>Ly g E 0 fun g t0=>B3 g ((Op.wrap .u8) [t0]) fun g t21=>B3 g (Op.indexStr [(.str qpr),t21]) fun g t22=>B3 g ((Op.wrap .i64) [t22]) fun g t23=>Bn g .add t2 t23 fun g t24=>GO3 g Q .ret ((2,t24)::E) D H):=by (repeat' apply And.intro)<;>(intro _ _ _ _;refine W_unf ?_;kernel_rfl)
theorem qrs:(cProg Tryd.prog).func qa7=some qhi/\qhi.results=[.tmp 2]:=x9 (by kernel_rfl)
theorem qrt (h:W M ⟨none,qa7⟩ (z5 0) true (FIN3 M [.tmp 2] Q) [(0,a0)] [] H):yb M qa7 [a0] H Q:=callf (by decide) qrs (ks:=qk6) (by kernel_rfl) h
def qcf:AFunc:=funcAt Tryd.prog ky
def qef:Kp:=⟨[0,2],false,[0,2,10]⟩
def jx (k:Nat):Kp × ACode:=(qef,part qcf.body k)
theorem qis (M:Mac) (c:Ctx):(∀ Q E D H,W M c (jx 0) true Q E D H =
 W M c (jx 2) true Q ((2,(.int .i64 0))::E) D H) /\
 (∀ Q E D H,W M c (jx 2) true Q E D H =
  Lz E 0 fun g t0=>IF3 g t0 (fun g=>GO3 g (SEQ3 (W M c (jx 10)) Q) .ret ((2,(.int .i64 1))::E) D H) (fun g=>Gt g M c (jx 10) Q E D H)) /\
 (∀ Q E D H,W M c (jx 10) true Q E D H =
  GO3 true Q .ret ((2,(.int .i64 0))::E) D H):=by (repeat' apply And.intro)<;>(intro _ _ _ _;refine W_unf ?_;kernel_rfl)
theorem qiq:(cProg Tryd.prog).func ky=some qcf/\qcf.results=[.tmp 2]:=x9 (by kernel_rfl)
theorem qir (h:W M ⟨none,ky⟩ (jx 0) true (FIN3 M [.tmp 2] Q) [(0,a0)] [] H):yb M ky [a0] H Q:=callf (by decide) qiq (ks:=qef) (by kernel_rfl) h
end
end Go.Am
namespace Go.Am
abbrev yc:Nat:=125
abbrev qci:Nat:=15
abbrev qf5:Nat:=63
abbrev qbp:Nat:=40
abbrev qf6:Nat:=62
abbrev qhb:Nat:=129
abbrev qf7:Nat:=128
abbrev yp:Nat:=101
abbrev qbq:Nat:=100
abbrev zz:Nat:=99
abbrev qan:Nat:=41
abbrev z0:Nat:=66
abbrev xd:Nat:=64
abbrev qco:Nat:=95
abbrev qq8:Nat:=123
abbrev qck:Nat:=124
abbrev ww:Nat:=93
abbrev ku:Nat:=96
abbrev qas:Nat:=65
abbrev qj:Nat:=58
abbrev qsi:Nat:=4
abbrev T_int:Nat:=3
abbrev ko:Nat:=80
abbrev qdl:Nat:=78
def q5l:List UInt8:=[115,116,114,105,110,103,115,58,32,110,101,103,97,116,105,118,101,32,82,101,112,101,97,116,32,99,111,117,110,116]
def q5m:List UInt8:=[115,116,114,105,110,103,115,58,32,82,101,112,101,97,116,32,111,117,116,112,117,116,32,108,101,110,103,116,104,32,111,118,101,114,102,108,111,119]
def qha:List UInt8:=[32,32,32,32,32,32,32,32,32,32,32,32,32,32,32,32,32,32,32,32,32,32,32,32,32,32,32,32,32,32,32,32,32,32,32,32,32,32,32,32,32,32,32,32,32,32,32,32,32,32,32,32,32,32,32,32,32,32,32,32,32,32,32,32,32,32,32,32,32,32,32,32,32,32,32,32,32,32,32,32,32,32,32,32,32,32,32,32,32,32,32,32,32,32,32,32,32,32,32,32,32,32,32,32,32,32,32,32,32,32,32,32,32,32,32,32,32,32,32,32,32,32,32,32,32,32,32,32]
def qw3:List UInt8:=[45,45,45,45,45,45,45,45,45,45,45,45,45,45,45,45,45,45,45,45,45,45,45,45,45,45,45,45,45,45,45,45,45,45,45,45,45,45,45,45,45,45,45,45,45,45,45,45,45,45,45,45,45,45,45,45,45,45,45,45,45,45,45,45,45,45,45,45,45,45,45,45,45,45,45,45,45,45,45,45,45,45,45,45,45,45,45,45,45,45,45,45,45,45,45,45,45,45,45,45,45,45,45,45,45,45,45,45,45,45,45,45,45,45,45,45,45,45,45,45,45,45,45,45,45,45,45,45]
def qw4:List UInt8:=[48,48,48,48,48,48,48,48,48,48,48,48,48,48,48,48,48,48,48,48,48,48,48,48,48,48,48,48,48,48,48,48,48,48,48,48,48,48,48,48,48,48,48,48,48,48,48,48,48,48,48,48,48,48,48,48,48,48,48,48,48,48,48,48]
def qw5:List UInt8:=[61,61,61,61,61,61,61,61,61,61,61,61,61,61,61,61,61,61,61,61,61,61,61,61,61,61,61,61,61,61,61,61,61,61,61,61,61,61,61,61,61,61,61,61,61,61,61,61,61,61,61,61,61,61,61,61,61,61,61,61,61,61,61,61,61,61,61,61,61,61,61,61,61,61,61,61,61,61,61,61,61,61,61,61,61,61,61,61,61,61,61,61,61,61,61,61,61,61,61,61,61,61,61,61,61,61,61,61,61,61,61,61,61,61,61,61,61,61,61,61,61,61,61,61,61,61,61,61]
def qw6:List UInt8:=[9,9,9,9,9,9,9,9,9,9,9,9,9,9,9,9,9,9,9,9,9,9,9,9,9,9,9,9,9,9,9,9,9,9,9,9,9,9,9,9,9,9,9,9,9,9,9,9,9,9,9,9,9,9,9,9,9,9,9,9,9,9,9,9]
def q5n:List UInt8:=[116,104,101,32,114,101,115,117,108,116,32,111,102,32,40,108,101,110,40,120,41,32,42,32,99,111,117,110,116,41,32,111,118,101,114,102,108,111,119,115]
noncomputable section
open Go.Proofs Go.Proofs.YtbimikjajohflaaDoor
variable {M:Mac} [MK M] {H:AHeap} {Q:AEnd->AHeap->Prop} {a0 a1 a2:AV}
def qm5:AFunc:=funcAt Tryd.prog qci
def qsr:Kp:=⟨[0,2,3,4],false,[0,2,10,14,22]⟩
def qat (k:Nat):Kp × ACode:=(qsr,part qm5.body k)
theorem qst (M:Mac) (c:Ctx):(∀ Q E D H,W M c (qat 0) true Q E D H =
 W M c (qat 2) true Q ((3,(.int .i64 0))::(2,(.str []))::E) D H) /\
 (∀ Q E D H,W M c (qat 2) true Q E D H =
  Lz E 0 fun g t0=>C3 M g (.func qbp) [t0] H fun g t6 H1=>B3 g ((Op.un .not) [t6]) fun g t7=>IF3 g t7 (fun g=>GO3 g (SEQ3 (W M c (qat 10)) Q) .ret ((3,(.int .i64 2))::(2,(.str []))::E) D H1) (fun g=>Gt g M c (qat 10) Q E D H1)) /\
 (∀ Q E D H,W M c (qat 10) true Q E D H =
  Lz E 0 fun g t0=>B3 g ((Op.build [.nilp,.nils,.nils,(.int .i64 0),(.int .i64 0)] [(2,1)]) [t0]) fun g t9=>A3 g ko (AV.cells t9) H fun g t10 H1=>Ly g E 0 fun g t0_1=>B3 g (Op.lenSl [t0_1]) fun g t13=>Bn g .sub t13 (.int .i64 1) fun g t14=>C3 M g (.func qan) [t10,t14,(.int .i64 0)] H1 fun g t15 H2=>W M c (qat 14) g Q ((4,t10)::E) D H2) /\
 (∀ Q E D H,W M c (qat 14) true Q E D H =
  Lz E 4 fun g t4=>Nf g 4 t4 H fun g t19=>Cb g .gtr t19 (.int .i64 50) (fun g=>GO3 g (SEQ3 (W M c (qat 22)) Q) .ret ((3,(.int .i64 2))::(2,(.str []))::E) D H) (fun g=>Gt g M c (qat 22) Q E D H)) /\
 (∀ Q E D H,W M c (qat 22) true Q E D H =
  Lz E 4 fun g t4=>B3 g (Op.nilCheck [t4]) fun g t22=>B3 g ((Op.fieldAddr 0) [t22]) fun g t23=>C3 M g (.func j9) [t23] H fun g t24 H1=>GO3 g Q .ret ((3,(.int .i64 0))::(2,t24)::E) D H1):=by (repeat' apply And.intro)<;>(intro _ _ _ _;refine W_unf ?_;kernel_rfl)
theorem q0v:(cProg Tryd.prog).func qci=some qm5/\qm5.results=[.tmp 2,.tmp 3]:=x9 (by kernel_rfl)
theorem qss (h:W M ⟨none,qci⟩ (qat 0) true (FIN3 M [.tmp 2,.tmp 3] Q) [(0,a0)] [] H):yb M qci [a0] H Q:=callf (by decide) q0v (ks:=qsr) (by kernel_rfl) h
def qrp:AFunc:=funcAt Tryd.prog qbp
def qxg:Kp:=⟨[0,2,3,4,5,6,7,8,9,10,11,33,34,35,70,71,72],false,[0,2,10,14,19,25,31,39,41,46,52,56,64,65,66,70,78,80,81,82]⟩
def xu (k:Nat):Kp × ACode:=(qxg,part qrp.body k)
theorem qxh (M:Mac) (c:Ctx):(∀ Q E D H,W M c (xu 0) true Q E D H =
 W M c (xu 2) true Q ((2,(.bool false))::E) D H) /\
 (∀ Q E D H,W M c (xu 2) true Q E D H =
  Lz E 0 fun g t0=>B3 g (Op.lenSl [t0]) fun g t13=>Bn g .lss t13 (.int .i64 1) fun g t14=>JN (fun (k:Bool->AV->AV->AV->AHeap->Prop)=>B3 g (wantV false (some t14)) fun g w=>IG3 g w (fun g=>B3 g (Op.lenSl [t0]) fun g t17=>Bn g .gtr t17 (.int .i64 2000) fun g t18=>k g t18 t17 t0 H) (fun g=>k g uu uu uu H)) (fun g t18_1 t17_1 t16_1 H1=>B3 g (Op.pick [t14,(.bool true),t18_1]) fun g t19=>JN (fun (k:Bool->AV->AV->AV->AV->AV->AV->AV->AV->AHeap->Prop)=>B3 g (wantV false (some t19)) fun g w=>IG3 g w (fun g=>B3 g (Op.lenSl [t0]) fun g t23=>Bn g .sub t23 (.int .i64 1) fun g t24=>B3 g ((Op.indexSl 3) [t0,t24]) fun g t25=>B3 g ((Op.fieldAddr 0) [t25]) fun g t26=>B3 g (Op.load1 [t26] H1) fun g t27=>Bn g .neq t27 (.int .i64 20) fun g t28=>k g t28 t27 t26 t25 t24 t23 t0 t0 H1) (fun g=>k g uu uu uu uu uu uu uu uu H1)) (fun g t28_1 t27_1 t26_1 t25_1 t24_1 t23_1 t22_1 t21_1 H2=>B3 g (Op.pick [t19,(.bool true),t28_1]) fun g t29=>IF3 g t29 (fun g=>GO3 g (SEQ3 (W M c (xu 10)) Q) .ret ((2,(.bool false))::E) D H2) (fun g=>Gt g M c (xu 10) Q E D H2)))) /\
 (∀ Q E D H,W M c (xu 10) true Q E D H =
  Lz E 0 fun g t0=>B3 g (Op.lenSl [t0]) fun g t31=>B32 g ((Op.mkSlice qsi 1 [(.bool false)]) [t31,t31]) fun g o1 k1=>W M c (xu 14) g Q ((4,(k1 H.next))::(3,.nils)::E) D (H.alloc o1)) /\
 (∀ Q E D H,W M c (xu 14) true Q E D H =
  Lz E 0 fun g t0=>B3 g (Op.lenSl [t0]) fun g t34=>LOOP3 (W M c (xu 19)) (BLK3 0 (SEQ3 (W M c (xu 82)) Q)) ((35,(.int .i64 0))::(34,t34)::(33,t0)::E) D H) /\
 (∀ Q E D H,W M c (xu 82) true Q E D H =
  Lz E 3 fun g t3=>B3 g (Op.lenSl [t3]) fun g t132=>Bn g .eql t132 (.int .i64 1) fun g t133=>GO3 g Q .ret ((2,t133)::E) D H) /\
 (∀ Q E D H,W M c (xu 19) true Q E D H =
  Lz E 35 fun g t35=>Ly g E 34 fun g t34=>Cb g .lss t35 t34 (fun g=>Gt g M c (xu 25) Q E D H) (fun g=>GO3 g (SEQ3 (W M c (xu 25)) Q) (.exit 0) E D H)) /\
 (∀ Q E D H,W M c (xu 25) true Q E D H =
  Lz E 35 fun g t35=>Ly g E 33 fun g t33=>B3 g ((Op.indexSl 3) [t33,t35]) fun g t38=>B3 g ((Op.loadN 3) [t38] H) fun g t39=>A3 g qj [(.int .i64 0),(.int .u64 0),.nils] H fun g t6 H1=>B32 g ((Op.store 3) [t6,t39] H1) fun g u H2=>B3 g ((Op.loadN 3) [t6] H2) fun g t41=>C3 M g (.func qf6) [t41] H2 fun g t42 H3=>B3 g ((Op.extract 0) [t42]) fun g t43=>B3 g ((Op.extract 1) [t42]) fun g t44=>W M c (xu 31) g (BLK3 1 (SEQ3 (W M c (xu 81)) Q)) ((8,t44)::(7,t43)::(5,t35)::(6,t6)::E) D H3) /\
 (∀ Q E D H,W M c (xu 81) true Q E D H =
  Lz E 35 fun g t35=>Bn g .add t35 (.int .i64 1) fun g t130=>GO3 g Q .normal ((35,t130)::E) D H) /\
 (∀ Q E D H,W M c (xu 31) true Q E D H =
  Lz E 8 fun g t8=>B3 g ((Op.un .not) [t8]) fun g t46=>JN (fun (k:Bool->AV->AV->AV->AV->AV->AV->AHeap->Prop)=>B3 g (wantV false (some t46)) fun g w=>IG3 g w (fun g=>Ly g E 7 fun g t7=>B3 g (Op.lenSl [t7]) fun g t49=>Ly g E 6 fun g t6=>B3 g ((Op.fieldAddr 2) [t6]) fun g t50=>B3 g (Op.load1 [t50] H) fun g t51=>B3 g (Op.lenSl [t51]) fun g t52=>Bn g .neq t49 t52 fun g t53=>k g t53 t52 t51 t50 t49 t7 H) (fun g=>k g uu uu uu uu uu uu H)) (fun g t53_1 t52_1 t51_1 t50_1 t49_1 t48_1 H1=>B3 g (Op.pick [t46,(.bool true),t53_1]) fun g t54=>JN (fun (k:Bool->AV->AV->AV->AV->AV->AHeap->Prop)=>B3 g (wantV false (some t54)) fun g w=>IG3 g w (fun g=>Ly g E 7 fun g t7_1=>B3 g (Op.lenSl [t7_1]) fun g t57=>Ly g E 3 fun g t3=>B3 g (Op.lenSl [t3]) fun g t59=>Bn g .gtr t57 t59 fun g t60=>k g t60 t59 t3 t57 t7_1 H1) (fun g=>k g uu uu uu uu uu H1)) (fun g t60_1 t59_1 t58_1 t57_1 t56_1 H2=>B3 g (Op.pick [t54,(.bool true),t60_1]) fun g t61=>IF3 g t61 (fun g=>GO3 g (SEQ3 (W M c (xu 39)) Q) .ret ((2,(.bool false))::E) D H2) (fun g=>Gt g M c (xu 39) Q E D H2)))) /\
 (∀ Q E D H,W M c (xu 39) true Q E D H =
  Lz E 3 fun g t3=>B3 g (Op.lenSl [t3]) fun g t64=>Ly g E 7 fun g t7=>B3 g (Op.lenSl [t7]) fun g t66=>Bn g .sub t64 t66 fun g t67=>B3 g ((Op.sliceSl 1 [(some 0),none,none]) [t3,t67]) fun g t68=>W M c (xu 41) g Q ((9,t68)::E) D H) /\
 (∀ Q E D H,W M c (xu 41) true Q E D H =
  Lz E 6 fun g t6=>Fl g 2 t6 H fun g t70=>B3 g (Op.lenSl [t70]) fun g t71=>LOOP3 (W M c (xu 46)) (BLK3 2 (SEQ3 (W M c (xu 66)) Q)) ((72,(.int .i64 0))::(71,t71)::(70,t70)::E) D H) /\
 (∀ Q E D H,W M c (xu 66) true Q E D H =
  Lz E 6 fun g t6=>Fl g 0 t6 H fun g t111=>Cb g .eql t111 (.int .i64 18) (fun g=>W M c (xu 70) g (SEQ3 (W M c (xu 80)) Q) E D H) (fun g=>Gt g M c (xu 80) Q E D H)) /\
 (∀ Q E D H,W M c (xu 46) true Q E D H =
  Lz E 72 fun g t72=>Ly g E 71 fun g t71=>Cb g .lss t72 t71 (fun g=>Gt g M c (xu 52) Q E D H) (fun g=>GO3 g (SEQ3 (W M c (xu 52)) Q) (.exit 2) E D H)) /\
 (∀ Q E D H,W M c (xu 80) true Q E D H =
  Lz E 3 fun g t3=>B3 g (Op.lenSl [t3]) fun g t122=>Ly g E 7 fun g t7=>B3 g (Op.lenSl [t7]) fun g t124=>Bn g .sub t122 t124 fun g t125=>B3 g ((Op.sliceSl 1 [none,(some 0),none]) [t3,t125]) fun g t126=>Ly g E 5 fun g t5=>B32 g ((Op.buildSlice T_int 1 [(.int .i64 0)] [(0,1)]) [t5]) fun g o1 k1=>B32 g ((Op.append T_int 1 8) [t126,(k1 H.next)] (H.alloc o1)) fun g t129 H2=>GO3 g Q .normal ((3,t129)::E) D H2) /\
 (∀ Q E D H,W M c (xu 70) true Q E D H =
  Lz E 4 fun g t4=>Ly g E 5 fun g t5=>Xl g t4 t5 H fun g t116=>IF3 g t116 (fun g=>GO3 g (SEQ3 (W M c (xu 78)) Q) .ret ((2,(.bool false))::E) D H) (fun g=>Gt g M c (xu 78) Q E D H)) /\
 (∀ Q E D H,W M c (xu 52) true Q E D H =
  Lz E 72 fun g t72=>Ly g E 70 fun g t70=>Xl g t70 t72 H fun g t76=>W M c (xu 56) g (BLK3 3 (SEQ3 (W M c (xu 65)) Q)) ((11,t76)::(10,t72)::E) D H) /\
 (∀ Q E D H,W M c (xu 78) true Q E D H =
  Lz E 4 fun g t4=>Ly g E 5 fun g t5=>Xs g t4 t5 (.bool true) H fun g u H1=>GO3 g Q .normal E D H1) /\
 (∀ Q E D H,W M c (xu 65) true Q E D H =
  Lz E 72 fun g t72=>Bn g .add t72 (.int .i64 1) fun g t109=>GO3 g Q .normal ((72,t109)::E) D H) /\
 (∀ Q E D H,W M c (xu 56) true Q E D H =
  Lz E 9 fun g t9=>Ly g E 10 fun g t10=>Xl g t9 t10 H fun g t80=>Ly g E 11 fun g t11=>Bn g .neq t80 t11 fun g t82=>JN (fun (k:Bool->AV->AV->AV->AV->AV->AV->AV->AV->AV->AV->AV->AHeap->Prop)=>B3 g (wantV false (some t82)) fun g w=>IG3 g w (fun g=>Ly g E 0 fun g t0=>B3 g ((Op.indexSl 3) [t0,t11]) fun g t86=>B3 g ((Op.fieldAddr 0) [t86]) fun g t87=>B3 g (Op.load1 [t87] H) fun g t88=>Ly g E 7 fun g t7=>B3 g ((Op.indexSl 1) [t7,t10]) fun g t92=>B3 g (Op.load1 [t92] H) fun g t93=>C3 M g (.func qf5) [t88] H fun g t89 H1=>CK3 g (Op.load1 [t92] H1) (some t93) fun g=>Bn g .neq t89 t93 fun g t94=>k g t94 t89 t93 t92 t10 t7 t88 t87 t86 t11 t0 H1) (fun g=>k g uu uu uu uu uu uu uu uu uu uu uu H)) (fun g t94_1 t89_1 t93_1 t92_1 t91_1 t90_1 t88_1 t87_1 t86_1 t85_1 t84_1 H2=>B3 g (Op.pick [t82,(.bool true),t94_1]) fun g t95=>IF3 g t95 (fun g=>GO3 g (SEQ3 (W M c (xu 64)) Q) .ret ((2,(.bool false))::E) D H2) (fun g=>Gt g M c (xu 64) Q E D H2))) /\
 (∀ Q E D H,W M c (xu 64) true Q E D H =
  Lz E 4 fun g t4=>Ly g E 5 fun g t5=>Xl g t4 t5 H fun g t101=>JN (fun (k:Bool->AV->AV->AV->AV->AHeap->Prop)=>B3 g (wantV false (some t101)) fun g w=>IG3 g w (fun g=>Ly g E 11 fun g t11=>B3 g ((Op.indexSl 1) [t4,t11]) fun g t105=>B3 g (Op.load1 [t105] H) fun g t106=>k g t106 t105 t11 t4 H) (fun g=>k g uu uu uu uu H)) (fun g t106_1 t105_1 t104_1 t103_1 H1=>B3 g (Op.pick [t101,(.bool true),t106_1]) fun g t107=>Xs g t4 t5 t107 H1 fun g u H2=>GO3 g Q .normal E D H2)):=by (repeat' apply And.intro)<;>(intro _ _ _ _;refine W_unf ?_;kernel_rfl)
theorem q6h:(cProg Tryd.prog).func qbp=some qrp/\qrp.results=[.tmp 2]:=x9 (by kernel_rfl)
theorem q6i (h:W M ⟨none,qbp⟩ (xu 0) true (FIN3 M [.tmp 2] Q) [(0,a0)] [] H):yb M qbp [a0] H Q:=callf (by decide) q6h (ks:=qxg) (by kernel_rfl) h
def qgl:AFunc:=funcAt Tryd.prog qan
def qka:Kp:=⟨[0,1,2,7,15,16,17],false,[0,4,10,19]⟩
def vf (k:Nat):Kp × ACode:=(qka,part qgl.body k)
theorem qbs (M:Mac) (c:Ctx):(∀ Q E D H,W M c (vf 0) true Q E D H =
 Lz E 0 fun g t0=>Nf g 2 t0 H fun g t11=>Ly g E 1 fun g t1=>B3 g ((Op.indexSl 3) [t11,t1]) fun g t13=>Fl g 2 t13 H fun g t15=>B3 g (Op.lenSl [t15]) fun g t16=>LOOP3 (W M c (vf 4)) (BLK3 0 Q) ((17,(.int .i64 0))::(16,t16)::(15,t15)::E) D H) /\
 (∀ Q E D H,W M c (vf 4) true Q E D H =
  Lz E 17 fun g t17=>Ly g E 16 fun g t16=>Cb g .lss t17 t16 (fun g=>Gt g M c (vf 10) Q E D H) (fun g=>GO3 g (SEQ3 (W M c (vf 10)) Q) (.exit 0) E D H)) /\
 (∀ Q E D H,W M c (vf 10) true Q E D H =
  Lz E 15 fun g t15=>Ly g E 17 fun g t17=>Xl g t15 t17 H fun g t20=>Ly g E 0 fun g t0=>Ly g E 2 fun g t2=>C3 M g (.func qas) [(.str [32,32]),t2] H fun g t23 H1=>C3 M g (.func xd) [t0,t23] H1 fun g t24 H2=>Ly g E 0 fun g t0_1=>Ly g E 2 fun g t2_1=>C3 M g (.func z0) [t0_1,t20,t2_1] H2 fun g t28 H3=>Ly g E 0 fun g t0_2=>C3 M g (.func xd) [t0_2,(.str [10])] H3 fun g t30 H4=>GO3 g (BLK3 1 (SEQ3 (W M c (vf 19)) Q)) .normal ((7,t20)::E) D H4) /\
 (∀ Q E D H,W M c (vf 19) true Q E D H =
  Lz E 17 fun g t17=>Bn g .add t17 (.int .i64 1) fun g t31=>GO3 g Q .normal ((17,t31)::E) D H):=by (repeat' apply And.intro)<;>(intro _ _ _ _;refine W_unf ?_;kernel_rfl)
theorem qp8:(cProg Tryd.prog).func qan=some qgl/\qgl.results=[]:=x9 (by kernel_rfl)
theorem qp9 (h:W M ⟨none,qan⟩ (vf 0) true (FIN3 M [] Q) [(0,a0),(1,a1),(2,a2)] [] H):yb M qan [a0,a1,a2] H Q:=callf (by decide) qp8 (ks:=qka) (by kernel_rfl) h
def qm7:AFunc:=funcAt Tryd.prog qf6
def qsv:Kp:=⟨[0,1,2,3,4,33,43,51,75],false,[0,4,12,24,28,34,38,44,54,60,70,77]⟩
def zi (k:Nat):Kp × ACode:=(qsv,part qm7.body k)
theorem kq (M:Mac) (c:Ctx):(∀ Q E D H,W M c (zi 0) true Q E D H =
 Lz E 0 fun g t0=>A3 g qj (AV.cells t0) H fun g t1 H1=>Fl g 0 t1 H1 fun g t6=>Bn g .eql t6 (.int .i64 2) fun g t7=>JN (fun (k:Bool->AV->AV->AV->AHeap->Prop)=>B3 g (wantV false (some t7)) fun g w=>IG3 g w (fun g=>B3 g ((Op.fieldAddr 0) [t1]) fun g t9=>B3 g (Op.load1 [t9] H1) fun g t10=>Bn g .eql t10 (.int .i64 14) fun g t11=>k g t11 t10 t9 H1) (fun g=>k g uu uu uu H1)) (fun g t11_1 t10_1 t9_1 H2=>B3 g (Op.pick [t7,(.bool true),t11_1]) fun g t12=>W M c (zi 4) g Q ((4,t12)::(3,(.bool false))::(2,.nils)::(1,t1)::E) D H2)) /\
 (∀ Q E D H,W M c (zi 4) true Q E D H =
  Lz E 4 fun g t4=>JN (fun (k:Bool->AV->AV->AV->AHeap->Prop)=>B3 g (wantV true (some t4)) fun g w=>IG3 g w (fun g=>Ly g E 1 fun g t1=>B3 g ((Op.fieldAddr 1) [t1]) fun g t15=>B3 g (Op.load1 [t15] H) fun g t16=>Bn g .gtr t16 (.int .u64 7) fun g t17=>k g t17 t16 t15 H) (fun g=>k g uu uu uu H)) (fun g t17_1 t16_1 t15_1 H1=>B3 g (Op.pick [t4,t17_1,(.bool false)]) fun g t18=>JN (fun (k:Bool->AV->AV->AV->AHeap->Prop)=>B3 g (wantV false (some t18)) fun g w=>IG3 g w (fun g=>B3 g ((Op.un .not) [t4]) fun g t21=>k g t21 t21 t4 H1) (fun g=>k g uu uu uu H1)) (fun g t22_1 t21_1 t20_1 H2=>JN (fun (k:Bool->AV->AV->AV->AHeap->Prop)=>B3 g (wantV true (some t22_1)) fun g w=>IG3 g w (fun g=>Ly g E 1 fun g t1_1=>B3 g ((Op.fieldAddr 0) [t1_1]) fun g t23=>B3 g (Op.load1 [t23] H2) fun g t24=>Bn g .neq t24 (.int .i64 1) fun g t25=>k g t25 t24 t23 H2) (fun g=>k g uu uu uu H2)) (fun g t25_1 t24_1 t23_1 H3=>JN (fun (k:Bool->AV->AV->AHeap->Prop)=>B3 g (wantV false (some t18)) fun g w=>IG3 g w (fun g=>B3 g (Op.pick [t22_1,t25_1,(.bool false)]) fun g t26=>k g t26 t26 H3) (fun g=>k g uu uu H3)) (fun g t27_1 t26_1 H4=>JN (fun (k:Bool->AV->AV->AV->AHeap->Prop)=>B3 g (wantV true (some t27_1)) fun g w=>IG3 g w (fun g=>Ly g E 1 fun g t1_2=>B3 g ((Op.fieldAddr 1) [t1_2]) fun g t28=>B3 g (Op.load1 [t28] H4) fun g t29=>Bn g .neq t29 (.int .u64 0) fun g t30=>k g t30 t29 t28 H4) (fun g=>k g uu uu uu H4)) (fun g t30_1 t29_1 t28_1 H5=>JN (fun (k:Bool->AV->AHeap->Prop)=>B3 g (wantV false (some t18)) fun g w=>IG3 g w (fun g=>B3 g (Op.pick [t27_1,t30_1,(.bool false)]) fun g t31=>k g t31 H5) (fun g=>k g uu H5)) (fun g t31_1 H6=>B3 g (Op.pick [t18,(.bool true),t31_1]) fun g t32=>IF3 g t32 (fun g=>GO3 g (SEQ3 (W M c (zi 12)) Q) .ret ((3,(.bool false))::(2,.nils)::E) D H6) (fun g=>Gt g M c (zi 12) Q E D H6)))))))) /\
 (∀ Q E D H,W M c (zi 12) true Q E D H =
  Lz E 1 fun g t1=>Fl g 0 t1 H fun g t35=>Bn g .eql t35 (.int .i64 1) fun g t36=>IF3 g t36 (fun g=>Gt g M c (zi 24) (BLK3 0 (SEQ3 (W M c (zi 77)) Q)) ((33,t36)::E) D H) (fun g=>Ly g E 1 fun g t1_1=>Fl g 0 t1_1 H fun g t38=>Bn g .eql t38 (.int .i64 2) fun g t39=>IF3 g t39 (fun g=>Gt g M c (zi 24) (BLK3 0 (SEQ3 (W M c (zi 77)) Q)) ((33,t39)::(33,t36)::E) D H) (fun g=>Ly g E 1 fun g t1_2=>Fl g 0 t1_2 H fun g t41=>Bn g .eql t41 (.int .i64 19) fun g t42=>Gt g M c (zi 24) (BLK3 0 (SEQ3 (W M c (zi 77)) Q)) ((33,t42)::(33,t39)::(33,t36)::E) D H))) /\
 (∀ Q E D H,W M c (zi 77) true Q E D H =
  GO3 true Q .ret ((3,(.bool false))::(2,.nils)::E) D H) /\
 (∀ Q E D H,W M c (zi 24) true Q E D H =
  Lz E 33 fun g t33=>IF3 g t33 (fun g=>GO3 g Q .ret ((3,(.bool true))::(2,.nils)::E) D H) (fun g=>W M c (zi 28) g Q E D H)) /\
 (∀ Q E D H,W M c (zi 28) true Q E D H =
  Lz E 1 fun g t1=>Fl g 0 t1 H fun g t45=>Bn g .eql t45 (.int .i64 3) fun g t46=>IF3 g t46 (fun g=>Gt g M c (zi 34) Q ((43,t46)::E) D H) (fun g=>Ly g E 1 fun g t1_1=>Fl g 0 t1_1 H fun g t48=>Bn g .eql t48 (.int .i64 14) fun g t49=>Gt g M c (zi 34) Q ((43,t49)::(43,t46)::E) D H)) /\
 (∀ Q E D H,W M c (zi 34) true Q E D H =
  Lz E 43 fun g t43=>IF3 g t43 (fun g=>B32 g ((Op.buildSlice T_int 1 [(.int .i64 0)] [(0,1)]) [(.int .i64 1)]) fun g o1 k1=>GO3 g Q .ret ((3,(.bool true))::(2,(k1 H.next))::E) D (H.alloc o1)) (fun g=>W M c (zi 38) g Q E D H)) /\
 (∀ Q E D H,W M c (zi 38) true Q E D H =
  Lz E 1 fun g t1=>Fl g 0 t1 H fun g t53=>Bn g .geq t53 (.int .i64 4) fun g t54=>JN (fun (k:Bool->AV->AV->AV->AHeap->Prop)=>B3 g (wantV true (some t54)) fun g w=>IG3 g w (fun g=>B3 g ((Op.fieldAddr 0) [t1]) fun g t56=>B3 g (Op.load1 [t56] H) fun g t57=>Bn g .leq t57 (.int .i64 13) fun g t58=>k g t58 t57 t56 H) (fun g=>k g uu uu uu H)) (fun g t58_1 t57_1 t56_1 H1=>B3 g (Op.pick [t54,t58_1,(.bool false)]) fun g t59=>IF3 g t59 (fun g=>Gt g M c (zi 44) Q ((51,t59)::E) D H1) (fun g=>Ly g E 1 fun g t1_1=>Fl g 0 t1_1 H1 fun g t61=>Bn g .eql t61 (.int .i64 15) fun g t62=>Gt g M c (zi 44) Q ((51,t62)::(51,t59)::E) D H1))) /\
 (∀ Q E D H,W M c (zi 44) true Q E D H =
  Lz E 51 fun g t51=>IF3 g t51 (fun g=>B32 g ((Op.buildSlice T_int 2 [(.int .i64 0)] [(0,1),(1,1)]) [(.int .i64 1),(.int .i64 1)]) fun g o1 k1=>GO3 g Q .ret ((3,(.bool true))::(2,(k1 H.next))::E) D (H.alloc o1)) (fun g=>Ly g E 1 fun g t1=>Fl g 0 t1 H fun g t66=>Bn g .eql t66 (.int .i64 16) fun g t67=>JN (fun (k:Bool->AV->AV->AV->AV->AHeap->Prop)=>B3 g (wantV true (some t67)) fun g w=>IG3 g w (fun g=>B3 g ((Op.fieldAddr 2) [t1]) fun g t69=>B3 g (Op.load1 [t69] H) fun g t70=>B3 g (Op.lenSl [t70]) fun g t71=>Bn g .eql t71 (.int .i64 3) fun g t72=>k g t72 t71 t70 t69 H) (fun g=>k g uu uu uu uu H)) (fun g t72_1 t71_1 t70_1 t69_1 H1=>B3 g (Op.pick [t67,t72_1,(.bool false)]) fun g t73=>IF3 g t73 (fun g=>B32 g ((Op.buildSlice T_int 3 [(.int .i64 0)] [(0,1),(1,1),(2,1)]) [(.int .i64 2),(.int .i64 4),(.int .i64 4)]) fun g o2 k2=>GO3 g Q .ret ((3,(.bool true))::(2,(k2 H1.next))::E) D (H1.alloc o2)) (fun g=>W M c (zi 54) g Q E D H1)))) /\
 (∀ Q E D H,W M c (zi 54) true Q E D H =
  Lz E 1 fun g t1=>Fl g 0 t1 H fun g t77=>Bn g .eql t77 (.int .i64 16) fun g t78=>IF3 g t78 (fun g=>Gt g M c (zi 60) Q ((75,t78)::E) D H) (fun g=>Ly g E 1 fun g t1_1=>Fl g 0 t1_1 H fun g t80=>Bn g .eql t80 (.int .i64 17) fun g t81=>Gt g M c (zi 60) Q ((75,t81)::(75,t78)::E) D H)) /\
 (∀ Q E D H,W M c (zi 60) true Q E D H =
  Lz E 75 fun g t75=>IF3 g t75 (fun g=>B32 g ((Op.buildSlice T_int 2 [(.int .i64 0)] [(0,1),(1,1)]) [(.int .i64 2),(.int .i64 4)]) fun g o1 k1=>GO3 g Q .ret ((3,(.bool true))::(2,(k1 H.next))::E) D (H.alloc o1)) (fun g=>Ly g E 1 fun g t1=>Fl g 0 t1 H fun g t85=>Cb g .eql t85 (.int .i64 18) (fun g=>B32 g ((Op.buildSlice T_int 1 [(.int .i64 0)] [(0,1)]) [(.int .i64 4)]) fun g o1 k1=>GO3 g Q .ret ((3,(.bool true))::(2,(k1 H.next))::E) D (H.alloc o1)) (fun g=>W M c (zi 70) g Q E D H))) /\
 (∀ Q E D H,W M c (zi 70) true Q E D H =
  Lz E 1 fun g t1=>Fl g 0 t1 H fun g t90=>Cb g .eql t90 (.int .i64 20) (fun g=>B32 g ((Op.buildSlice T_int 1 [(.int .i64 0)] [(0,1)]) [(.int .i64 3)]) fun g o1 k1=>Ly g E 1 fun g t1_1=>Fl g 2 t1_1 (H.alloc o1) fun g t94=>B3 g (Op.lenSl [t94]) fun g t95=>C3 M g (.func ww) [(k1 H.next),t95] (H.alloc o1) fun g t96 H2=>GO3 g Q .ret ((3,(.bool true))::(2,t96)::E) D H2) (fun g=>GO3 g Q .normal E D H)):=by (repeat' apply And.intro)<;>(intro _ _ _ _;refine W_unf ?_;kernel_rfl)
theorem q0y:(cProg Tryd.prog).func qf6=some qm7/\qm7.results=[.tmp 2,.tmp 3]:=x9 (by kernel_rfl)
theorem q0z (h:W M ⟨none,qf6⟩ (zi 0) true (FIN3 M [.tmp 2,.tmp 3] Q) [(0,a0)] [] H):yb M qf6 [a0] H Q:=callf (by decide) q0y (ks:=qsv) (by kernel_rfl) h
def qm6:AFunc:=funcAt Tryd.prog qf5
def qsu:Kp:=⟨[0,2],false,[0,2,16,29]⟩
def qcj (k:Nat):Kp × ACode:=(qsu,part qm6.body k)
theorem qgc (M:Mac) (c:Ctx):(∀ Q E D H,W M c (qcj 0) true Q E D H =
 W M c (qcj 2) true Q ((2,(.int .i64 0))::E) D H) /\
 (∀ Q E D H,W M c (qcj 2) true Q E D H =
  Lz E 0 fun g t0=>Bn g .geq t0 (.int .i64 1) fun g t5=>JN (fun (k:Bool->AV->AV->AHeap->Prop)=>B3 g (wantV true (some t5)) fun g w=>IG3 g w (fun g=>Bn g .leq t0 (.int .i64 10) fun g t8=>k g t8 t0 H) (fun g=>k g uu uu H)) (fun g t8_1 t7_1 H1=>B3 g (Op.pick [t5,t8_1,(.bool false)]) fun g t9=>IF3 g t9 (fun g=>GO3 g (BLK3 0 (SEQ3 (W M c (qcj 29)) Q)) .ret ((2,(.int .i64 1))::E) D H1) (fun g=>Ly g E 0 fun g t0_1=>Bn g .geq t0_1 (.int .i64 11) fun g t12=>JN (fun (k:Bool->AV->AV->AHeap->Prop)=>B3 g (wantV true (some t12)) fun g w=>IG3 g w (fun g=>Bn g .leq t0_1 (.int .i64 13) fun g t15=>k g t15 t0_1 H1) (fun g=>k g uu uu H1)) (fun g t15_1 t14_1 H2=>B3 g (Op.pick [t12,t15_1,(.bool false)]) fun g t16=>IF3 g t16 (fun g=>GO3 g (BLK3 0 (SEQ3 (W M c (qcj 29)) Q)) .ret ((2,(.int .i64 2))::E) D H2) (fun g=>W M c (qcj 16) g (BLK3 0 (SEQ3 (W M c (qcj 29)) Q)) E D H2))))) /\
 (∀ Q E D H,W M c (qcj 29) true Q E D H =
  GO3 true Q .ret ((2,(.int .i64 0))::E) D H) /\
 (∀ Q E D H,W M c (qcj 16) true Q E D H =
  Lz E 0 fun g t0=>Bn g .geq t0 (.int .i64 14) fun g t19=>JN (fun (k:Bool->AV->AV->AHeap->Prop)=>B3 g (wantV true (some t19)) fun g w=>IG3 g w (fun g=>Bn g .leq t0 (.int .i64 19) fun g t22=>k g t22 t0 H) (fun g=>k g uu uu H)) (fun g t22_1 t21_1 H1=>B3 g (Op.pick [t19,t22_1,(.bool false)]) fun g t23=>IF3 g t23 (fun g=>GO3 g Q .ret ((2,(.int .i64 3))::E) D H1) (fun g=>Ly g E 0 fun g t0_1=>Cb g .eql t0_1 (.int .i64 20) (fun g=>GO3 g Q .ret ((2,(.int .i64 4))::E) D H1) (fun g=>GO3 g Q .normal E D H1)))):=by (repeat' apply And.intro)<;>(intro _ _ _ _;refine W_unf ?_;kernel_rfl)
theorem q0w:(cProg Tryd.prog).func qf5=some qm6/\qm6.results=[.tmp 2]:=x9 (by kernel_rfl)
theorem q0x (h:W M ⟨none,qf5⟩ (qcj 0) true (FIN3 M [.tmp 2] Q) [(0,a0)] [] H):yb M qf5 [a0] H Q:=callf (by decide) q0w (ks:=qsu) (by kernel_rfl) h
def qgn:AFunc:=funcAt Tryd.prog xd
def qkb:Kp:=⟨[0,1,5,7,8,11,12,34],false,[0,5,11,18,23,27,33,36]⟩
def zg (k:Nat):Kp × ACode:=(qkb,part qgn.body k)
theorem qkc (M:Mac) (c:Ctx):(∀ Q E D H,W M c (zg 0) true Q E D H =
 Lz E 1 fun g t1=>B32 g (Op.rangeStr [t1]) fun g o1 k1=>LOOP3 (W M c (zg 5)) (BLK3 0 (SEQ3 (W M c (zg 36)) Q)) ((7,(k1 H.next))::E) D (H.alloc o1)) /\
 (∀ Q E D H,W M c (zg 36) true Q E D H =
  Lz E 0 fun g t0=>B3 g (Op.nilCheck [t0]) fun g t45=>B3 g ((Op.fieldAddr 0) [t45]) fun g t46=>Ly g E 1 fun g t1=>C3 M g (.func z9) [t46,t1] H fun g t48 H1=>GO3 g Q .normal E D H1) /\
 (∀ Q E D H,W M c (zg 5) true Q E D H =
  Lz E 7 fun g t7=>B32 g (Op.nextStr [t7] H) fun g t8 H1=>B3 g ((Op.extract 0) [t8]) fun g t9=>IF3 g t9 (fun g=>Gt g M c (zg 11) Q ((8,t8)::E) D H1) (fun g=>GO3 g (SEQ3 (W M c (zg 11)) Q) (.exit 0) ((8,t8)::E) D H1)) /\
 (∀ Q E D H,W M c (zg 11) true Q E D H =
  Lz E 8 fun g t8=>B3 g ((Op.extract 2) [t8]) fun g t10=>W M c (zg 18) g (SEQ3 (W M c (zg 23)) (BLK3 2 (BLK3 1 Q))) ((11,t10)::(5,t10)::E) D H) /\
 (∀ Q E D H,W M c (zg 23) true Q E D H =
  Lz E 12 fun g t12=>IF3 g t12 (fun g=>Ly g E 0 fun g t0=>Nf g 3 t0 H fun g t18=>Bn g .add t18 (.int .i64 1) fun g t19=>Ns g 3 t0 t19 H fun g u H1=>Ly g E 0 fun g t0_1=>Nf g 4 t0_1 H1 fun g t26=>Nf g 3 t0_1 H1 fun g t30=>B3 g ((Op.minmax true) [t26,t30]) fun g t31=>Ns g 4 t0_1 t31 H1 fun g u_1 H2=>GO3 g Q .normal E D H2) (fun g=>W M c (zg 27) g Q E D H)) /\
 (∀ Q E D H,W M c (zg 18) true Q E D H =
  Lz E 11 fun g t11=>Bn g .eql t11 (.int .i32 40) fun g t13=>IF3 g t13 (fun g=>GO3 g Q .normal ((12,t13)::E) D H) (fun g=>Ly g E 11 fun g t11_1=>Bn g .eql t11_1 (.int .i32 123) fun g t14=>GO3 g Q .normal ((12,t14)::(12,t13)::E) D H)) /\
 (∀ Q E D H,W M c (zg 27) true Q E D H =
  Lz E 11 fun g t11=>Bn g .eql t11 (.int .i32 41) fun g t35=>IF3 g t35 (fun g=>Gt g M c (zg 33) Q ((34,t35)::E) D H) (fun g=>Ly g E 11 fun g t11_1=>Bn g .eql t11_1 (.int .i32 125) fun g t36=>Gt g M c (zg 33) Q ((34,t36)::(34,t35)::E) D H)) /\
 (∀ Q E D H,W M c (zg 33) true Q E D H =
  Lz E 34 fun g t34=>IF3 g t34 (fun g=>Ly g E 0 fun g t0=>Nf g 3 t0 H fun g t40=>Bn g .sub t40 (.int .i64 1) fun g t41=>Ns g 3 t0 t41 H fun g u H1=>GO3 g Q .normal E D H1) (fun g=>GO3 g Q .normal E D H)):=by (repeat' apply And.intro)<;>(intro _ _ _ _;refine W_unf ?_;kernel_rfl)
theorem qqa:(cProg Tryd.prog).func xd=some qgn/\qgn.results=[]:=x9 (by kernel_rfl)
theorem qqb (h:W M ⟨none,xd⟩ (zg 0) true (FIN3 M [] Q) [(0,a0),(1,a1)] [] H):yb M xd [a0,a1] H Q:=callf (by decide) qqa (ks:=qkb) (by kernel_rfl) h
def qid:AFunc:=funcAt Tryd.prog qas
def qmr:Kp:=⟨[0,1,4,5,6,7,8,9,10,11,42,43],false,[0,2,19,25,27,33,35,43,52,60,65,79,91,99,101,107,113,117,119,122,128,132]⟩
def qr (k:Nat):Kp × ACode:=(qmr,part qid.body k)
theorem qtt (M:Mac) (c:Ctx):(∀ Q E D H,W M c (qr 0) true Q E D H =
 W M c (qr 2) true Q ((4,(.str []))::E) D H) /\
 (∀ Q E D H,W M c (qr 2) true Q E D H =
  Lz E 1 fun g t1=>Cb g .eql t1 (.int .i64 0) (fun g=>GO3 g (BLK3 0 (SEQ3 (W M c (qr 19)) Q)) .ret ((4,(.str []))::(11,t1)::E) D H) (fun g=>Cb g .eql t1 (.int .i64 1) (fun g=>Ly g E 0 fun g t0=>GO3 g (BLK3 0 (SEQ3 (W M c (qr 19)) Q)) .ret ((4,t0)::(11,t1)::E) D H) (fun g=>GO3 g (BLK3 0 (SEQ3 (W M c (qr 19)) Q)) .normal ((11,t1)::E) D H))) /\
 (∀ Q E D H,W M c (qr 19) true Q E D H =
  Lz E 1 fun g t1=>Cb g .lss t1 (.int .i64 0) (fun g=>B3 g ((Op.mkIface vj) [(.str q5l)]) fun g t19=>False) (fun g=>Gt g M c (qr 25) Q E D H)) /\
 (∀ Q E D H,W M c (qr 25) true Q E D H =
  Lz E 0 fun g t0=>B3 g (Op.lenStr [t0]) fun g t22=>B3 g ((Op.wrap .u64) [t22]) fun g t23=>Ly g E 1 fun g t1=>B3 g ((Op.wrap .u64) [t1]) fun g t25=>C3 M g (.func qco) [t23,t25] H fun g t26 H1=>B3 g ((Op.extract 0) [t26]) fun g t27=>B3 g ((Op.extract 1) [t26]) fun g t28=>W M c (qr 27) g Q ((6,t28)::(5,t27)::E) D H1) /\
 (∀ Q E D H,W M c (qr 27) true Q E D H =
  Lz E 5 fun g t5=>Bn g .gtr t5 (.int .u64 0) fun g t30=>JN (fun (k:Bool->AV->AV->AHeap->Prop)=>B3 g (wantV false (some t30)) fun g w=>IG3 g w (fun g=>Ly g E 6 fun g t6=>Bn g .gtr t6 (.int .u64 9223372036854775807) fun g t33=>k g t33 t6 H) (fun g=>k g uu uu H)) (fun g t33_1 t32_1 H1=>B3 g (Op.pick [t30,(.bool true),t33_1]) fun g t34=>IF3 g t34 (fun g=>B3 g ((Op.mkIface vj) [(.str q5m)]) fun g t35=>False) (fun g=>Gt g M c (qr 33) Q E D H1))) /\
 (∀ Q E D H,W M c (qr 33) true Q E D H =
  Lz E 6 fun g t6=>B3 g ((Op.wrap .i64) [t6]) fun g t37=>W M c (qr 35) g Q ((7,t37)::E) D H) /\
 (∀ Q E D H,W M c (qr 35) true Q E D H =
  Lz E 0 fun g t0=>B3 g (Op.lenStr [t0]) fun g t39=>Cb g .eql t39 (.int .i64 0) (fun g=>GO3 g (SEQ3 (W M c (qr 43)) Q) .ret ((4,(.str []))::E) D H) (fun g=>Gt g M c (qr 43) Q E D H)) /\
 (∀ Q E D H,W M c (qr 43) true Q E D H =
  Lz E 0 fun g t0=>B3 g (Op.indexStr [t0,(.int .i64 0)]) fun g t42=>Bn g .eql t42 (.int .u8 32) fun g t44=>IF3 g t44 (fun g=>Gt g M c (qr 65) (BLK3 1 (SEQ3 (W M c (qr 99)) Q)) ((43,t44)::(42,t42)::E) D H) (fun g=>W M c (qr 52) g (SEQ3 (W M c (qr 65)) (BLK3 1 (SEQ3 (W M c (qr 99)) Q))) ((43,t44)::(42,t42)::E) D H)) /\
 (∀ Q E D H,W M c (qr 99) true Q E D H =
  Lz E 7 fun g t7=>W M c (qr 101) g Q ((8,t7)::E) D H) /\
 (∀ Q E D H,W M c (qr 65) true Q E D H =
  Lz E 43 fun g t43=>IF3 g t43 (fun g=>Ly g E 7 fun g t7=>Bn g .leq t7 (.int .i64 128) fun g t51=>JN (fun (k:Bool->AV->AV->AHeap->Prop)=>B3 g (wantV true (some t51)) fun g w=>IG3 g w (fun g=>Ly g E 0 fun g t0=>C3 M g (.func ku) [(.str qha),t0] H fun g t54 H1=>k g t54 t0 H1) (fun g=>k g uu uu H)) (fun g t54_1 t53_1 H2=>B3 g (Op.pick [t51,t54_1,(.bool false)]) fun g t55=>IF3 g t55 (fun g=>Ly g E 7 fun g t7_1=>B3 g ((Op.sliceStr [none,(some 0)]) [(.str qha),t7_1]) fun g t57=>GO3 g (BLK3 2 Q) .ret ((4,t57)::E) D H2) (fun g=>Ly g E 7 fun g t7_1=>Bn g .leq t7_1 (.int .i64 128) fun g t60=>JN (fun (k:Bool->AV->AV->AHeap->Prop)=>B3 g (wantV true (some t60)) fun g w=>IG3 g w (fun g=>Ly g E 0 fun g t0_1=>C3 M g (.func ku) [(.str qw3),t0_1] H2 fun g t63 H3=>k g t63 t0_1 H3) (fun g=>k g uu uu H2)) (fun g t63_1 t62_1 H4=>B3 g (Op.pick [t60,t63_1,(.bool false)]) fun g t64=>IF3 g t64 (fun g=>Ly g E 7 fun g t7_2=>B3 g ((Op.sliceStr [none,(some 0)]) [(.str qw3),t7_2]) fun g t66=>GO3 g (BLK3 2 Q) .ret ((4,t66)::E) D H4) (fun g=>W M c (qr 79) g (BLK3 2 Q) E D H4))))) (fun g=>GO3 g Q .normal E D H)) /\
 (∀ Q E D H,W M c (qr 52) true Q E D H =
  Lz E 42 fun g t42=>Bn g .eql t42 (.int .u8 45) fun g t45=>IF3 g t45 (fun g=>GO3 g Q .normal ((43,t45)::E) D H) (fun g=>Ly g E 42 fun g t42_1=>Bn g .eql t42_1 (.int .u8 48) fun g t46=>IF3 g t46 (fun g=>GO3 g Q .normal ((43,t46)::(43,t45)::E) D H) (fun g=>W M c (qr 60) g Q ((43,t46)::(43,t45)::E) D H))) /\
 (∀ Q E D H,W M c (qr 101) true Q E D H =
  Lz E 7 fun g t7=>Cb g .gtr t7 (.int .i64 8192) (fun g=>Ly g E 0 fun g t0=>B3 g (Op.lenStr [t0]) fun g t98=>Bn g .quo (.int .i64 8192) t98 fun g t99=>B3 g (Op.lenStr [t0]) fun g t101=>Bn g .mul t99 t101 fun g t102=>W M c (qr 107) g (SEQ3 (W M c (qr 113)) Q) ((8,t102)::E) D H) (fun g=>Gt g M c (qr 113) Q E D H)) /\
 (∀ Q E D H,W M c (qr 79) true Q E D H =
  Lz E 7 fun g t7=>Bn g .leq t7 (.int .i64 64) fun g t69=>JN (fun (k:Bool->AV->AV->AHeap->Prop)=>B3 g (wantV true (some t69)) fun g w=>IG3 g w (fun g=>Ly g E 0 fun g t0=>C3 M g (.func ku) [(.str qw4),t0] H fun g t72 H1=>k g t72 t0 H1) (fun g=>k g uu uu H)) (fun g t72_1 t71_1 H2=>B3 g (Op.pick [t69,t72_1,(.bool false)]) fun g t73=>IF3 g t73 (fun g=>Ly g E 7 fun g t7_1=>B3 g ((Op.sliceStr [none,(some 0)]) [(.str qw4),t7_1]) fun g t75=>GO3 g Q .ret ((4,t75)::E) D H2) (fun g=>Ly g E 7 fun g t7_1=>Bn g .leq t7_1 (.int .i64 128) fun g t78=>JN (fun (k:Bool->AV->AV->AHeap->Prop)=>B3 g (wantV true (some t78)) fun g w=>IG3 g w (fun g=>Ly g E 0 fun g t0_1=>C3 M g (.func ku) [(.str qw5),t0_1] H2 fun g t81 H3=>k g t81 t0_1 H3) (fun g=>k g uu uu H2)) (fun g t81_1 t80_1 H4=>B3 g (Op.pick [t78,t81_1,(.bool false)]) fun g t82=>IF3 g t82 (fun g=>Ly g E 7 fun g t7_2=>B3 g ((Op.sliceStr [none,(some 0)]) [(.str qw5),t7_2]) fun g t84=>GO3 g Q .ret ((4,t84)::E) D H4) (fun g=>W M c (qr 91) g Q E D H4))))) /\
 (∀ Q E D H,W M c (qr 60) true Q E D H =
  Lz E 42 fun g t42=>Bn g .eql t42 (.int .u8 61) fun g t47=>IF3 g t47 (fun g=>GO3 g Q .normal ((43,t47)::E) D H) (fun g=>Ly g E 42 fun g t42_1=>Bn g .eql t42_1 (.int .u8 9) fun g t48=>GO3 g Q .normal ((43,t48)::(43,t47)::E) D H)) /\
 (∀ Q E D H,W M c (qr 113) true Q E D H =
  A3 true qdl [.nilp,.nils] H fun g t9 H1=>Ly g E 7 fun g t7=>C3 M g (.func vz) [t9,t7] H1 fun g t108 H2=>W M c (qr 117) g Q ((9,t9)::E) D H2) /\
 (∀ Q E D H,W M c (qr 107) true Q E D H =
  Lz E 8 fun g t8=>Cb g .eql t8 (.int .i64 0) (fun g=>Ly g E 0 fun g t0=>B3 g (Op.lenStr [t0]) fun g t106=>GO3 g Q .normal ((8,t106)::E) D H) (fun g=>GO3 g Q .normal E D H)) /\
 (∀ Q E D H,W M c (qr 91) true Q E D H =
  Lz E 7 fun g t7=>Bn g .leq t7 (.int .i64 64) fun g t87=>JN (fun (k:Bool->AV->AV->AHeap->Prop)=>B3 g (wantV true (some t87)) fun g w=>IG3 g w (fun g=>Ly g E 0 fun g t0=>C3 M g (.func ku) [(.str qw6),t0] H fun g t90 H1=>k g t90 t0 H1) (fun g=>k g uu uu H)) (fun g t90_1 t89_1 H2=>B3 g (Op.pick [t87,t90_1,(.bool false)]) fun g t91=>IF3 g t91 (fun g=>Ly g E 7 fun g t7_1=>B3 g ((Op.sliceStr [none,(some 0)]) [(.str qw6),t7_1]) fun g t93=>GO3 g Q .ret ((4,t93)::E) D H2) (fun g=>GO3 g Q .normal E D H2))) /\
 (∀ Q E D H,W M c (qr 117) true Q E D H =
  Lz E 0 fun g t0=>Ly g E 9 fun g t9=>C3 M g (.func z9) [t9,t0] H fun g t110 H1=>W M c (qr 119) g Q E D H1) /\
 (∀ Q E D H,W M c (qr 119) true Q E D H =
  LOOP3 (W M c (qr 122)) (BLK3 3 (SEQ3 (W M c (qr 132)) Q)) E D H) /\
 (∀ Q E D H,W M c (qr 132) true Q E D H =
  Lz E 9 fun g t9=>C3 M g (.func j9) [t9] H fun g t124 H1=>GO3 g Q .ret ((4,t124)::E) D H1) /\
 (∀ Q E D H,W M c (qr 122) true Q E D H =
  Lz E 9 fun g t9=>C3 M g (.func ym) [t9] H fun g t111 H1=>Ly g E 7 fun g t7=>Cb g .lss t111 t7 (fun g=>Gt g M c (qr 128) Q E D H1) (fun g=>GO3 g (SEQ3 (W M c (qr 128)) Q) (.exit 3) E D H1)) /\
 (∀ Q E D H,W M c (qr 128) true Q E D H =
  Lz E 7 fun g t7=>Ly g E 9 fun g t9=>C3 M g (.func ym) [t9] H fun g t115 H1=>Bn g .sub t7 t115 fun g t116=>C3 M g (.func ym) [t9] H1 fun g t117 H2=>Ly g E 8 fun g t8=>B3 g ((Op.minmax false) [t116,t117,t8]) fun g t119=>Ly g E 9 fun g t9_1=>C3 M g (.func j9) [t9_1] H2 fun g t120 H3=>B3 g ((Op.sliceStr [none,(some 0)]) [t120,t119]) fun g t122=>C3 M g (.func z9) [t9_1,t122] H3 fun g t123 H4=>GO3 g (BLK3 4 Q) .normal ((10,t119)::E) D H4):=by (repeat' apply And.intro)<;>(intro _ _ _ _;refine W_unf ?_;kernel_rfl)
theorem qtr:(cProg Tryd.prog).func qas=some qid/\qid.results=[.tmp 4]:=x9 (by kernel_rfl)
theorem qts (h:W M ⟨none,qas⟩ (qr 0) true (FIN3 M [.tmp 4] Q) [(0,a0),(1,a1)] [] H):yb M qas [a0,a1] H Q:=callf (by decide) qtr (ks:=qmr) (by kernel_rfl) h
def qdz:AFunc:=funcAt Tryd.prog z0
def qgm:Kp:=⟨[0,1,2,6,15,54],false,[0,13,25,31,34,38,53]⟩
def x4 (k:Nat):Kp × ACode:=(qgm,part qdz.body k)
theorem xq (M:Mac) (c:Ctx):(∀ Q E D H,W M c (x4 0) true Q E D H =
 Lz E 0 fun g t0=>Nf g 2 t0 H fun g t10=>Ly g E 1 fun g t1=>B3 g ((Op.indexSl 3) [t10,t1]) fun g t12=>B3 g ((Op.loadN 3) [t12] H) fun g t13=>A3 g qj [(.int .i64 0),(.int .u64 0),.nils] H fun g t6 H1=>B32 g ((Op.store 3) [t6,t13] H1) fun g u H2=>Fl g 0 t6 H2 fun g t15=>Cb g .eql t15 (.int .i64 14) (fun g=>Ly g E 0 fun g t0_1=>Fl g 1 t6 H2 fun g t20=>Bn g .add (.int .u64 97) t20 fun g t21=>B3 g ((Op.wrap .i32) [t21]) fun g t22=>B3 g (Op.strOfInt [t22]) fun g t23=>Bn g .add t23 (.str [32,61,32]) fun g t24=>C3 M g (.func xd) [t0_1,t24] H2 fun g t25 H3=>Ly g E 0 fun g t0_2=>Fl g 2 t6 H3 fun g t28=>Xl g t28 (.int .i64 0) H3 fun g t30=>C3 M g (.func zz) [t0_2,t30,(.int .i64 0)] H3 fun g t31 H4=>Ly g E 0 fun g t0_3=>C3 M g (.func xd) [t0_3,(.str [59])] H4 fun g t33 H5=>GO3 g (BLK3 0 Q) .normal ((15,t15)::(6,t6)::E) D H5) (fun g=>W M c (x4 13) g (BLK3 0 Q) ((15,t15)::(6,t6)::E) D H2)) /\
 (∀ Q E D H,W M c (x4 13) true Q E D H =
  Lz E 15 fun g t15=>Cb g .eql t15 (.int .i64 15) (fun g=>Ly g E 0 fun g t0=>C3 M g (.func xd) [t0,(.str [115,116,111,114,101,40])] H fun g t37 H1=>Ly g E 0 fun g t0_1=>Ly g E 6 fun g t6=>Fl g 2 t6 H1 fun g t40=>Xl g t40 (.int .i64 0) H1 fun g t42=>C3 M g (.func zz) [t0_1,t42,(.int .i64 0)] H1 fun g t43 H2=>Ly g E 0 fun g t0_2=>C3 M g (.func xd) [t0_2,(.str [44,32])] H2 fun g t45 H3=>Ly g E 0 fun g t0_3=>Ly g E 6 fun g t6_1=>Fl g 2 t6_1 H3 fun g t48=>Xl g t48 (.int .i64 1) H3 fun g t50=>C3 M g (.func zz) [t0_3,t50,(.int .i64 0)] H3 fun g t51 H4=>Ly g E 0 fun g t0_4=>C3 M g (.func xd) [t0_4,(.str [41,59])] H4 fun g t53 H5=>GO3 g Q .normal E D H5) (fun g=>W M c (x4 25) g Q E D H)) /\
 (∀ Q E D H,W M c (x4 25) true Q E D H =
  Lz E 15 fun g t15=>Bn g .eql t15 (.int .i64 16) fun g t55=>IF3 g t55 (fun g=>Gt g M c (x4 31) Q ((54,t55)::E) D H) (fun g=>Ly g E 15 fun g t15_1=>Bn g .eql t15_1 (.int .i64 17) fun g t56=>Gt g M c (x4 31) Q ((54,t56)::(54,t55)::E) D H)) /\
 (∀ Q E D H,W M c (x4 31) true Q E D H =
  Lz E 54 fun g t54=>IF3 g t54 (fun g=>Ly g E 0 fun g t0=>B32 g ((Op.buildSlice vj 2 [(.str [])] [(0,1),(1,1)]) [(.str [105,102,32,40]),(.str [119,104,105,108,101,32,40])]) fun g o1 k1=>Ly g E 6 fun g t6=>Fl g 0 t6 (H.alloc o1) fun g t60=>Bn g .sub t60 (.int .i64 16) fun g t61=>Xl g (k1 H.next) t61 (H.alloc o1) fun g t63=>C3 M g (.func xd) [t0,t63] (H.alloc o1) fun g t64 H2=>W M c (x4 34) g Q E D H2) (fun g=>Ly g E 15 fun g t15=>Cb g .eql t15 (.int .i64 18) (fun g=>Ly g E 0 fun g t0=>C3 M g (.func xd) [t0,(.str [97,116,111,109,105,99,32])] H fun g t96 H1=>Ly g E 0 fun g t0_1=>Ly g E 6 fun g t6=>Fl g 2 t6 H1 fun g t99=>Xl g t99 (.int .i64 0) H1 fun g t101=>Ly g E 2 fun g t2=>C3 M g (.func yp) [t0_1,t101,t2] H1 fun g t103 H2=>GO3 g Q .normal E D H2) (fun g=>W M c (x4 53) g Q E D H))) /\
 (∀ Q E D H,W M c (x4 34) true Q E D H =
  Lz E 0 fun g t0=>Ly g E 6 fun g t6=>Fl g 2 t6 H fun g t67=>Xl g t67 (.int .i64 0) H fun g t69=>C3 M g (.func qbq) [t0,t69] H fun g t70 H1=>Ly g E 0 fun g t0_1=>C3 M g (.func xd) [t0_1,(.str [41,32])] H1 fun g t72 H2=>W M c (x4 38) g Q E D H2) /\
 (∀ Q E D H,W M c (x4 53) true Q E D H =
  Lz E 15 fun g t15=>Cb g .eql t15 (.int .i64 19) (fun g=>Ly g E 0 fun g t0=>C3 M g (.func xd) [t0,(.str [104,97,108,116,59])] H fun g t107 H1=>GO3 g Q .normal E D H1) (fun g=>GO3 g Q .normal E D H)) /\
 (∀ Q E D H,W M c (x4 38) true Q E D H =
  Lz E 0 fun g t0=>Ly g E 6 fun g t6=>Fl g 2 t6 H fun g t75=>Xl g t75 (.int .i64 1) H fun g t77=>Ly g E 2 fun g t2=>C3 M g (.func yp) [t0,t77,t2] H fun g t79 H1=>Ly g E 6 fun g t6_1=>Fl g 2 t6_1 H1 fun g t81=>B3 g (Op.lenSl [t81]) fun g t82=>Cb g .eql t82 (.int .i64 3) (fun g=>Ly g E 0 fun g t0_1=>C3 M g (.func xd) [t0_1,(.str [32,101,108,115,101,32])] H1 fun g t85 H2=>Ly g E 0 fun g t0_2=>Ly g E 6 fun g t6_2=>Fl g 2 t6_2 H2 fun g t88=>Xl g t88 (.int .i64 2) H2 fun g t90=>Ly g E 2 fun g t2_1=>C3 M g (.func yp) [t0_2,t90,t2_1] H2 fun g t92 H3=>GO3 g Q .normal E D H3) (fun g=>GO3 g Q .normal E D H1)):=by (repeat' apply And.intro)<;>(intro _ _ _ _;refine W_unf ?_;kernel_rfl)
theorem qlt:(cProg Tryd.prog).func z0=some qdz/\qdz.results=[]:=x9 (by kernel_rfl)
theorem yr (h:W M ⟨none,z0⟩ (x4 0) true (FIN3 M [] Q) [(0,a0),(1,a1),(2,a2)] [] H):yb M z0 [a0,a1,a2] H Q:=callf (by decide) qlt (ks:=qgm) (by kernel_rfl) h
def qf2:AFunc:=funcAt Tryd.prog ww
def qjw:Kp:=⟨[0,1,4,5,6,7,8],false,[0,2,8,10,16,20,23,29,31]⟩
def zb (k:Nat):Kp × ACode:=(qjw,part qf2.body k)
theorem qpm (M:Mac) (c:Ctx):(∀ Q E D H,W M c (zb 0) true Q E D H =
 W M c (zb 2) true Q ((4,.nils)::E) D H) /\
 (∀ Q E D H,W M c (zb 2) true Q E D H =
  Lz E 1 fun g t1=>Cb g .lss t1 (.int .i64 0) (fun g=>B3 g ((Op.mkIface vj) [(.str [99,97,110,110,111,116,32,98,101,32,110,101,103,97,116,105,118,101])]) fun g t11=>False) (fun g=>Gt g M c (zb 8) Q E D H)) /\
 (∀ Q E D H,W M c (zb 8) true Q E D H =
  Lz E 0 fun g t0=>B3 g (Op.lenSl [t0]) fun g t14=>B3 g ((Op.wrap .u64) [t14]) fun g t15=>Ly g E 1 fun g t1=>B3 g ((Op.wrap .u64) [t1]) fun g t17=>C3 M g (.func qco) [t15,t17] H fun g t18 H1=>B3 g ((Op.extract 0) [t18]) fun g t19=>B3 g ((Op.extract 1) [t18]) fun g t20=>W M c (zb 10) g Q ((6,t20)::(5,t19)::E) D H1) /\
 (∀ Q E D H,W M c (zb 10) true Q E D H =
  Lz E 5 fun g t5=>Bn g .gtr t5 (.int .u64 0) fun g t22=>JN (fun (k:Bool->AV->AV->AHeap->Prop)=>B3 g (wantV false (some t22)) fun g w=>IG3 g w (fun g=>Ly g E 6 fun g t6=>Bn g .gtr t6 (.int .u64 9223372036854775807) fun g t25=>k g t25 t6 H) (fun g=>k g uu uu H)) (fun g t25_1 t24_1 H1=>B3 g (Op.pick [t22,(.bool true),t25_1]) fun g t26=>IF3 g t26 (fun g=>B3 g ((Op.mkIface vj) [(.str q5n)]) fun g t27=>False) (fun g=>Gt g M c (zb 16) Q E D H1))) /\
 (∀ Q E D H,W M c (zb 16) true Q E D H =
  Lz E 6 fun g t6=>B3 g ((Op.wrap .i64) [t6]) fun g t29=>B32 g ((Op.mkSlice T_int 8 [(.int .i64 0)]) [t29,t29]) fun g o1 k1=>Ly g E 0 fun g t0=>B32 g ((Op.copy 1) [(k1 H.next),t0] (H.alloc o1)) fun g t33 H2=>W M c (zb 20) g Q ((8,t33)::(7,(k1 H.next))::E) D H2) /\
 (∀ Q E D H,W M c (zb 20) true Q E D H =
  LOOP3 (W M c (zb 23)) (BLK3 0 (SEQ3 (W M c (zb 31)) Q)) E D H) /\
 (∀ Q E D H,W M c (zb 31) true Q E D H =
  Lz E 7 fun g t7=>GO3 g Q .ret ((4,t7)::E) D H) /\
 (∀ Q E D H,W M c (zb 23) true Q E D H =
  Lz E 8 fun g t8=>Ly g E 7 fun g t7=>B3 g (Op.lenSl [t7]) fun g t36=>Cb g .lss t8 t36 (fun g=>Gt g M c (zb 29) Q E D H) (fun g=>GO3 g (SEQ3 (W M c (zb 29)) Q) (.exit 0) E D H)) /\
 (∀ Q E D H,W M c (zb 29) true Q E D H =
  Lz E 8 fun g t8=>Ly g E 7 fun g t7=>B3 g ((Op.sliceSl 1 [(some 0),none,none]) [t7,t8]) fun g t41=>B3 g ((Op.sliceSl 1 [none,(some 0),none]) [t7,t8]) fun g t44=>B32 g ((Op.copy 1) [t41,t44] H) fun g t45 H1=>Bn g .add t8 t45 fun g t46=>GO3 g (BLK3 1 Q) .normal ((8,t46)::E) D H1):=by (repeat' apply And.intro)<;>(intro _ _ _ _;refine W_unf ?_;kernel_rfl)
theorem qpk:(cProg Tryd.prog).func ww=some qf2/\qf2.results=[.tmp 4]:=x9 (by kernel_rfl)
theorem qpl (h:W M ⟨none,ww⟩ (zb 0) true (FIN3 M [.tmp 4] Q) [(0,a0),(1,a1)] [] H):yb M ww [a0,a1] H Q:=callf (by decide) qpk (ks:=qjw) (by kernel_rfl) h
def qjg:AFunc:=funcAt Tryd.prog qco
def qm9:Kp:=⟨[0,1,4,5,6,7,8,9],false,[0,10]⟩
def qeu (k:Nat):Kp × ACode:=(qm9,part qjg.body k)
theorem qna (M:Mac) (c:Ctx):(∀ Q E D H,W M c (qeu 0) true Q E D H =
 IF3 true (.bool false) (fun g=>Ly g E 0 fun g t0=>B3 g ((Op.wrap .u32) [t0]) fun g t12=>Ly g E 1 fun g t1=>B3 g ((Op.wrap .u32) [t1]) fun g t14=>C3 M g (.func qq8) [t12,t14] H fun g t15 H1=>B3 g ((Op.extract 0) [t15]) fun g t16=>B3 g ((Op.extract 1) [t15]) fun g t17=>B3 g ((Op.wrap .u64) [t16]) fun g t19=>B3 g ((Op.wrap .u64) [t17]) fun g t21=>GO3 g (SEQ3 (W M c (qeu 10)) Q) .ret ((5,t21)::(4,t19)::(7,t17)::(6,t16)::(5,(.int .u64 0))::(4,(.int .u64 0))::E) D H1) (fun g=>Gt g M c (qeu 10) Q ((5,(.int .u64 0))::(4,(.int .u64 0))::E) D H)) /\
 (∀ Q E D H,W M c (qeu 10) true Q E D H =
  Lz E 0 fun g t0=>Ly g E 1 fun g t1=>C3 M g (.func qck) [t0,t1] H fun g t25 H1=>B3 g ((Op.extract 0) [t25]) fun g t26=>B3 g ((Op.extract 1) [t25]) fun g t27=>GO3 g Q .ret ((5,t27)::(4,t26)::(9,t27)::(8,t26)::E) D H1):=by (repeat' apply And.intro)<;>(intro _ _ _ _;refine W_unf ?_;kernel_rfl)
theorem qvc:(cProg Tryd.prog).func qco=some qjg/\qjg.results=[.tmp 4,.tmp 5]:=x9 (by kernel_rfl)
theorem qvd (h:W M ⟨none,qco⟩ (qeu 0) true (FIN3 M [.tmp 4,.tmp 5] Q) [(0,a0),(1,a1)] [] H):yb M qco [a0,a1] H Q:=callf (by decide) qvc (ks:=qm9) (by kernel_rfl) h
def qf3:AFunc:=funcAt Tryd.prog ku
def qjz:Kp:=⟨[0,1,4],false,[0]⟩
def qj0 (k:Nat):Kp × ACode:=(qjz,part qf3.body k)
theorem qj1 (M:Mac) (c:Ctx):(∀ Q E D H,W M c (qj0 0) true Q E D H =
 Lz E 0 fun g t0=>Ly g E 1 fun g t1=>C3 M g (.func yc) [t0,t1] H fun g t7 H1=>GO3 g Q .ret ((4,t7)::(4,(.bool false))::E) D H1):=by intro _ _ _ _;refine W_unf ?_;kernel_rfl
theorem qpn:(cProg Tryd.prog).func ku=some qf3/\qf3.results=[.tmp 4]:=x9 (by kernel_rfl)
theorem qpo (h:W M ⟨none,ku⟩ (qj0 0) true (FIN3 M [.tmp 4] Q) [(0,a0),(1,a1)] [] H):yb M ku [a0,a1] H Q:=callf (by decide) qpn (ks:=qjz) (by kernel_rfl) h
def qgk:AFunc:=funcAt Tryd.prog zz
def qj9:Kp:=⟨[0,1,2,6,7,9,18],false,[0,9,21,25,31,35]⟩
def jf (k:Nat):Kp × ACode:=(qj9,part qgk.body k)
theorem ve (M:Mac) (c:Ctx):(∀ Q E D H,W M c (jf 0) true Q E D H =
 Lz E 0 fun g t0=>Nf g 2 t0 H fun g t13=>Ly g E 1 fun g t1=>B3 g ((Op.indexSl 3) [t13,t1]) fun g t15=>B3 g ((Op.loadN 3) [t15] H) fun g t16=>A3 g qj [(.int .i64 0),(.int .u64 0),.nils] H fun g t6 H1=>B32 g ((Op.store 3) [t6,t16] H1) fun g u H2=>Fl g 0 t6 H2 fun g t18=>Cb g .eql t18 (.int .i64 1) (fun g=>Ly g E 0 fun g t0_1=>Fl g 1 t6 H2 fun g t61=>C3 M g (.func qaq) [t61,(.int .i64 10)] H2 fun g t62 H3=>C3 M g (.func xd) [t0_1,t62] H3 fun g t63 H4=>GO3 g (BLK3 0 Q) .normal ((18,t18)::(6,t6)::E) D H4) (fun g=>W M c (jf 9) g (BLK3 0 Q) ((18,t18)::(6,t6)::E) D H2)) /\
 (∀ Q E D H,W M c (jf 9) true Q E D H =
  Lz E 18 fun g t18=>Cb g .eql t18 (.int .i64 2) (fun g=>Ly g E 0 fun g t0=>Ly g E 6 fun g t6=>Fl g 1 t6 H fun g t68=>Bn g .add (.int .u64 97) t68 fun g t69=>B3 g ((Op.wrap .i32) [t69]) fun g t70=>B3 g (Op.strOfInt [t70]) fun g t71=>C3 M g (.func xd) [t0,t71] H fun g t72 H1=>GO3 g Q .normal E D H1) (fun g=>Ly g E 18 fun g t18_1=>Cb g .eql t18_1 (.int .i64 3) (fun g=>Ly g E 0 fun g t0=>C3 M g (.func xd) [t0,(.str [108,111,97,100,40])] H fun g t76 H1=>Ly g E 0 fun g t0_1=>Ly g E 6 fun g t6=>Fl g 2 t6 H1 fun g t79=>Xl g t79 (.int .i64 0) H1 fun g t81=>C3 M g (.func zz) [t0_1,t81,(.int .i64 0)] H1 fun g t82 H2=>Ly g E 0 fun g t0_2=>C3 M g (.func xd) [t0_2,(.str [41])] H2 fun g t84 H3=>GO3 g Q .normal E D H3) (fun g=>W M c (jf 21) g Q E D H))) /\
 (∀ Q E D H,W M c (jf 21) true Q E D H =
  Lz E 6 fun g t6=>Fl g 0 t6 H fun g t20=>C3 M g (.func qf7) [t20] H fun g t21 H1=>C3 M g (.func qhb) [t21] H1 fun g t24 H2=>B3 g ((Op.extract 0) [t24]) fun g t25=>B3 g ((Op.extract 1) [t24]) fun g t26=>W M c (jf 25) g Q ((9,t26)::(7,t21)::E) D H2) /\
 (∀ Q E D H,W M c (jf 25) true Q E D H =
  Lz E 9 fun g t9=>Ly g E 2 fun g t2=>Cb g .lss t9 t2 (fun g=>Ly g E 0 fun g t0=>C3 M g (.func xd) [t0,(.str [40])] H fun g t31 H1=>Gt g M c (jf 31) Q E D H1) (fun g=>Gt g M c (jf 31) Q E D H)) /\
 (∀ Q E D H,W M c (jf 31) true Q E D H =
  Lz E 0 fun g t0=>Ly g E 6 fun g t6=>Fl g 2 t6 H fun g t34=>Xl g t34 (.int .i64 0) H fun g t36=>Ly g E 9 fun g t9=>C3 M g (.func zz) [t0,t36,t9] H fun g t38 H1=>Ly g E 0 fun g t0_1=>Ly g E 7 fun g t7=>Bn g .add (.str [32]) t7 fun g t41=>Bn g .add t41 (.str [32]) fun g t42=>C3 M g (.func xd) [t0_1,t42] H1 fun g t43 H2=>W M c (jf 35) g Q E D H2) /\
 (∀ Q E D H,W M c (jf 35) true Q E D H =
  Lz E 0 fun g t0=>Ly g E 6 fun g t6=>Fl g 2 t6 H fun g t46=>Xl g t46 (.int .i64 1) H fun g t48=>Ly g E 9 fun g t9=>Bn g .add t9 (.int .i64 1) fun g t50=>C3 M g (.func zz) [t0,t48,t50] H fun g t51 H1=>Ly g E 9 fun g t9_1=>Ly g E 2 fun g t2=>Cb g .lss t9_1 t2 (fun g=>Ly g E 0 fun g t0_1=>C3 M g (.func xd) [t0_1,(.str [41])] H1 fun g t56 H2=>GO3 g Q .normal E D H2) (fun g=>GO3 g Q .normal E D H1)):=by (repeat' apply And.intro)<;>(intro _ _ _ _;refine W_unf ?_;kernel_rfl)
theorem qp7:(cProg Tryd.prog).func zz=some qgk/\qgk.results=[]:=x9 (by kernel_rfl)
theorem qel (h:W M ⟨none,zz⟩ (jf 0) true (FIN3 M [] Q) [(0,a0),(1,a1),(2,a2)] [] H):yb M zz [a0,a1,a2] H Q:=callf (by decide) qp7 (ks:=qj9) (by kernel_rfl) h
def qgj:AFunc:=funcAt Tryd.prog qbq
def qj7:Kp:=⟨[0,1,4],false,[0]⟩
def qj8 (k:Nat):Kp × ACode:=(qj7,part qgj.body k)
theorem qek (M:Mac) (c:Ctx):(∀ Q E D H,W M c (qj8 0) true Q E D H =
 Lz E 0 fun g t0=>Nf g 2 t0 H fun g t8=>Ly g E 1 fun g t1=>B3 g ((Op.indexSl 3) [t8,t1]) fun g t10=>B3 g ((Op.loadN 3) [t10] H) fun g t11=>A3 g qj [(.int .i64 0),(.int .u64 0),.nils] H fun g t4 H1=>B32 g ((Op.store 3) [t4,t11] H1) fun g u H2=>Ly g E 0 fun g t0_1=>Fl g 2 t4 H2 fun g t14=>Xl g t14 (.int .i64 0) H2 fun g t16=>C3 M g (.func zz) [t0_1,t16,(.int .i64 0)] H2 fun g t17 H3=>Ly g E 0 fun g t0_2=>B32 g ((Op.buildSlice vj 3 [(.str [])] [(0,1),(1,1),(2,1)]) [(.str [32,61,61,32]),(.str [32,33,61,32]),(.str [32,60,32])]) fun g o4 k4=>Fl g 0 t4 (H3.alloc o4) fun g t21=>Bn g .sub t21 (.int .i64 11) fun g t22=>Xl g (k4 H3.next) t22 (H3.alloc o4) fun g t24=>C3 M g (.func xd) [t0_2,t24] (H3.alloc o4) fun g t25 H5=>Ly g E 0 fun g t0_3=>Fl g 2 t4 H5 fun g t28=>Xl g t28 (.int .i64 1) H5 fun g t30=>C3 M g (.func zz) [t0_3,t30,(.int .i64 0)] H5 fun g t31 H6=>GO3 g Q .normal ((4,t4)::E) D H6):=by intro _ _ _ _;refine W_unf ?_;kernel_rfl
theorem qp5:(cProg Tryd.prog).func qbq=some qgj/\qgj.results=[]:=x9 (by kernel_rfl)
theorem qp6 (h:W M ⟨none,qbq⟩ (qj8 0) true (FIN3 M [] Q) [(0,a0),(1,a1)] [] H):yb M qbq [a0,a1] H Q:=callf (by decide) qp5 (ks:=qj7) (by kernel_rfl) h
def qf0:AFunc:=funcAt Tryd.prog yp
def qje:Kp:=⟨[0,1,2],false,[0]⟩
def qjf (k:Nat):Kp × ACode:=(qje,part qf0.body k)
theorem qcr (M:Mac) (c:Ctx):(∀ Q E D H,W M c (qjf 0) true Q E D H =
 Lz E 0 fun g t0=>C3 M g (.func xd) [t0,(.str [123,10])] H fun g t7 H1=>Ly g E 0 fun g t0_1=>Ly g E 1 fun g t1=>Ly g E 2 fun g t2=>Bn g .add t2 (.int .i64 1) fun g t11=>C3 M g (.func qan) [t0_1,t1,t11] H1 fun g t12 H2=>Ly g E 0 fun g t0_2=>Ly g E 2 fun g t2_1=>C3 M g (.func qas) [(.str [32,32]),t2_1] H2 fun g t15 H3=>Bn g .add t15 (.str [125]) fun g t16=>C3 M g (.func xd) [t0_2,t16] H3 fun g t17 H4=>GO3 g Q .normal E D H4):=by intro _ _ _ _;refine W_unf ?_;kernel_rfl
theorem qo9:(cProg Tryd.prog).func yp=some qf0/\qf0.results=[]:=x9 (by kernel_rfl)
theorem qpa (h:W M ⟨none,yp⟩ (qjf 0) true (FIN3 M [] Q) [(0,a0),(1,a1),(2,a2)] [] H):yb M yp [a0,a1,a2] H Q:=callf (by decide) qo9 (ks:=qje) (by kernel_rfl) h
def qhj:AFunc:=funcAt Tryd.prog qck
def qk7:Kp:=⟨[0,1,4,5,6,7,8,9,10,11,12,13],false,[0,4,8,12]⟩
def qah (k:Nat):Kp × ACode:=(qk7,part qhj.body k)
theorem qrw (M:Mac) (c:Ctx):(∀ Q E D H,W M c (qah 0) true Q E D H =
 Lz E 0 fun g t0=>Bn g .and t0 (.int .u64 4294967295) fun g t15=>W M c (qah 4) g Q ((6,t15)::(5,(.int .u64 0))::(4,(.int .u64 0))::E) D H) /\
 (∀ Q E D H,W M c (qah 4) true Q E D H =
  Lz E 0 fun g t0=>Bn g .shr t0 (.int .u64 32) fun g t17=>Ly g E 1 fun g t1=>Bn g .and t1 (.int .u64 4294967295) fun g t19=>W M c (qah 8) g Q ((8,t19)::(7,t17)::E) D H) /\
 (∀ Q E D H,W M c (qah 8) true Q E D H =
  Lz E 1 fun g t1=>Bn g .shr t1 (.int .u64 32) fun g t21=>Ly g E 6 fun g t6=>Ly g E 8 fun g t8=>Bn g .mul t6 t8 fun g t24=>W M c (qah 12) g Q ((10,t24)::(9,t21)::E) D H) /\
 (∀ Q E D H,W M c (qah 12) true Q E D H =
  Lz E 7 fun g t7=>Ly g E 8 fun g t8=>Bn g .mul t7 t8 fun g t27=>Ly g E 10 fun g t10=>Bn g .shr t10 (.int .u64 32) fun g t29=>Bn g .add t27 t29 fun g t30=>Bn g .and t30 (.int .u64 4294967295) fun g t32=>Bn g .shr t30 (.int .u64 32) fun g t34=>Ly g E 6 fun g t6=>Ly g E 9 fun g t9=>Bn g .mul t6 t9 fun g t38=>Bn g .add t32 t38 fun g t39=>Ly g E 7 fun g t7_1=>Ly g E 9 fun g t9_1=>Bn g .mul t7_1 t9_1 fun g t42=>Bn g .add t42 t34 fun g t44=>Bn g .shr t39 (.int .u64 32) fun g t46=>Bn g .add t44 t46 fun g t47=>Ly g E 0 fun g t0=>Ly g E 1 fun g t1=>Bn g .mul t0 t1 fun g t50=>GO3 g Q .ret ((5,t50)::(4,t47)::(12,t39)::(13,t34)::(12,t32)::(11,t30)::E) D H):=by (repeat' apply And.intro)<;>(intro _ _ _ _;refine W_unf ?_;kernel_rfl)
theorem qru:(cProg Tryd.prog).func qck=some qhj/\qhj.results=[.tmp 4,.tmp 5]:=x9 (by kernel_rfl)
theorem qrv (h:W M ⟨none,qck⟩ (qah 0) true (FIN3 M [.tmp 4,.tmp 5] Q) [(0,a0),(1,a1)] [] H):yb M qck [a0,a1] H Q:=callf (by decide) qru (ks:=qk7) (by kernel_rfl) h
def qaw:AFunc:=funcAt Tryd.prog yc
def qdf:Kp:=⟨[0,1,4],false,[0]⟩
def qdg (k:Nat):Kp × ACode:=(qdf,part qaw.body k)
theorem qgz (M:Mac) (c:Ctx):(∀ Q E D H,W M c (qdg 0) true Q E D H =
 Lz E 0 fun g t0=>B3 g (Op.lenStr [t0]) fun g t6=>Ly g E 1 fun g t1=>B3 g (Op.lenStr [t1]) fun g t8=>Bn g .geq t6 t8 fun g t9=>JN (fun (k:Bool->AV->AV->AV->AV->AV->AV->AHeap->Prop)=>B3 g (wantV true (some t9)) fun g w=>IG3 g w (fun g=>B3 g (Op.lenStr [t1]) fun g t13=>B3 g ((Op.sliceStr [none,(some 0)]) [t0,t13]) fun g t14=>Bn g .eql t14 t1 fun g t16=>k g t16 t1 t14 t13 t1 t0 H) (fun g=>k g uu uu uu uu uu uu H)) (fun g t16_1 t15_1 t14_1 t13_1 t12_1 t11_1 H1=>B3 g (Op.pick [t9,t16_1,(.bool false)]) fun g t17=>GO3 g Q .ret ((4,t17)::(4,(.bool false))::E) D H1)):=by intro _ _ _ _;refine W_unf ?_;kernel_rfl
theorem qgx:(cProg Tryd.prog).func yc=some qaw/\qaw.results=[.tmp 4]:=x9 (by kernel_rfl)
theorem qgy (h:W M ⟨none,yc⟩ (qdg 0) true (FIN3 M [.tmp 4] Q) [(0,a0),(1,a1)] [] H):yb M yc [a0,a1] H Q:=callf (by decide) qgx (ks:=qdf) (by kernel_rfl) h
def qm8:AFunc:=funcAt Tryd.prog qf7
def qsw:Kp:=⟨[0,2],false,[0]⟩
def qsx (k:Nat):Kp × ACode:=(qsw,part qm8.body k)
theorem q02 (M:Mac) (c:Ctx):(∀ Q E D H,W M c (qsx 0) true Q E D H =
 B32 true ((Op.buildSlice vj 7 [(.str [])] [(0,1),(1,1),(2,1),(3,1),(4,1),(5,1),(6,1)]) [(.str [43]),(.str [45]),(.str [42]),(.str [38]),(.str [94]),(.str [60,60]),(.str [62,62])]) fun g o1 k1=>Ly g E 0 fun g t0=>Bn g .sub t0 (.int .i64 4) fun g t5=>Xl g (k1 H.next) t5 (H.alloc o1) fun g t7=>GO3 g Q .ret ((2,t7)::(2,(.str []))::E) D (H.alloc o1)):=by intro _ _ _ _;refine W_unf ?_;kernel_rfl
theorem q00:(cProg Tryd.prog).func qf7=some qm8/\qm8.results=[.tmp 2]:=x9 (by kernel_rfl)
theorem q01 (h:W M ⟨none,qf7⟩ (qsx 0) true (FIN3 M [.tmp 2] Q) [(0,a0)] [] H):yb M qf7 [a0] H Q:=callf (by decide) q00 (ks:=qsw) (by kernel_rfl) h
def qo8:AFunc:=funcAt Tryd.prog qhb
def qu6:Kp:=⟨[0,2,3,4],false,[0,2,18,30,42,49]⟩
def qao (k:Nat):Kp × ACode:=(qu6,part qo8.body k)
theorem q25 (M:Mac) (c:Ctx):(∀ Q E D H,W M c (qao 0) true Q E D H =
 W M c (qao 2) true Q ((3,(.int .i64 0))::(2,(.int .i64 0))::E) D H) /\
 (∀ Q E D H,W M c (qao 2) true Q E D H =
  Lz E 0 fun g t0=>Cb g .eql t0 (.str [43]) (fun g=>GO3 g (BLK3 0 (SEQ3 (W M c (qao 49)) Q)) .ret ((3,(.int .i64 1))::(2,(.int .i64 4))::(4,t0)::E) D H) (fun g=>Cb g .eql t0 (.str [45]) (fun g=>GO3 g (BLK3 0 (SEQ3 (W M c (qao 49)) Q)) .ret ((3,(.int .i64 1))::(2,(.int .i64 5))::(4,t0)::E) D H) (fun g=>W M c (qao 18) g (BLK3 0 (SEQ3 (W M c (qao 49)) Q)) ((4,t0)::E) D H))) /\
 (∀ Q E D H,W M c (qao 49) true Q E D H =
  GO3 true Q .ret ((3,(.int .i64 0))::(2,(.int .i64 0))::E) D H) /\
 (∀ Q E D H,W M c (qao 18) true Q E D H =
  Lz E 4 fun g t4=>Cb g .eql t4 (.str [94]) (fun g=>GO3 g Q .ret ((3,(.int .i64 1))::(2,(.int .i64 8))::E) D H) (fun g=>Ly g E 4 fun g t4_1=>Cb g .eql t4_1 (.str [42]) (fun g=>GO3 g Q .ret ((3,(.int .i64 2))::(2,(.int .i64 6))::E) D H) (fun g=>W M c (qao 30) g Q E D H))) /\
 (∀ Q E D H,W M c (qao 30) true Q E D H =
  Lz E 4 fun g t4=>Cb g .eql t4 (.str [38]) (fun g=>GO3 g Q .ret ((3,(.int .i64 2))::(2,(.int .i64 7))::E) D H) (fun g=>Ly g E 4 fun g t4_1=>Cb g .eql t4_1 (.str [60,60]) (fun g=>GO3 g Q .ret ((3,(.int .i64 2))::(2,(.int .i64 9))::E) D H) (fun g=>W M c (qao 42) g Q E D H))) /\
 (∀ Q E D H,W M c (qao 42) true Q E D H =
  Lz E 4 fun g t4=>Cb g .eql t4 (.str [62,62]) (fun g=>GO3 g Q .ret ((3,(.int .i64 2))::(2,(.int .i64 10))::E) D H) (fun g=>GO3 g Q .normal E D H)):=by (repeat' apply And.intro)<;>(intro _ _ _ _;refine W_unf ?_;kernel_rfl)
theorem q23:(cProg Tryd.prog).func qhb=some qo8/\qo8.results=[.tmp 2,.tmp 3]:=x9 (by kernel_rfl)
theorem q24 (h:W M ⟨none,qhb⟩ (qao 0) true (FIN3 M [.tmp 2,.tmp 3] Q) [(0,a0)] [] H):yb M qhb [a0] H Q:=callf (by decide) q23 (ks:=qu6) (by kernel_rfl) h
end
end Go.Am
namespace Go.Am
abbrev qcp:Nat:=43
abbrev yq:Nat:=16
abbrev qdx:Nat:=67
abbrev qes:Nat:=71
abbrev qdd:Nat:=102
abbrev qac:Nat:=70
abbrev qad:Nat:=68
abbrev qde:Nat:=69
abbrev vy:Nat:=44
abbrev qea:Nat:=103
noncomputable section
open Go.Proofs Go.Proofs.YtbimikjajohflaaDoor
variable {M:Mac} [MK M] {H:AHeap} {Q:AEnd->AHeap->Prop} {a0 a1 a2:AV}
def ql7:AFunc:=funcAt Tryd.prog yq
def qqo:Kp:=⟨[0,2,3,4,5,6,7],false,[0,4,12,16,21,27,35,41,48,49]⟩
def zh (k:Nat):Kp × ACode:=(qqo,part ql7.body k)
theorem ql8 (M:Mac) (c:Ctx):(∀ Q E D H,W M c (zh 0) true Q E D H =
 Lz E 0 fun g t0=>C3 M g (.func qcp) [t0] H fun g t9 H1=>W M c (zh 4) g Q ((4,t9)::(3,(.int .i64 0))::(2,(.str []))::E) D H1) /\
 (∀ Q E D H,W M c (zh 4) true Q E D H =
  Lz E 4 fun g t4=>B3 g ((Op.un .not) [t4]) fun g t11=>IF3 g t11 (fun g=>GO3 g (SEQ3 (W M c (zh 12)) Q) .ret ((3,(.int .i64 2))::(2,(.str []))::E) D H) (fun g=>Gt g M c (zh 12) Q E D H)) /\
 (∀ Q E D H,W M c (zh 12) true Q E D H =
  Lz E 0 fun g t0=>B3 g (Op.lenSl [t0]) fun g t14=>Bn g .sub t14 (.int .i64 1) fun g t15=>C3 M g (.func vy) [t0,t15,(.str [])] H fun g t16 H1=>W M c (zh 16) g Q ((6,(.int .i64 0))::(5,t16)::E) D H1) /\
 (∀ Q E D H,W M c (zh 16) true Q E D H =
  LOOP3 (W M c (zh 21)) (BLK3 0 (SEQ3 (W M c (zh 49)) Q)) ((7,(.int .i64 0))::E) D H) /\
 (∀ Q E D H,W M c (zh 49) true Q E D H =
  Lz E 5 fun g t5=>GO3 g Q .ret ((3,(.int .i64 0))::(2,t5)::E) D H) /\
 (∀ Q E D H,W M c (zh 21) true Q E D H =
  Lz E 7 fun g t7=>Ly g E 5 fun g t5=>B3 g (Op.lenStr [t5]) fun g t19=>Cb g .lss t7 t19 (fun g=>Gt g M c (zh 27) Q E D H) (fun g=>GO3 g (SEQ3 (W M c (zh 27)) Q) (.exit 0) E D H)) /\
 (∀ Q E D H,W M c (zh 27) true Q E D H =
  Lz E 5 fun g t5=>Ly g E 7 fun g t7=>B3 g (Op.indexStr [t5,t7]) fun g t25=>Bn g .eql t25 (.int .u8 40) fun g t26=>JN (fun (k:Bool->AV->AV->AV->AV->AHeap->Prop)=>B3 g (wantV false (some t26)) fun g w=>IG3 g w (fun g=>B3 g (Op.indexStr [t5,t7]) fun g t30=>Bn g .eql t30 (.int .u8 123) fun g t31=>k g t31 t30 t7 t5 H) (fun g=>k g uu uu uu uu H)) (fun g t31_1 t30_1 t29_1 t28_1 H1=>B3 g (Op.pick [t26,(.bool true),t31_1]) fun g t32=>IF3 g t32 (fun g=>Ly g E 6 fun g t6=>Bn g .add t6 (.int .i64 1) fun g t34=>Gt g M c (zh 35) (BLK3 1 (SEQ3 (W M c (zh 48)) Q)) ((6,t34)::E) D H1) (fun g=>Gt g M c (zh 35) (BLK3 1 (SEQ3 (W M c (zh 48)) Q)) E D H1))) /\
 (∀ Q E D H,W M c (zh 48) true Q E D H =
  Lz E 7 fun g t7=>Bn g .add t7 (.int .i64 1) fun g t22=>GO3 g Q .normal ((7,t22)::E) D H) /\
 (∀ Q E D H,W M c (zh 35) true Q E D H =
  Lz E 5 fun g t5=>Ly g E 7 fun g t7=>B3 g (Op.indexStr [t5,t7]) fun g t37=>Bn g .eql t37 (.int .u8 41) fun g t38=>JN (fun (k:Bool->AV->AV->AV->AV->AHeap->Prop)=>B3 g (wantV false (some t38)) fun g w=>IG3 g w (fun g=>B3 g (Op.indexStr [t5,t7]) fun g t42=>Bn g .eql t42 (.int .u8 125) fun g t43=>k g t43 t42 t7 t5 H) (fun g=>k g uu uu uu uu H)) (fun g t43_1 t42_1 t41_1 t40_1 H1=>B3 g (Op.pick [t38,(.bool true),t43_1]) fun g t44=>IF3 g t44 (fun g=>Ly g E 6 fun g t6=>Bn g .sub t6 (.int .i64 1) fun g t46=>Gt g M c (zh 41) Q ((6,t46)::E) D H1) (fun g=>Gt g M c (zh 41) Q E D H1))) /\
 (∀ Q E D H,W M c (zh 41) true Q E D H =
  Lz E 6 fun g t6=>Cb g .gtr t6 (.int .i64 50) (fun g=>GO3 g Q .ret ((3,(.int .i64 2))::(2,(.str []))::E) D H) (fun g=>GO3 g Q .normal E D H)):=by (repeat' apply And.intro)<;>(intro _ _ _ _;refine W_unf ?_;kernel_rfl)
theorem qzj:(cProg Tryd.prog).func yq=some ql7/\ql7.results=[.tmp 2,.tmp 3]:=x9 (by kernel_rfl)
theorem qqp (h:W M ⟨none,yq⟩ (zh 0) true (FIN3 M [.tmp 2,.tmp 3] Q) [(0,a0)] [] H):yb M yq [a0] H Q:=callf (by decide) qzj (ks:=qqo) (by kernel_rfl) h
def qpd:AFunc:=funcAt Tryd.prog qcp
def qv5:Kp:=⟨[0,2,3,4,5,6,7,8,9],false,[0,2,10,14,19,25,31,39,44,50,60,61,62,64,72,75,76]⟩
def xw (k:Nat):Kp × ACode:=(qv5,part qpd.body k)
theorem qv6 (M:Mac) (c:Ctx):(∀ Q E D H,W M c (xw 0) true Q E D H =
 W M c (xw 2) true Q ((2,(.bool false))::E) D H) /\
 (∀ Q E D H,W M c (xw 2) true Q E D H =
  Lz E 0 fun g t0=>B3 g (Op.lenSl [t0]) fun g t11=>Bn g .lss t11 (.int .i64 1) fun g t12=>JN (fun (k:Bool->AV->AV->AV->AHeap->Prop)=>B3 g (wantV false (some t12)) fun g w=>IG3 g w (fun g=>B3 g (Op.lenSl [t0]) fun g t15=>Bn g .gtr t15 (.int .i64 2000) fun g t16=>k g t16 t15 t0 H) (fun g=>k g uu uu uu H)) (fun g t16_1 t15_1 t14_1 H1=>B3 g (Op.pick [t12,(.bool true),t16_1]) fun g t17=>JN (fun (k:Bool->AV->AV->AV->AV->AV->AV->AV->AV->AHeap->Prop)=>B3 g (wantV false (some t17)) fun g w=>IG3 g w (fun g=>B3 g (Op.lenSl [t0]) fun g t21=>Bn g .sub t21 (.int .i64 1) fun g t22=>B3 g ((Op.indexSl 3) [t0,t22]) fun g t23=>B3 g ((Op.fieldAddr 0) [t23]) fun g t24=>B3 g (Op.load1 [t24] H1) fun g t25=>Bn g .neq t25 (.int .i64 20) fun g t26=>k g t26 t25 t24 t23 t22 t21 t0 t0 H1) (fun g=>k g uu uu uu uu uu uu uu uu H1)) (fun g t26_1 t25_1 t24_1 t23_1 t22_1 t21_1 t20_1 t19_1 H2=>B3 g (Op.pick [t17,(.bool true),t26_1]) fun g t27=>IF3 g t27 (fun g=>GO3 g (SEQ3 (W M c (xw 10)) Q) .ret ((2,(.bool false))::E) D H2) (fun g=>Gt g M c (xw 10) Q E D H2)))) /\
 (∀ Q E D H,W M c (xw 10) true Q E D H =
  Lz E 0 fun g t0=>B3 g (Op.lenSl [t0]) fun g t29=>B32 g ((Op.mkSlice qsi 1 [(.bool false)]) [t29,t29]) fun g o1 k1=>W M c (xw 14) g Q ((4,(k1 H.next))::(3,.nils)::E) D (H.alloc o1)) /\
 (∀ Q E D H,W M c (xw 14) true Q E D H =
  LOOP3 (W M c (xw 19)) (BLK3 0 (SEQ3 (W M c (xw 76)) Q)) ((5,(.int .i64 0))::E) D H) /\
 (∀ Q E D H,W M c (xw 76) true Q E D H =
  Lz E 3 fun g t3=>B3 g (Op.lenSl [t3]) fun g t129=>Bn g .eql t129 (.int .i64 1) fun g t130=>GO3 g Q .ret ((2,t130)::E) D H) /\
 (∀ Q E D H,W M c (xw 19) true Q E D H =
  Lz E 5 fun g t5=>Ly g E 0 fun g t0=>B3 g (Op.lenSl [t0]) fun g t33=>Cb g .lss t5 t33 (fun g=>Gt g M c (xw 25) Q E D H) (fun g=>GO3 g (SEQ3 (W M c (xw 25)) Q) (.exit 0) E D H)) /\
 (∀ Q E D H,W M c (xw 25) true Q E D H =
  Lz E 0 fun g t0=>Ly g E 5 fun g t5=>B3 g ((Op.indexSl 3) [t0,t5]) fun g t39=>B3 g ((Op.loadN 3) [t39] H) fun g t40=>A3 g qj [(.int .i64 0),(.int .u64 0),.nils] H fun g t6 H1=>B32 g ((Op.store 3) [t6,t40] H1) fun g u H2=>Fl g 2 t6 H2 fun g t42=>B3 g (Op.lenSl [t42]) fun g t43=>W M c (xw 31) g (BLK3 1 (SEQ3 (W M c (xw 75)) Q)) ((7,t43)::(6,t6)::E) D H2) /\
 (∀ Q E D H,W M c (xw 75) true Q E D H =
  Lz E 5 fun g t5=>Bn g .add t5 (.int .i64 1) fun g t36=>GO3 g Q .normal ((5,t36)::E) D H) /\
 (∀ Q E D H,W M c (xw 31) true Q E D H =
  Lz E 6 fun g t6=>Fl g 0 t6 H fun g t45=>C3 M g (.func qdx) [t45] H fun g t46 H1=>Bn g .eql t46 (.int .i64 0) fun g t47=>JN (fun (k:Bool->AV->AV->AV->AV->AHeap->Prop)=>B3 g (wantV false (some t47)) fun g w=>IG3 g w (fun g=>Ly g E 7 fun g t7=>Ly g E 3 fun g t3=>B3 g (Op.lenSl [t3]) fun g t51=>Bn g .gtr t7 t51 fun g t52=>k g t52 t51 t3 t7 H1) (fun g=>k g uu uu uu uu H1)) (fun g t52_1 t51_1 t50_1 t49_1 H2=>B3 g (Op.pick [t47,(.bool true),t52_1]) fun g t53=>IF3 g t53 (fun g=>GO3 g (SEQ3 (W M c (xw 39)) Q) .ret ((2,(.bool false))::E) D H2) (fun g=>Gt g M c (xw 39) Q E D H2))) /\
 (∀ Q E D H,W M c (xw 39) true Q E D H =
  LOOP3 (W M c (xw 44)) (BLK3 2 (SEQ3 (W M c (xw 62)) Q)) ((8,(.int .i64 0))::E) D H) /\
 (∀ Q E D H,W M c (xw 62) true Q E D H =
  Lz E 0 fun g t0=>Ly g E 6 fun g t6=>B3 g ((Op.loadN 3) [t6] H) fun g t92=>C3 M g (.func qad) [t0,t92] H fun g t93 H1=>W M c (xw 64) g Q ((9,t93)::E) D H1) /\
 (∀ Q E D H,W M c (xw 44) true Q E D H =
  Lz E 8 fun g t8=>Ly g E 7 fun g t7=>Cb g .lss t8 t7 (fun g=>Gt g M c (xw 50) Q E D H) (fun g=>GO3 g (SEQ3 (W M c (xw 50)) Q) (.exit 2) E D H)) /\
 (∀ Q E D H,W M c (xw 64) true Q E D H =
  Lz E 9 fun g t9=>B3 g ((Op.un .not) [t9]) fun g t95=>JN (fun (k:Bool->AV->AV->AV->AV->AHeap->Prop)=>B3 g (wantV false (some t95)) fun g w=>IG3 g w (fun g=>Ly g E 6 fun g t6=>B3 g ((Op.fieldAddr 0) [t6]) fun g t97=>B3 g (Op.load1 [t97] H) fun g t98=>Bn g .eql t98 (.int .i64 18) fun g t99=>k g t99 t99 t98 t97 H) (fun g=>k g uu uu uu uu H)) (fun g t100_1 t99_1 t98_1 t97_1 H1=>JN (fun (k:Bool->AV->AV->AV->AV->AHeap->Prop)=>B3 g (wantV true (some t100_1)) fun g w=>IG3 g w (fun g=>Ly g E 4 fun g t4=>Ly g E 5 fun g t5=>B3 g ((Op.indexSl 1) [t4,t5]) fun g t103=>B3 g (Op.load1 [t103] H1) fun g t104=>k g t104 t103 t5 t4 H1) (fun g=>k g uu uu uu uu H1)) (fun g t104_1 t103_1 t102_1 t101_1 H2=>JN (fun (k:Bool->AV->AHeap->Prop)=>B3 g (wantV false (some t95)) fun g w=>IG3 g w (fun g=>B3 g (Op.pick [t100_1,t104_1,(.bool false)]) fun g t105=>k g t105 H2) (fun g=>k g uu H2)) (fun g t105_1 H3=>B3 g (Op.pick [t95,(.bool true),t105_1]) fun g t106=>IF3 g t106 (fun g=>GO3 g (SEQ3 (W M c (xw 72)) Q) .ret ((2,(.bool false))::E) D H3) (fun g=>Gt g M c (xw 72) Q E D H3))))) /\
 (∀ Q E D H,W M c (xw 50) true Q E D H =
  Lz E 6 fun g t6=>Fl g 2 t6 H fun g t60=>Ly g E 8 fun g t8=>Xl g t60 t8 H fun g t63=>Ly g E 3 fun g t3=>B3 g (Op.lenSl [t3]) fun g t66=>Ly g E 7 fun g t7=>Bn g .sub t66 t7 fun g t68=>Bn g .add t68 t8 fun g t70=>Xl g t3 t70 H fun g t72=>Cb g .neq t63 t72 (fun g=>GO3 g (SEQ3 (W M c (xw 60)) (BLK3 3 (SEQ3 (W M c (xw 61)) Q))) .ret ((2,(.bool false))::E) D H) (fun g=>Gt g M c (xw 60) (BLK3 3 (SEQ3 (W M c (xw 61)) Q)) E D H)) /\
 (∀ Q E D H,W M c (xw 72) true Q E D H =
  Lz E 4 fun g t4=>Ly g E 5 fun g t5=>Xl g t4 t5 H fun g t112=>JN (fun (k:Bool->AV->AV->AV->AHeap->Prop)=>B3 g (wantV false (some t112)) fun g w=>IG3 g w (fun g=>Ly g E 6 fun g t6=>B3 g ((Op.fieldAddr 0) [t6]) fun g t114=>B3 g (Op.load1 [t114] H) fun g t115=>Bn g .eql t115 (.int .i64 18) fun g t116=>k g t116 t115 t114 H) (fun g=>k g uu uu uu H)) (fun g t116_1 t115_1 t114_1 H1=>B3 g (Op.pick [t112,(.bool true),t116_1]) fun g t117=>Xs g t4 t5 t117 H1 fun g u H2=>Ly g E 3 fun g t3=>B3 g (Op.lenSl [t3]) fun g t121=>Ly g E 7 fun g t7=>Bn g .sub t121 t7 fun g t123=>B3 g ((Op.sliceSl 1 [none,(some 0),none]) [t3,t123]) fun g t124=>Ly g E 5 fun g t5_1=>B32 g ((Op.buildSlice T_int 1 [(.int .i64 0)] [(0,1)]) [t5_1]) fun g o3 k3=>B32 g ((Op.append T_int 1 8) [t124,(k3 H2.next)] (H2.alloc o3)) fun g t127 H4=>GO3 g Q .normal ((3,t127)::E) D H4)) /\
 (∀ Q E D H,W M c (xw 61) true Q E D H =
  Lz E 8 fun g t8=>Bn g .add t8 (.int .i64 1) fun g t58=>GO3 g Q .normal ((8,t58)::E) D H) /\
 (∀ Q E D H,W M c (xw 60) true Q E D H =
  Lz E 4 fun g t4=>Ly g E 5 fun g t5=>Xl g t4 t5 H fun g t79=>JN (fun (k:Bool->AV->AV->AV->AV->AV->AV->AV->AV->AHeap->Prop)=>B3 g (wantV false (some t79)) fun g w=>IG3 g w (fun g=>Ly g E 6 fun g t6=>B3 g ((Op.fieldAddr 2) [t6]) fun g t82=>B3 g (Op.load1 [t82] H) fun g t83=>Ly g E 8 fun g t8=>B3 g ((Op.indexSl 1) [t83,t8]) fun g t85=>B3 g (Op.load1 [t85] H) fun g t86=>B3 g ((Op.indexSl 1) [t4,t86]) fun g t87=>B3 g (Op.load1 [t87] H) fun g t88=>k g t88 t87 t86 t85 t8 t83 t82 t4 H) (fun g=>k g uu uu uu uu uu uu uu uu H)) (fun g t88_1 t87_1 t86_1 t85_1 t84_1 t83_1 t82_1 t81_1 H1=>B3 g (Op.pick [t79,(.bool true),t88_1]) fun g t89=>Xs g t4 t5 t89 H1 fun g u H2=>GO3 g Q .normal E D H2)):=by (repeat' apply And.intro)<;>(intro _ _ _ _;refine W_unf ?_;kernel_rfl)
theorem q3p:(cProg Tryd.prog).func qcp=some qpd/\qpd.results=[.tmp 2]:=x9 (by kernel_rfl)
theorem q3q (h:W M ⟨none,qcp⟩ (xw 0) true (FIN3 M [.tmp 2] Q) [(0,a0)] [] H):yb M qcp [a0] H Q:=callf (by decide) q3p (ks:=qv5) (by kernel_rfl) h
def qnj:AFunc:=funcAt Tryd.prog vy
def qs5:Kp:=⟨[0,1,2,6,7,8,9,35],false,[0,4,9,15,21,33,38,46,47,56,57,58]⟩
def zq (k:Nat):Kp × ACode:=(qs5,part qnj.body k)
theorem qs6 (M:Mac) (c:Ctx):(∀ Q E D H,W M c (zq 0) true Q E D H =
 W M c (zq 4) true Q ((7,(.str []))::(6,(.str []))::E) D H) /\
 (∀ Q E D H,W M c (zq 4) true Q E D H =
  LOOP3 (W M c (zq 9)) (BLK3 0 (SEQ3 (W M c (zq 58)) Q)) ((8,(.int .i64 0))::E) D H) /\
 (∀ Q E D H,W M c (zq 58) true Q E D H =
  Lz E 7 fun g t7=>GO3 g Q .ret ((6,t7)::E) D H) /\
 (∀ Q E D H,W M c (zq 9) true Q E D H =
  Lz E 8 fun g t8=>Ly g E 0 fun g t0=>Ly g E 1 fun g t1=>B3 g ((Op.indexSl 3) [t0,t1]) fun g t13=>Fl g 2 t13 H fun g t15=>B3 g (Op.lenSl [t15]) fun g t16=>Cb g .lss t8 t16 (fun g=>Gt g M c (zq 15) Q E D H) (fun g=>GO3 g (SEQ3 (W M c (zq 15)) Q) (.exit 0) E D H)) /\
 (∀ Q E D H,W M c (zq 15) true Q E D H =
  Lz E 0 fun g t0=>Ly g E 1 fun g t1=>B3 g ((Op.indexSl 3) [t0,t1]) fun g t23=>Fl g 2 t23 H fun g t25=>Ly g E 8 fun g t8=>Xl g t25 t8 H fun g t28=>B3 g ((Op.indexSl 3) [t0,t28]) fun g t29=>B3 g ((Op.loadN 3) [t29] H) fun g t30=>A3 g qj [(.int .i64 0),(.int .u64 0),.nils] H fun g t9 H1=>B32 g ((Op.store 3) [t9,t30] H1) fun g u H2=>Ly g E 7 fun g t7=>Ly g E 2 fun g t2=>Bn g .add t7 t2 fun g t33=>W M c (zq 21) g (BLK3 1 (SEQ3 (W M c (zq 57)) Q)) ((7,t33)::(9,t9)::E) D H2) /\
 (∀ Q E D H,W M c (zq 57) true Q E D H =
  Lz E 8 fun g t8=>Bn g .add t8 (.int .i64 1) fun g t19=>GO3 g Q .normal ((8,t19)::E) D H) /\
 (∀ Q E D H,W M c (zq 21) true Q E D H =
  Lz E 9 fun g t9=>Fl g 0 t9 H fun g t35=>Cb g .eql t35 (.int .i64 14) (fun g=>Ly g E 7 fun g t7=>Ly g E 9 fun g t9_1=>Fl g 1 t9_1 H fun g t40=>Ly g E 0 fun g t0=>B3 g ((Op.fieldAddr 2) [t9_1]) fun g t45=>B3 g (Op.load1 [t45] H) fun g t46=>B3 g ((Op.indexSl 1) [t46,(.int .i64 0)]) fun g t47=>B3 g (Op.load1 [t47] H) fun g t48=>C3 M g (.func qde) [t40] H fun g t41 H1=>CK3 g (Op.load1 [t45] H1) (some t46) fun g=>CK3 g (Op.load1 [t47] H1) (some t48) fun g=>Bn g .add t7 t41 fun g t42=>Bn g .add t42 (.str [32,61,32]) fun g t43=>C3 M g (.func qac) [t0,t48,(.int .i64 0)] H1 fun g t49 H2=>Bn g .add t43 t49 fun g t50=>Bn g .add t50 (.str [59]) fun g t51=>GO3 g (BLK3 2 (SEQ3 (W M c (zq 56)) Q)) .normal ((7,t51)::(35,t35)::E) D H2) (fun g=>Cb g .eql t35 (.int .i64 15) (fun g=>Ly g E 7 fun g t7=>Bn g .add t7 (.str [115,116,111,114,101,40]) fun g t55=>Ly g E 0 fun g t0=>Ly g E 9 fun g t9_1=>Fl g 2 t9_1 H fun g t58=>Xl g t58 (.int .i64 0) H fun g t60=>B3 g ((Op.fieldAddr 2) [t9_1]) fun g t65=>B3 g (Op.load1 [t65] H) fun g t66=>B3 g ((Op.indexSl 1) [t66,(.int .i64 1)]) fun g t67=>B3 g (Op.load1 [t67] H) fun g t68=>C3 M g (.func qac) [t0,t60,(.int .i64 0)] H fun g t61 H1=>CK3 g (Op.load1 [t65] H1) (some t66) fun g=>CK3 g (Op.load1 [t67] H1) (some t68) fun g=>Bn g .add t55 t61 fun g t62=>Bn g .add t62 (.str [44,32]) fun g t63=>C3 M g (.func qac) [t0,t68,(.int .i64 0)] H1 fun g t69 H2=>Bn g .add t63 t69 fun g t70=>Bn g .add t70 (.str [41,59]) fun g t71=>GO3 g (BLK3 2 (SEQ3 (W M c (zq 56)) Q)) .normal ((7,t71)::(35,t35)::E) D H2) (fun g=>W M c (zq 33) g (BLK3 2 (SEQ3 (W M c (zq 56)) Q)) ((35,t35)::E) D H))) /\
 (∀ Q E D H,W M c (zq 56) true Q E D H =
  Lz E 7 fun g t7=>Bn g .add t7 (.str [10]) fun g t159=>GO3 g Q .normal ((7,t159)::E) D H) /\
 (∀ Q E D H,W M c (zq 33) true Q E D H =
  Lz E 35 fun g t35=>Cb g .eql t35 (.int .i64 16) (fun g=>Ly g E 7 fun g t7=>Bn g .add t7 (.str [105,102,32,40]) fun g t75=>Ly g E 0 fun g t0=>Ly g E 9 fun g t9=>Fl g 2 t9 H fun g t78=>Xl g t78 (.int .i64 0) H fun g t80=>B3 g ((Op.fieldAddr 2) [t9]) fun g t85=>B3 g (Op.load1 [t85] H) fun g t86=>B3 g ((Op.indexSl 1) [t86,(.int .i64 1)]) fun g t87=>B3 g (Op.load1 [t87] H) fun g t88=>Ly g E 2 fun g t2=>Bn g .add t2 (.str [32,32]) fun g t90=>C3 M g (.func qes) [t0,t80] H fun g t81 H1=>CK3 g (Op.load1 [t85] H1) (some t86) fun g=>CK3 g (Op.load1 [t87] H1) (some t88) fun g=>Bn g .add t75 t81 fun g t82=>Bn g .add t82 (.str [41,32,123,10]) fun g t83=>C3 M g (.func vy) [t0,t88,t90] H1 fun g t91 H2=>Bn g .add t83 t91 fun g t92=>Bn g .add t92 t2 fun g t94=>Bn g .add t94 (.str [125]) fun g t95=>W M c (zq 38) g Q ((7,t95)::E) D H2) (fun g=>Ly g E 35 fun g t35_1=>Cb g .eql t35_1 (.int .i64 17) (fun g=>W M c (zq 46) g Q E D H) (fun g=>W M c (zq 47) g Q E D H))) /\
 (∀ Q E D H,W M c (zq 38) true Q E D H =
  Lz E 9 fun g t9=>Fl g 2 t9 H fun g t97=>B3 g (Op.lenSl [t97]) fun g t98=>Cb g .eql t98 (.int .i64 3) (fun g=>Ly g E 7 fun g t7=>Bn g .add t7 (.str [32,101,108,115,101,32,123,10]) fun g t101=>Ly g E 0 fun g t0=>Ly g E 9 fun g t9_1=>Fl g 2 t9_1 H fun g t104=>Xl g t104 (.int .i64 2) H fun g t106=>Ly g E 2 fun g t2=>Bn g .add t2 (.str [32,32]) fun g t108=>C3 M g (.func vy) [t0,t106,t108] H fun g t109 H1=>Bn g .add t101 t109 fun g t110=>Bn g .add t110 t2 fun g t112=>Bn g .add t112 (.str [125]) fun g t113=>GO3 g Q .normal ((7,t113)::E) D H1) (fun g=>GO3 g Q .normal E D H)) /\
 (∀ Q E D H,W M c (zq 46) true Q E D H =
  Lz E 7 fun g t7=>Bn g .add t7 (.str [119,104,105,108,101,32,40]) fun g t117=>Ly g E 0 fun g t0=>Ly g E 9 fun g t9=>Fl g 2 t9 H fun g t120=>Xl g t120 (.int .i64 0) H fun g t122=>B3 g ((Op.fieldAddr 2) [t9]) fun g t127=>B3 g (Op.load1 [t127] H) fun g t128=>B3 g ((Op.indexSl 1) [t128,(.int .i64 1)]) fun g t129=>B3 g (Op.load1 [t129] H) fun g t130=>Ly g E 2 fun g t2=>Bn g .add t2 (.str [32,32]) fun g t132=>C3 M g (.func qes) [t0,t122] H fun g t123 H1=>CK3 g (Op.load1 [t127] H1) (some t128) fun g=>CK3 g (Op.load1 [t129] H1) (some t130) fun g=>Bn g .add t117 t123 fun g t124=>Bn g .add t124 (.str [41,32,123,10]) fun g t125=>C3 M g (.func vy) [t0,t130,t132] H1 fun g t133 H2=>Bn g .add t125 t133 fun g t134=>Bn g .add t134 t2 fun g t136=>Bn g .add t136 (.str [125]) fun g t137=>GO3 g Q .normal ((7,t137)::E) D H2) /\
 (∀ Q E D H,W M c (zq 47) true Q E D H =
  Lz E 35 fun g t35=>Cb g .eql t35 (.int .i64 18) (fun g=>Ly g E 7 fun g t7=>Bn g .add t7 (.str [97,116,111,109,105,99,32,123,10]) fun g t141=>Ly g E 0 fun g t0=>Ly g E 9 fun g t9=>Fl g 2 t9 H fun g t144=>Xl g t144 (.int .i64 0) H fun g t146=>Ly g E 2 fun g t2=>Bn g .add t2 (.str [32,32]) fun g t148=>C3 M g (.func vy) [t0,t146,t148] H fun g t149 H1=>Bn g .add t141 t149 fun g t150=>Bn g .add t150 t2 fun g t152=>Bn g .add t152 (.str [125]) fun g t153=>GO3 g Q .normal ((7,t153)::E) D H1) (fun g=>Ly g E 35 fun g t35_1=>Cb g .eql t35_1 (.int .i64 19) (fun g=>Ly g E 7 fun g t7=>Bn g .add t7 (.str [104,97,108,116,59]) fun g t157=>GO3 g Q .normal ((7,t157)::E) D H) (fun g=>GO3 g Q .normal E D H))):=by (repeat' apply And.intro)<;>(intro _ _ _ _;refine W_unf ?_;kernel_rfl)
theorem q13:(cProg Tryd.prog).func vy=some qnj/\qnj.results=[.tmp 6]:=x9 (by kernel_rfl)
theorem q14 (h:W M ⟨none,vy⟩ (zq 0) true (FIN3 M [.tmp 6] Q) [(0,a0),(1,a1),(2,a2)] [] H):yb M vy [a0,a1,a2] H Q:=callf (by decide) q13 (ks:=qs5) (by kernel_rfl) h
def ql9:AFunc:=funcAt Tryd.prog qdx
def qqq:Kp:=⟨[0,2],false,[0,2,10,18,26,34]⟩
def yg (k:Nat):Kp × ACode:=(qqq,part ql9.body k)
theorem qfh (M:Mac) (c:Ctx):(∀ Q E D H,W M c (yg 0) true Q E D H =
 W M c (yg 2) true Q ((2,(.int .i64 0))::E) D H) /\
 (∀ Q E D H,W M c (yg 2) true Q E D H =
  Lz E 0 fun g t0=>Bn g .lss t0 (.int .i64 1) fun g t4=>JN (fun (k:Bool->AV->AV->AHeap->Prop)=>B3 g (wantV false (some t4)) fun g w=>IG3 g w (fun g=>Bn g .gtr t0 (.int .i64 20) fun g t7=>k g t7 t0 H) (fun g=>k g uu uu H)) (fun g t7_1 t6_1 H1=>B3 g (Op.pick [t4,(.bool true),t7_1]) fun g t8=>IF3 g t8 (fun g=>GO3 g (SEQ3 (W M c (yg 10)) Q) .ret ((2,(.int .i64 0))::E) D H1) (fun g=>Gt g M c (yg 10) Q E D H1))) /\
 (∀ Q E D H,W M c (yg 10) true Q E D H =
  Lz E 0 fun g t0=>Cb g .leq t0 (.int .i64 10) (fun g=>GO3 g (SEQ3 (W M c (yg 18)) Q) .ret ((2,(.int .i64 1))::E) D H) (fun g=>Gt g M c (yg 18) Q E D H)) /\
 (∀ Q E D H,W M c (yg 18) true Q E D H =
  Lz E 0 fun g t0=>Cb g .leq t0 (.int .i64 13) (fun g=>GO3 g (SEQ3 (W M c (yg 26)) Q) .ret ((2,(.int .i64 2))::E) D H) (fun g=>Gt g M c (yg 26) Q E D H)) /\
 (∀ Q E D H,W M c (yg 26) true Q E D H =
  Lz E 0 fun g t0=>Cb g .leq t0 (.int .i64 19) (fun g=>GO3 g (SEQ3 (W M c (yg 34)) Q) .ret ((2,(.int .i64 3))::E) D H) (fun g=>Gt g M c (yg 34) Q E D H)) /\
 (∀ Q E D H,W M c (yg 34) true Q E D H =
  GO3 true Q .ret ((2,(.int .i64 4))::E) D H):=by (repeat' apply And.intro)<;>(intro _ _ _ _;refine W_unf ?_;kernel_rfl)
theorem qzk:(cProg Tryd.prog).func qdx=some ql9/\ql9.results=[.tmp 2]:=x9 (by kernel_rfl)
theorem qzl (h:W M ⟨none,qdx⟩ (yg 0) true (FIN3 M [.tmp 2] Q) [(0,a0)] [] H):yb M qdx [a0] H Q:=callf (by decide) qzk (ks:=qqq) (by kernel_rfl) h
def qni:AFunc:=funcAt Tryd.prog qad
def qs3:Kp:=⟨[0,1,3,4,5,6,7,8,9],false,[0,4,12,14,20,26,32,40,45,51,57,63,69,75,81,88,89]⟩
def xj (k:Nat):Kp × ACode:=(qs3,part qni.body k)
theorem qs4 (M:Mac) (c:Ctx):(∀ Q E D H,W M c (xj 0) true Q E D H =
 Lz E 1 fun g t1=>A3 g qj (AV.cells t1) H fun g t3 H1=>Fl g 0 t3 H1 fun g t11=>Bn g .eql t11 (.int .i64 2) fun g t12=>JN (fun (k:Bool->AV->AV->AV->AHeap->Prop)=>B3 g (wantV false (some t12)) fun g w=>IG3 g w (fun g=>B3 g ((Op.fieldAddr 0) [t3]) fun g t14=>B3 g (Op.load1 [t14] H1) fun g t15=>Bn g .eql t15 (.int .i64 14) fun g t16=>k g t16 t15 t14 H1) (fun g=>k g uu uu uu H1)) (fun g t16_1 t15_1 t14_1 H2=>B3 g (Op.pick [t12,(.bool true),t16_1]) fun g t17=>W M c (xj 4) g Q ((5,t17)::(4,(.bool false))::(3,t3)::E) D H2)) /\
 (∀ Q E D H,W M c (xj 4) true Q E D H =
  Lz E 5 fun g t5=>JN (fun (k:Bool->AV->AV->AV->AHeap->Prop)=>B3 g (wantV true (some t5)) fun g w=>IG3 g w (fun g=>Ly g E 3 fun g t3=>B3 g ((Op.fieldAddr 1) [t3]) fun g t20=>B3 g (Op.load1 [t20] H) fun g t21=>Bn g .gtr t21 (.int .u64 7) fun g t22=>k g t22 t21 t20 H) (fun g=>k g uu uu uu H)) (fun g t22_1 t21_1 t20_1 H1=>B3 g (Op.pick [t5,t22_1,(.bool false)]) fun g t23=>JN (fun (k:Bool->AV->AV->AV->AHeap->Prop)=>B3 g (wantV false (some t23)) fun g w=>IG3 g w (fun g=>B3 g ((Op.un .not) [t5]) fun g t26=>k g t26 t26 t5 H1) (fun g=>k g uu uu uu H1)) (fun g t27_1 t26_1 t25_1 H2=>JN (fun (k:Bool->AV->AV->AV->AHeap->Prop)=>B3 g (wantV true (some t27_1)) fun g w=>IG3 g w (fun g=>Ly g E 3 fun g t3_1=>B3 g ((Op.fieldAddr 0) [t3_1]) fun g t28=>B3 g (Op.load1 [t28] H2) fun g t29=>Bn g .neq t29 (.int .i64 1) fun g t30=>k g t30 t29 t28 H2) (fun g=>k g uu uu uu H2)) (fun g t30_1 t29_1 t28_1 H3=>JN (fun (k:Bool->AV->AV->AHeap->Prop)=>B3 g (wantV false (some t23)) fun g w=>IG3 g w (fun g=>B3 g (Op.pick [t27_1,t30_1,(.bool false)]) fun g t31=>k g t31 t31 H3) (fun g=>k g uu uu H3)) (fun g t32_1 t31_1 H4=>JN (fun (k:Bool->AV->AV->AV->AHeap->Prop)=>B3 g (wantV true (some t32_1)) fun g w=>IG3 g w (fun g=>Ly g E 3 fun g t3_2=>B3 g ((Op.fieldAddr 1) [t3_2]) fun g t33=>B3 g (Op.load1 [t33] H4) fun g t34=>Bn g .neq t34 (.int .u64 0) fun g t35=>k g t35 t34 t33 H4) (fun g=>k g uu uu uu H4)) (fun g t35_1 t34_1 t33_1 H5=>JN (fun (k:Bool->AV->AHeap->Prop)=>B3 g (wantV false (some t23)) fun g w=>IG3 g w (fun g=>B3 g (Op.pick [t32_1,t35_1,(.bool false)]) fun g t36=>k g t36 H5) (fun g=>k g uu H5)) (fun g t36_1 H6=>B3 g (Op.pick [t23,(.bool true),t36_1]) fun g t37=>IF3 g t37 (fun g=>GO3 g (SEQ3 (W M c (xj 12)) Q) .ret ((4,(.bool false))::E) D H6) (fun g=>Gt g M c (xj 12) Q E D H6)))))))) /\
 (∀ Q E D H,W M c (xj 12) true Q E D H =
  W M c (xj 14) true Q ((6,(.int .i64 2))::E) D H) /\
 (∀ Q E D H,W M c (xj 14) true Q E D H =
  Lz E 3 fun g t3=>Fl g 0 t3 H fun g t39=>Bn g .leq t39 (.int .i64 2) fun g t40=>JN (fun (k:Bool->AV->AV->AV->AHeap->Prop)=>B3 g (wantV false (some t40)) fun g w=>IG3 g w (fun g=>B3 g ((Op.fieldAddr 0) [t3]) fun g t42=>B3 g (Op.load1 [t42] H) fun g t43=>Bn g .eql t43 (.int .i64 19) fun g t44=>k g t44 t43 t42 H) (fun g=>k g uu uu uu H)) (fun g t44_1 t43_1 t42_1 H1=>B3 g (Op.pick [t40,(.bool true),t44_1]) fun g t45=>IF3 g t45 (fun g=>Gt g M c (xj 20) Q ((6,(.int .i64 0))::E) D H1) (fun g=>Gt g M c (xj 20) Q E D H1))) /\
 (∀ Q E D H,W M c (xj 20) true Q E D H =
  Lz E 3 fun g t3=>Fl g 0 t3 H fun g t47=>Bn g .eql t47 (.int .i64 3) fun g t48=>JN (fun (k:Bool->AV->AV->AV->AHeap->Prop)=>B3 g (wantV false (some t48)) fun g w=>IG3 g w (fun g=>B3 g ((Op.fieldAddr 0) [t3]) fun g t50=>B3 g (Op.load1 [t50] H) fun g t51=>Bn g .eql t51 (.int .i64 14) fun g t52=>k g t52 t51 t50 H) (fun g=>k g uu uu uu H)) (fun g t52_1 t51_1 t50_1 H1=>B3 g (Op.pick [t48,(.bool true),t52_1]) fun g t53=>JN (fun (k:Bool->AV->AV->AV->AHeap->Prop)=>B3 g (wantV false (some t53)) fun g w=>IG3 g w (fun g=>B3 g ((Op.fieldAddr 0) [t3]) fun g t55=>B3 g (Op.load1 [t55] H1) fun g t56=>Bn g .eql t56 (.int .i64 18) fun g t57=>k g t57 t56 t55 H1) (fun g=>k g uu uu uu H1)) (fun g t57_1 t56_1 t55_1 H2=>B3 g (Op.pick [t53,(.bool true),t57_1]) fun g t58=>IF3 g t58 (fun g=>Gt g M c (xj 26) Q ((6,(.int .i64 1))::E) D H2) (fun g=>Gt g M c (xj 26) Q E D H2)))) /\
 (∀ Q E D H,W M c (xj 26) true Q E D H =
  Lz E 3 fun g t3=>Fl g 0 t3 H fun g t60=>Bn g .eql t60 (.int .i64 16) fun g t61=>JN (fun (k:Bool->AV->AV->AV->AV->AHeap->Prop)=>B3 g (wantV true (some t61)) fun g w=>IG3 g w (fun g=>B3 g ((Op.fieldAddr 2) [t3]) fun g t63=>B3 g (Op.load1 [t63] H) fun g t64=>B3 g (Op.lenSl [t64]) fun g t65=>Bn g .eql t65 (.int .i64 3) fun g t66=>k g t66 t65 t64 t63 H) (fun g=>k g uu uu uu uu H)) (fun g t66_1 t65_1 t64_1 t63_1 H1=>B3 g (Op.pick [t61,t66_1,(.bool false)]) fun g t67=>IF3 g t67 (fun g=>Gt g M c (xj 32) Q ((6,(.int .i64 3))::E) D H1) (fun g=>Gt g M c (xj 32) Q E D H1))) /\
 (∀ Q E D H,W M c (xj 32) true Q E D H =
  Lz E 3 fun g t3=>Fl g 0 t3 H fun g t69=>Bn g .neq t69 (.int .i64 20) fun g t70=>JN (fun (k:Bool->AV->AV->AV->AV->AV->AHeap->Prop)=>B3 g (wantV true (some t70)) fun g w=>IG3 g w (fun g=>B3 g ((Op.fieldAddr 2) [t3]) fun g t72=>B3 g (Op.load1 [t72] H) fun g t73=>B3 g (Op.lenSl [t73]) fun g t74=>Ly g E 6 fun g t6=>Bn g .neq t74 t6 fun g t76=>k g t76 t6 t74 t73 t72 H) (fun g=>k g uu uu uu uu uu H)) (fun g t76_1 t75_1 t74_1 t73_1 t72_1 H1=>B3 g (Op.pick [t70,t76_1,(.bool false)]) fun g t77=>IF3 g t77 (fun g=>GO3 g (SEQ3 (W M c (xj 40)) Q) .ret ((4,(.bool false))::E) D H1) (fun g=>Gt g M c (xj 40) Q E D H1))) /\
 (∀ Q E D H,W M c (xj 40) true Q E D H =
  LOOP3 (W M c (xj 45)) (BLK3 0 (SEQ3 (W M c (xj 89)) Q)) ((7,(.int .i64 0))::E) D H) /\
 (∀ Q E D H,W M c (xj 89) true Q E D H =
  GO3 true Q .ret ((4,(.bool true))::E) D H) /\
 (∀ Q E D H,W M c (xj 45) true Q E D H =
  Lz E 7 fun g t7=>Ly g E 3 fun g t3=>Fl g 2 t3 H fun g t80=>B3 g (Op.lenSl [t80]) fun g t81=>Cb g .lss t7 t81 (fun g=>Gt g M c (xj 51) Q E D H) (fun g=>GO3 g (SEQ3 (W M c (xj 51)) Q) (.exit 0) E D H)) /\
 (∀ Q E D H,W M c (xj 51) true Q E D H =
  Lz E 0 fun g t0=>Ly g E 3 fun g t3=>Fl g 2 t3 H fun g t87=>Ly g E 7 fun g t7=>Xl g t87 t7 H fun g t90=>B3 g ((Op.indexSl 3) [t0,t90]) fun g t91=>Fl g 0 t91 H fun g t93=>C3 M g (.func qdx) [t93] H fun g t94 H1=>W M c (xj 57) g (BLK3 1 (SEQ3 (W M c (xj 88)) Q)) ((9,(.int .i64 1))::(8,t94)::E) D H1) /\
 (∀ Q E D H,W M c (xj 88) true Q E D H =
  Lz E 7 fun g t7=>Bn g .add t7 (.int .i64 1) fun g t84=>GO3 g Q .normal ((7,t84)::E) D H) /\
 (∀ Q E D H,W M c (xj 57) true Q E D H =
  Lz E 3 fun g t3=>Fl g 0 t3 H fun g t96=>Bn g .eql t96 (.int .i64 16) fun g t97=>JN (fun (k:Bool->AV->AV->AV->AHeap->Prop)=>B3 g (wantV false (some t97)) fun g w=>IG3 g w (fun g=>B3 g ((Op.fieldAddr 0) [t3]) fun g t99=>B3 g (Op.load1 [t99] H) fun g t100=>Bn g .eql t100 (.int .i64 17) fun g t101=>k g t101 t100 t99 H) (fun g=>k g uu uu uu H)) (fun g t101_1 t100_1 t99_1 H1=>B3 g (Op.pick [t97,(.bool true),t101_1]) fun g t102=>IF3 g t102 (fun g=>W M c (xj 63) g (SEQ3 (W M c (xj 69)) Q) ((9,(.int .i64 4))::E) D H1) (fun g=>Gt g M c (xj 69) Q E D H1))) /\
 (∀ Q E D H,W M c (xj 69) true Q E D H =
  Lz E 3 fun g t3=>Fl g 0 t3 H fun g t106=>Cb g .eql t106 (.int .i64 18) (fun g=>Gt g M c (xj 75) Q ((9,(.int .i64 4))::E) D H) (fun g=>Gt g M c (xj 75) Q E D H)) /\
 (∀ Q E D H,W M c (xj 63) true Q E D H =
  Lz E 7 fun g t7=>Cb g .eql t7 (.int .i64 0) (fun g=>GO3 g Q .normal ((9,(.int .i64 2))::E) D H) (fun g=>GO3 g Q .normal E D H)) /\
 (∀ Q E D H,W M c (xj 75) true Q E D H =
  Lz E 3 fun g t3=>Fl g 0 t3 H fun g t109=>Cb g .eql t109 (.int .i64 20) (fun g=>Gt g M c (xj 81) Q ((9,(.int .i64 3))::E) D H) (fun g=>Gt g M c (xj 81) Q E D H)) /\
 (∀ Q E D H,W M c (xj 81) true Q E D H =
  Lz E 8 fun g t8=>Ly g E 9 fun g t9=>Cb g .neq t8 t9 (fun g=>GO3 g Q .ret ((4,(.bool false))::E) D H) (fun g=>GO3 g Q .normal E D H)):=by (repeat' apply And.intro)<;>(intro _ _ _ _;refine W_unf ?_;kernel_rfl)
theorem q1y:(cProg Tryd.prog).func qad=some qni/\qni.results=[.tmp 4]:=x9 (by kernel_rfl)
theorem q1z (h:W M ⟨none,qad⟩ (xj 0) true (FIN3 M [.tmp 4] Q) [(0,a0),(1,a1)] [] H):yb M qad [a0,a1] H Q:=callf (by decide) q1y (ks:=qs3) (by kernel_rfl) h
def qko:AFunc:=funcAt Tryd.prog qde
def qos:Kp:=⟨[0,2],false,[0]⟩
def qot (k:Nat):Kp × ACode:=(qos,part qko.body k)
theorem qwx (M:Mac) (c:Ctx):(∀ Q E D H,W M c (qot 0) true Q E D H =
 Lz E 0 fun g t0=>Bn g .add (.int .u64 97) t0 fun g t4=>B3 g ((Op.wrap .u8) [t4]) fun g t5=>B32 g ((Op.buildSlice qbz 1 [(.int .u8 0)] [(0,1)]) [t5]) fun g o1 k1=>B3 g (Op.strOfBytes [(k1 H.next)] (H.alloc o1)) fun g t7=>GO3 g Q .ret ((2,t7)::(2,(.str []))::E) D (H.alloc o1)):=by intro _ _ _ _;refine W_unf ?_;kernel_rfl
theorem qwv:(cProg Tryd.prog).func qde=some qko/\qko.results=[.tmp 2]:=x9 (by kernel_rfl)
theorem qww (h:W M ⟨none,qde⟩ (qot 0) true (FIN3 M [.tmp 2] Q) [(0,a0)] [] H):yb M qde [a0] H Q:=callf (by decide) qwv (ks:=qos) (by kernel_rfl) h
def qnh:AFunc:=funcAt Tryd.prog qac
def qs2:Kp:=⟨[0,1,2,6,7,8,9,10,11],false,[0,4,12,20,28,32,34,42]⟩
def kc (k:Nat):Kp × ACode:=(qs2,part qnh.body k)
theorem qbn (M:Mac) (c:Ctx):(∀ Q E D H,W M c (kc 0) true Q E D H =
 Lz E 0 fun g t0=>Ly g E 1 fun g t1=>B3 g ((Op.indexSl 3) [t0,t1]) fun g t14=>B3 g ((Op.loadN 3) [t14] H) fun g t15=>A3 g qj [(.int .i64 0),(.int .u64 0),.nils] H fun g t7 H1=>B32 g ((Op.store 3) [t7,t15] H1) fun g u H2=>W M c (kc 4) g Q ((7,t7)::(6,(.str []))::E) D H2) /\
 (∀ Q E D H,W M c (kc 4) true Q E D H =
  Lz E 7 fun g t7=>Fl g 0 t7 H fun g t17=>Cb g .eql t17 (.int .i64 1) (fun g=>Ly g E 7 fun g t7_1=>Fl g 1 t7_1 H fun g t20=>C3 M g (.func qdd) [t20] H fun g t21 H1=>GO3 g (SEQ3 (W M c (kc 12)) Q) .ret ((6,t21)::E) D H1) (fun g=>Gt g M c (kc 12) Q E D H)) /\
 (∀ Q E D H,W M c (kc 12) true Q E D H =
  Lz E 7 fun g t7=>Fl g 0 t7 H fun g t23=>Cb g .eql t23 (.int .i64 2) (fun g=>Ly g E 7 fun g t7_1=>Fl g 1 t7_1 H fun g t26=>C3 M g (.func qde) [t26] H fun g t27 H1=>GO3 g (SEQ3 (W M c (kc 20)) Q) .ret ((6,t27)::E) D H1) (fun g=>Gt g M c (kc 20) Q E D H)) /\
 (∀ Q E D H,W M c (kc 20) true Q E D H =
  Lz E 7 fun g t7=>Fl g 0 t7 H fun g t29=>Cb g .eql t29 (.int .i64 3) (fun g=>Ly g E 0 fun g t0=>Ly g E 7 fun g t7_1=>Fl g 2 t7_1 H fun g t33=>Xl g t33 (.int .i64 0) H fun g t35=>C3 M g (.func qac) [t0,t35,(.int .i64 0)] H fun g t36 H1=>Bn g .add (.str [108,111,97,100,40]) t36 fun g t37=>Bn g .add t37 (.str [41]) fun g t38=>GO3 g (SEQ3 (W M c (kc 28)) Q) .ret ((6,t38)::E) D H1) (fun g=>Gt g M c (kc 28) Q E D H)) /\
 (∀ Q E D H,W M c (kc 28) true Q E D H =
  Lz E 7 fun g t7=>Fl g 0 t7 H fun g t41=>C3 M g (.func qea) [t41] H fun g t42 H1=>B3 g ((Op.extract 0) [t42]) fun g t43=>B3 g ((Op.extract 1) [t42]) fun g t44=>Ly g E 0 fun g t0=>Ly g E 7 fun g t7_1=>Fl g 2 t7_1 H1 fun g t47=>Xl g t47 (.int .i64 0) H1 fun g t49=>C3 M g (.func qac) [t0,t49,t44] H1 fun g t51 H2=>W M c (kc 32) g Q ((10,t51)::(9,t44)::(8,t43)::E) D H2) /\
 (∀ Q E D H,W M c (kc 32) true Q E D H =
  Lz E 0 fun g t0=>Ly g E 7 fun g t7=>Fl g 2 t7 H fun g t54=>Xl g t54 (.int .i64 1) H fun g t56=>Ly g E 9 fun g t9=>Bn g .add t9 (.int .i64 1) fun g t58=>C3 M g (.func qac) [t0,t56,t58] H fun g t59 H1=>W M c (kc 34) g Q ((11,t59)::E) D H1) /\
 (∀ Q E D H,W M c (kc 34) true Q E D H =
  Lz E 9 fun g t9=>Ly g E 2 fun g t2=>Cb g .lss t9 t2 (fun g=>Ly g E 10 fun g t10=>Bn g .add (.str [40]) t10 fun g t64=>Bn g .add t64 (.str [32]) fun g t65=>Ly g E 8 fun g t8=>Bn g .add t65 t8 fun g t67=>Bn g .add t67 (.str [32]) fun g t68=>Ly g E 11 fun g t11=>Bn g .add t68 t11 fun g t70=>Bn g .add t70 (.str [41]) fun g t71=>GO3 g (SEQ3 (W M c (kc 42)) Q) .ret ((6,t71)::E) D H) (fun g=>Gt g M c (kc 42) Q E D H)) /\
 (∀ Q E D H,W M c (kc 42) true Q E D H =
  Lz E 10 fun g t10=>Bn g .add t10 (.str [32]) fun g t73=>Ly g E 8 fun g t8=>Bn g .add t73 t8 fun g t75=>Bn g .add t75 (.str [32]) fun g t76=>Ly g E 11 fun g t11=>Bn g .add t76 t11 fun g t78=>GO3 g Q .ret ((6,t78)::E) D H):=by (repeat' apply And.intro)<;>(intro _ _ _ _;refine W_unf ?_;kernel_rfl)
theorem q1x:(cProg Tryd.prog).func qac=some qnh/\qnh.results=[.tmp 6]:=x9 (by kernel_rfl)
theorem qkj (h:W M ⟨none,qac⟩ (kc 0) true (FIN3 M [.tmp 6] Q) [(0,a0),(1,a1),(2,a2)] [] H):yb M qac [a0,a1,a2] H Q:=callf (by decide) q1x (ks:=qs2) (by kernel_rfl) h
def qnf:AFunc:=funcAt Tryd.prog qes
def qs1:Kp:=⟨[0,1,4,5],false,[0,4]⟩
def qki (k:Nat):Kp × ACode:=(qs1,part qnf.body k)
theorem qng (M:Mac) (c:Ctx):(∀ Q E D H,W M c (qki 0) true Q E D H =
 B32 true ((Op.buildSlice vj 3 [(.str [])] [(0,1),(1,1),(2,1)]) [(.str [32,61,61,32]),(.str [32,33,61,32]),(.str [32,60,32])]) fun g o1 k1=>W M c (qki 4) g Q ((5,(k1 H.next))::(4,(.str []))::E) D (H.alloc o1)) /\
 (∀ Q E D H,W M c (qki 4) true Q E D H =
  Lz E 0 fun g t0=>Ly g E 1 fun g t1=>B3 g ((Op.indexSl 3) [t0,t1]) fun g t10=>Fl g 2 t10 H fun g t12=>Xl g t12 (.int .i64 0) H fun g t14=>Ly g E 5 fun g t5=>B3 g ((Op.indexSl 3) [t0,t1]) fun g t19=>B3 g ((Op.fieldAddr 0) [t19]) fun g t20=>B3 g (Op.load1 [t20] H) fun g t21=>Bn g .sub t21 (.int .i64 11) fun g t22=>B3 g ((Op.indexSl 1) [t5,t22]) fun g t23=>B3 g (Op.load1 [t23] H) fun g t24=>B3 g ((Op.indexSl 3) [t0,t1]) fun g t29=>B3 g ((Op.fieldAddr 2) [t29]) fun g t30=>B3 g (Op.load1 [t30] H) fun g t31=>B3 g ((Op.indexSl 1) [t31,(.int .i64 1)]) fun g t32=>B3 g (Op.load1 [t32] H) fun g t33=>C3 M g (.func qac) [t0,t14,(.int .i64 0)] H fun g t15 H1=>CK3 g (Op.load1 [t20] H1) (some t21) fun g=>CK3 g (Op.load1 [t23] H1) (some t24) fun g=>CK3 g (Op.load1 [t30] H1) (some t31) fun g=>CK3 g (Op.load1 [t32] H1) (some t33) fun g=>Bn g .add t15 t24 fun g t25=>C3 M g (.func qac) [t0,t33,(.int .i64 0)] H1 fun g t34 H2=>CK3 g (Op.load1 [t20] H2) (some t21) fun g=>CK3 g (Op.load1 [t23] H2) (some t24) fun g=>Bn g .add t25 t34 fun g t35=>GO3 g Q .ret ((4,t35)::E) D H2):=by (repeat' apply And.intro)<;>(intro _ _ _ _;refine W_unf ?_;kernel_rfl)
theorem q1v:(cProg Tryd.prog).func qes=some qnf/\qnf.results=[.tmp 4]:=x9 (by kernel_rfl)
theorem q1w (h:W M ⟨none,qes⟩ (qki 0) true (FIN3 M [.tmp 4] Q) [(0,a0),(1,a1)] [] H):yb M qes [a0,a1] H Q:=callf (by decide) q1v (ks:=qs1) (by kernel_rfl) h
def qkn:AFunc:=funcAt Tryd.prog qdd
def qor:Kp:=⟨[0,2,3],false,[0,4,7,13,18,25]⟩
def yw (k:Nat):Kp × ACode:=(qor,part qkn.body k)
theorem qwu (M:Mac) (c:Ctx):(∀ Q E D H,W M c (yw 0) true Q E D H =
 W M c (yw 4) true Q ((3,(.str []))::(2,(.str []))::E) D H) /\
 (∀ Q E D H,W M c (yw 4) true Q E D H =
  LOOP3 (W M c (yw 7)) (BLK3 0 (SEQ3 (W M c (yw 25)) Q)) E D H) /\
 (∀ Q E D H,W M c (yw 25) true Q E D H =
  Lz E 0 fun g t0=>Bn g .add (.int .u64 48) t0 fun g t24=>B3 g ((Op.wrap .u8) [t24]) fun g t25=>B32 g ((Op.buildSlice qbz 1 [(.int .u8 0)] [(0,1)]) [t25]) fun g o1 k1=>B3 g (Op.strOfBytes [(k1 H.next)] (H.alloc o1)) fun g t27=>Ly g E 3 fun g t3=>Bn g .add t27 t3 fun g t29=>GO3 g Q .ret ((2,t29)::E) D (H.alloc o1)) /\
 (∀ Q E D H,W M c (yw 7) true Q E D H =
  Lz E 0 fun g t0=>Bn g .gtr t0 (.int .u64 9) fun g t5=>JN (fun (k:Bool->AV->AV->AHeap->Prop)=>B3 g (wantV false (some t5)) fun g w=>IG3 g w (fun g=>Ly g E 3 fun g t3=>Bn g .eql t3 (.str []) fun g t8=>k g t8 t3 H) (fun g=>k g uu uu H)) (fun g t8_1 t7_1 H1=>B3 g (Op.pick [t5,(.bool true),t8_1]) fun g t9=>IF3 g t9 (fun g=>Gt g M c (yw 13) Q E D H1) (fun g=>GO3 g (SEQ3 (W M c (yw 13)) Q) (.exit 0) E D H1))) /\
 (∀ Q E D H,W M c (yw 13) true Q E D H =
  Lz E 0 fun g t0=>Bn g .rem t0 (.int .u64 10) fun g t11=>Bn g .add (.int .u64 48) t11 fun g t12=>B3 g ((Op.wrap .u8) [t12]) fun g t13=>B32 g ((Op.buildSlice qbz 1 [(.int .u8 0)] [(0,1)]) [t13]) fun g o1 k1=>B3 g (Op.strOfBytes [(k1 H.next)] (H.alloc o1)) fun g t15=>Ly g E 3 fun g t3=>Bn g .add t15 t3 fun g t17=>Ly g E 0 fun g t0_1=>Bn g .quo t0_1 (.int .u64 10) fun g t19=>W M c (yw 18) g (BLK3 1 Q) ((0,t19)::(3,t17)::E) D (H.alloc o1)) /\
 (∀ Q E D H,W M c (yw 18) true Q E D H =
  Lz E 0 fun g t0=>Cb g .eql t0 (.int .u64 0) (fun g=>Ly g E 3 fun g t3=>GO3 g Q .ret ((2,t3)::E) D H) (fun g=>GO3 g Q .normal E D H)):=by (repeat' apply And.intro)<;>(intro _ _ _ _;refine W_unf ?_;kernel_rfl)
theorem qws:(cProg Tryd.prog).func qdd=some qkn/\qkn.results=[.tmp 2]:=x9 (by kernel_rfl)
theorem qwt (h:W M ⟨none,qdd⟩ (yw 0) true (FIN3 M [.tmp 2] Q) [(0,a0)] [] H):yb M qdd [a0] H Q:=callf (by decide) qws (ks:=qor) (by kernel_rfl) h
def qkp:AFunc:=funcAt Tryd.prog qea
def qou:Kp:=⟨[0,2,3,4,5],false,[0,4,6,12]⟩
def qbh (k:Nat):Kp × ACode:=(qou,part qkp.body k)
theorem qhs (M:Mac) (c:Ctx):(∀ Q E D H,W M c (qbh 0) true Q E D H =
 B32 true ((Op.buildSlice vj 7 [(.str [])] [(0,1),(1,1),(2,1),(3,1),(4,1),(5,1),(6,1)]) [(.str [43]),(.str [45]),(.str [42]),(.str [38]),(.str [94]),(.str [60,60]),(.str [62,62])]) fun g o1 k1=>W M c (qbh 4) g Q ((4,(k1 H.next))::(3,(.int .i64 0))::(2,(.str []))::E) D (H.alloc o1)) /\
 (∀ Q E D H,W M c (qbh 4) true Q E D H =
  W M c (qbh 6) true Q ((5,(.int .i64 2))::E) D H) /\
 (∀ Q E D H,W M c (qbh 6) true Q E D H =
  Lz E 0 fun g t0=>Bn g .eql t0 (.int .i64 4) fun g t8=>JN (fun (k:Bool->AV->AV->AHeap->Prop)=>B3 g (wantV false (some t8)) fun g w=>IG3 g w (fun g=>Bn g .eql t0 (.int .i64 5) fun g t11=>k g t11 t0 H) (fun g=>k g uu uu H)) (fun g t11_1 t10_1 H1=>B3 g (Op.pick [t8,(.bool true),t11_1]) fun g t12=>JN (fun (k:Bool->AV->AV->AHeap->Prop)=>B3 g (wantV false (some t12)) fun g w=>IG3 g w (fun g=>Bn g .eql t0 (.int .i64 8) fun g t15=>k g t15 t0 H1) (fun g=>k g uu uu H1)) (fun g t15_1 t14_1 H2=>B3 g (Op.pick [t12,(.bool true),t15_1]) fun g t16=>IF3 g t16 (fun g=>Gt g M c (qbh 12) Q ((5,(.int .i64 1))::E) D H2) (fun g=>Gt g M c (qbh 12) Q E D H2)))) /\
 (∀ Q E D H,W M c (qbh 12) true Q E D H =
  Lz E 4 fun g t4=>Ly g E 0 fun g t0=>Bn g .sub t0 (.int .i64 4) fun g t19=>Xl g t4 t19 H fun g t21=>Ly g E 5 fun g t5=>GO3 g Q .ret ((3,t5)::(2,t21)::E) D H):=by (repeat' apply And.intro)<;>(intro _ _ _ _;refine W_unf ?_;kernel_rfl)
theorem qwy:(cProg Tryd.prog).func qea=some qkp/\qkp.results=[.tmp 2,.tmp 3]:=x9 (by kernel_rfl)
theorem qwz (h:W M ⟨none,qea⟩ (qbh 0) true (FIN3 M [.tmp 2,.tmp 3] Q) [(0,a0)] [] H):yb M qea [a0] H Q:=callf (by decide) qwy (ks:=qou) (by kernel_rfl) h
end
end Go.Am
namespace Go.Am
abbrev qe7:Nat:=22
abbrev qa8:Nat:=26
abbrev qcd:Nat:=53
abbrev qhc:Nat:=50
abbrev qbx:Nat:=87
abbrev y9:Nat:=119
abbrev j8:Nat:=54
abbrev qdc:Nat:=84
abbrev qdw:Nat:=86
abbrev qfn:Nat:=52
abbrev jr:Nat:=56
abbrev qbk:Nat:=85
abbrev vm:Nat:=51
abbrev T__21:Nat:=39
abbrev j0:Nat:=42
abbrev yv:Nat:=103
abbrev kg:Nat:=129
abbrev qae:Nat:=100
abbrev je:Nat:=38
noncomputable section
open Go.Proofs Go.Proofs.YtbimikjajohflaaDoor
variable {M:Mac} [MK M] {H:AHeap} {Q:AEnd->AHeap->Prop} {a0 a1 a2 a3 a4:AV}
def qry:AFunc:=funcAt Tryd.prog qe7
def qxj:Kp:=⟨[0,1,2,3,6,8,9,13],false,[0]⟩
def qxk (k:Nat):Kp × ACode:=(qxj,part qry.body k)
theorem qxl (M:Mac) (c:Ctx):(∀ Q E D H,W M c (qxk 0) true Q E D H =
 Lz E 2 fun g t2=>A3 g T__21 (AV.cells t2) H fun g t6 H1=>A3 g j0 [.nils,(.int .u64 0),(.int .u64 0),(.int .u64 0),(.int .u64 0),(.int .u64 0),(.int .u64 0),(.int .u64 0),(.int .u64 0),(.int .i64 0),(.int .i64 0),(.int .i64 0),(.int .i64 0)] H1 fun g t8 H2=>Ly g E 0 fun g t0=>B3 g (Op.lenSl [t0]) fun g t12=>Bn g .sub t12 (.int .i64 1) fun g t13=>Ly g E 1 fun g t1=>B3 g ((Op.loadN 8) [t6] H2) fun g t15=>Ly g E 3 fun g t3=>C3 M g (.func qa8) [t0,t13,t1,t15,t3] H2 fun g t17 H3=>B3 g ((Op.extract 0) [t17]) fun g t18=>B3 g ((Op.extract 1) [t17]) fun g t19=>B32 g ((Op.store 13) [t8,t18] H3) fun g u H4=>GO3 g Q .ret ((9,t19)::(13,t13)::(9,(.int .i64 0))::(8,t8)::(6,t6)::E) D H4):=by intro _ _ _ _;refine W_unf ?_;kernel_rfl
theorem q6q:(cProg Tryd.prog).func qe7=some qry/\qry.results=[.cellN 13 8,.tmp 9]:=x9 (by kernel_rfl)
theorem q6r (h:W M ⟨none,qe7⟩ (qxk 0) true (FIN3 M [.cellN 13 8,.tmp 9] Q) [(0,a0),(1,a1),(2,a2),(3,a3)] [] H):yb M qe7 [a0,a1,a2,a3] H Q:=callf (by decide) q6q (ks:=qxj) (by kernel_rfl) h
def qpb:AFunc:=funcAt Tryd.prog qa8
def qve:Kp:=⟨[0,1,2,3,4,6,8,10,11,12,13],false,[0,2,10]⟩
def qev (k:Nat):Kp × ACode:=(qve,part qpb.body k)
theorem qpc (M:Mac) (c:Ctx):(∀ Q E D H,W M c (qev 0) true Q E D H =
 Lz E 1 fun g t1=>A3 g T_int (AV.cells t1) H fun g t6 H1=>Ly g E 3 fun g t3=>A3 g T__21 (AV.cells t3) H1 fun g t8 H2=>A3 g j0 [.nils,(.int .u64 0),(.int .u64 0),(.int .u64 0),(.int .u64 0),(.int .u64 0),(.int .u64 0),(.int .u64 0),(.int .u64 0),(.int .i64 0),(.int .i64 0),(.int .i64 0),(.int .i64 0)] H2 fun g t10 H3=>W M c (qev 2) g Q ((11,(.int .i64 0))::(10,t10)::(8,t8)::(6,t6)::E) D H3) /\
 (∀ Q E D H,W M c (qev 2) true Q E D H =
  Lz E 0 fun g t0=>Ly g E 2 fun g t2=>Ly g E 4 fun g t4=>C3 M g (.func qhc) [t0,t2,t4] H fun g t16 H1=>B3 g ((Op.un .not) [t16]) fun g t17=>JN (fun (k:Bool->AV->AV->AHeap->Prop)=>B3 g (wantV false (some t17)) fun g w=>IG3 g w (fun g=>Ly g E 6 fun g t6=>B3 g (Op.load1 [t6] H1) fun g t19=>Bn g .lss t19 (.int .i64 0) fun g t20=>k g t20 t19 H1) (fun g=>k g uu uu H1)) (fun g t20_1 t19_1 H2=>B3 g (Op.pick [t17,(.bool true),t20_1]) fun g t21=>JN (fun (k:Bool->AV->AV->AV->AV->AHeap->Prop)=>B3 g (wantV false (some t21)) fun g w=>IG3 g w (fun g=>Ly g E 6 fun g t6_1=>B3 g (Op.load1 [t6_1] H2) fun g t23=>B3 g (Op.lenSl [t0]) fun g t25=>Bn g .geq t23 t25 fun g t26=>k g t26 t25 t0 t23 H2) (fun g=>k g uu uu uu uu H2)) (fun g t26_1 t25_1 t24_1 t23_1 H3=>B3 g (Op.pick [t21,(.bool true),t26_1]) fun g t27=>JN (fun (k:Bool->AV->AV->AV->AV->AV->AV->AHeap->Prop)=>B3 g (wantV false (some t27)) fun g w=>IG3 g w (fun g=>Ly g E 6 fun g t6_2=>B3 g (Op.load1 [t6_2] H3) fun g t30=>B3 g ((Op.indexSl 3) [t0,t30]) fun g t31=>B3 g ((Op.fieldAddr 0) [t31]) fun g t32=>B3 g (Op.load1 [t32] H3) fun g t33=>Bn g .lss t33 (.int .i64 14) fun g t34=>k g t34 t33 t32 t31 t30 t0 H3) (fun g=>k g uu uu uu uu uu uu H3)) (fun g t34_1 t33_1 t32_1 t31_1 t30_1 t29_1 H4=>B3 g (Op.pick [t27,(.bool true),t34_1]) fun g t35=>IF3 g t35 (fun g=>B3 g ((Op.build [.nils,(.int .u64 0),(.int .u64 0),(.int .u64 0),(.int .u64 0),(.int .u64 0),(.int .u64 0),(.int .u64 0),(.int .u64 0),(.int .i64 0),(.int .i64 0),(.int .i64 0),(.int .i64 0)] []) []) fun g t36=>Ly g E 10 fun g t10=>B32 g ((Op.store 13) [t10,t36] H4) fun g u H5=>GO3 g (SEQ3 (W M c (qev 10)) Q) .ret ((11,(.int .i64 2))::(13,t0)::E) D H5) (fun g=>Gt g M c (qev 10) Q ((13,t0)::E) D H4))))) /\
 (∀ Q E D H,W M c (qev 10) true Q E D H =
  Lz E 0 fun g t0=>Ly g E 2 fun g t2=>Ly g E 8 fun g t8=>B3 g ((Op.loadN 8) [t8] H) fun g t40=>Ly g E 4 fun g t4=>C3 M g (.func vm) [t2] H fun g t39 H1=>CK3 g ((Op.loadN 8) [t8] H1) (some t40) fun g=>B3 g ((Op.build [.nils,(.int .u64 0),(.int .u64 0),(.int .u64 0),(.int .u64 0),(.int .u64 0),(.int .u64 0),(.int .u64 0),(.int .u64 0),(.int .i64 0),(.int .i64 0),(.int .i64 0),(.int .i64 0)] [(0,1),(1,8),(10,1)]) [t39,t40,t4]) fun g t42=>B3 g ((Op.build [.nils,.nils,(.int .u64 0),(.int .u64 0),(.int .u64 0),(.int .u64 0),(.int .u64 0),(.int .u64 0),(.int .u64 0),(.int .u64 0),(.int .i64 0),(.int .i64 0),(.int .i64 0),(.int .i64 0),(.bool false),(.bool false)] [(0,1),(1,13)]) [t0,t42]) fun g t43=>A3 g yv (AV.cells t43) H1 fun g t44 H2=>A3 g qae [.nilp] H2 fun g t12 H3=>B32 g ((Op.store 1) [t12,t44] H3) fun g u H4=>B3 g (Op.load1 [t12] H4) fun g t45=>B3 g (Op.load1 [t12] H4) fun g t46=>Ly g E 6 fun g t6=>B3 g ((Op.mkFunc qcd 0) [t12,t6]) fun g t47=>C3 M g (.func qfn) [t46,t47] H4 fun g t48 H5=>CK3 g (Op.load1 [t12] H5) (some t45) fun g=>B3 g (Op.nilCheck [t45]) fun g t49=>B3 g ((Op.fieldAddr 1) [t49]) fun g t50=>Fs g 12 t50 t48 H5 fun g u_1 H6=>B3 g (Op.load1 [t12] H6) fun g t52=>B3 g (Op.nilCheck [t52]) fun g t53=>B3 g ((Op.fieldAddr 1) [t53]) fun g t54=>B3 g ((Op.loadN 13) [t54] H6) fun g t55=>Ly g E 10 fun g t10=>B32 g ((Op.store 13) [t10,t55] H6) fun g u_2 H7=>GO3 g Q .ret ((11,(.int .i64 0))::(12,t12)::E) D H7):=by (repeat' apply And.intro)<;>(intro _ _ _ _;refine W_unf ?_;kernel_rfl)
theorem q26:(cProg Tryd.prog).func qa8=some qpb/\qpb.results=[.cellN 13 10,.tmp 11]:=x9 (by kernel_rfl)
theorem q27 (h:W M ⟨none,qa8⟩ (qev 0) true (FIN3 M [.cellN 13 10,.tmp 11] Q) [(0,a0),(1,a1),(2,a2),(3,a3),(4,a4)] [] H):yb M qa8 [a0,a1,a2,a3,a4] H Q:=callf (by decide) q26 (ks:=qve) (by kernel_rfl) h
def qrz:AFunc:=funcAt Tryd.prog qhc
def qxm:Kp:=⟨[0,1,2,6,8],false,[0,2,10]⟩
def qhk (k:Nat):Kp × ACode:=(qxm,part qrz.body k)
theorem q6u (M:Mac) (c:Ctx):(∀ Q E D H,W M c (qhk 0) true Q E D H =
 W M c (qhk 2) true Q ((6,(.bool false))::E) D H) /\
 (∀ Q E D H,W M c (qhk 2) true Q E D H =
  Lz E 1 fun g t1=>B3 g (Op.lenSl [t1]) fun g t10=>Bn g .gtr t10 (.int .i64 4096) fun g t11=>JN (fun (k:Bool->AV->AV->AHeap->Prop)=>B3 g (wantV false (some t11)) fun g w=>IG3 g w (fun g=>Ly g E 2 fun g t2=>Bn g .lss t2 (.int .i64 0) fun g t14=>k g t14 t2 H) (fun g=>k g uu uu H)) (fun g t14_1 t13_1 H1=>B3 g (Op.pick [t11,(.bool true),t14_1]) fun g t15=>JN (fun (k:Bool->AV->AV->AHeap->Prop)=>B3 g (wantV false (some t15)) fun g w=>IG3 g w (fun g=>Ly g E 2 fun g t2_1=>Bn g .gtr t2_1 (.int .i64 1048576) fun g t18=>k g t18 t2_1 H1) (fun g=>k g uu uu H1)) (fun g t18_1 t17_1 H2=>B3 g (Op.pick [t15,(.bool true),t18_1]) fun g t19=>IF3 g t19 (fun g=>GO3 g (SEQ3 (W M c (qhk 10)) Q) .ret ((6,(.bool false))::E) D H2) (fun g=>Gt g M c (qhk 10) Q E D H2)))) /\
 (∀ Q E D H,W M c (qhk 10) true Q E D H =
  Lz E 0 fun g t0=>C3 M g (.func qci) [t0] H fun g t22 H1=>B3 g ((Op.extract 0) [t22]) fun g t23=>B3 g ((Op.extract 1) [t22]) fun g t24=>Bn g .eql t24 (.int .i64 0) fun g t26=>GO3 g Q .ret ((6,t26)::(8,t24)::E) D H1):=by (repeat' apply And.intro)<;>(intro _ _ _ _;refine W_unf ?_;kernel_rfl)
theorem q6s:(cProg Tryd.prog).func qhc=some qrz/\qrz.results=[.tmp 6]:=x9 (by kernel_rfl)
theorem q6t (h:W M ⟨none,qhc⟩ (qhk 0) true (FIN3 M [.tmp 6] Q) [(0,a0),(1,a1),(2,a2)] [] H):yb M qhc [a0,a1,a2] H Q:=callf (by decide) q6s (ks:=qxm) (by kernel_rfl) h
def qex:AFunc:=funcAt Tryd.prog vm
def qhy:Kp:=⟨[0,2],false,[0,2,10]⟩
def vn (k:Nat):Kp × ACode:=(qhy,part qex.body k)
theorem qey (M:Mac) (c:Ctx):(∀ Q E D H,W M c (vn 0) true Q E D H =
 W M c (vn 2) true Q ((2,.nils)::E) D H) /\
 (∀ Q E D H,W M c (vn 2) true Q E D H =
  Lz E 0 fun g t0=>B3 g ((Op.eq .slice false) [t0,.nils] H) fun g t4=>IF3 g t4 (fun g=>GO3 g (SEQ3 (W M c (vn 10)) Q) .ret ((2,.nils)::E) D H) (fun g=>Gt g M c (vn 10) Q E D H)) /\
 (∀ Q E D H,W M c (vn 10) true Q E D H =
  B32 true ((Op.buildSlice je 0 [(.int .u64 0)] []) []) fun g o1 k1=>Ly g E 0 fun g t0=>B32 g ((Op.append je 1 8) [(k1 H.next),t0] (H.alloc o1)) fun g t7 H2=>GO3 g Q .ret ((2,t7)::E) D H2):=by (repeat' apply And.intro)<;>(intro _ _ _ _;refine W_unf ?_;kernel_rfl)
theorem qnl:(cProg Tryd.prog).func vm=some qex/\qex.results=[.tmp 2]:=x9 (by kernel_rfl)
theorem qnm (h:W M ⟨none,vm⟩ (vn 0) true (FIN3 M [.tmp 2] Q) [(0,a0)] [] H):yb M vm [a0] H Q:=callf (by decide) qnl (ks:=qhy) (by kernel_rfl) h
def qlv:AFunc:=funcAt Tryd.prog qcd
def qqd:Kp:=⟨[0,1],true,[0]⟩
def qqe (k:Nat):Kp × ACode:=(qqd,part qlv.body k)
theorem qyx (M:Mac) (c:Ctx):(∀ Q E D H,W M c (qqe 0) true Q E D H =
 Lz E 0 fun g t0=>B3 g (Op.load1 [t0] H) fun g t2=>Ly g E 1 fun g t1=>B3 g (Op.load1 [t1] H) fun g t3=>P3 M g (PX (some []) [3,2] Q E D) (.func j8) [t2,t3] H fun g t4 H1=>GO3 g Q .normal E D H1):=by intro _ _ _ _;refine W_unf ?_;kernel_rfl
theorem qyv:(cProg Tryd.prog).func qcd=some qlv/\qlv.results=[]:=x9 (by kernel_rfl)
theorem qyw (h:W M ⟨none,qcd⟩ (qqe 0) true (FIN3 M [] Q) [(0,a0),(1,a1)] [] H):yb M qcd [a0,a1] H Q:=callf (by decide) qyv (ks:=qqd) (by kernel_rfl) h
def qh9:AFunc:=funcAt Tryd.prog jr
def qml:Kp:=⟨[0,1,4,5,6,7,16,61],true,[0,4,20,27,29,46,52,58,64,70,76,81,82,83,87,88,92,93,97,98,102,103,107,108]⟩
def qm (k:Nat):Kp × ACode:=(qml,part qh9.body k)
theorem jb (M:Mac) (c:Ctx):(∀ Q E D H,W M c (qm 0) true Q E D H =
 Lz E 0 fun g t0=>Nf g 0 t0 H fun g t11=>Ly g E 1 fun g t1=>B3 g ((Op.indexSl 3) [t11,t1]) fun g t13=>B3 g ((Op.loadN 3) [t13] H) fun g t14=>A3 g qj [(.int .i64 0),(.int .u64 0),.nils] H fun g t5 H1=>B32 g ((Op.store 3) [t5,t14] H1) fun g u H2=>W M c (qm 4) g Q ((5,t5)::(4,(.int .u64 0))::E) D H2) /\
 (∀ Q E D H,W M c (qm 4) true Q E D H =
  Lz E 5 fun g t5=>Fl g 0 t5 H fun g t16=>Cb g .eql t16 (.int .i64 1) (fun g=>Ly g E 5 fun g t5_1=>Fl g 1 t5_1 H fun g t20=>GO3 g (BLK3 0 (SEQ3 (W M c (qm 27)) Q)) .ret ((4,t20)::(16,t16)::E) D H) (fun g=>Cb g .eql t16 (.int .i64 2) (fun g=>Ly g E 0 fun g t0=>Ly g E 5 fun g t5_1=>Fl g 1 t5_1 H fun g t25=>B3 g (Op.nilCheck [t0]) fun g t26=>B3 g ((Op.fieldAddr 1) [t26]) fun g t27=>B3 g ((Op.fieldAddr 1) [t27]) fun g t28=>B3 g ((Op.indexArr 8 1) [t28,t25]) fun g t29=>B3 g (Op.load1 [t29] H) fun g t30=>GO3 g (BLK3 0 (SEQ3 (W M c (qm 27)) Q)) .ret ((4,t30)::(16,t16)::E) D H) (fun g=>W M c (qm 20) g (BLK3 0 (SEQ3 (W M c (qm 27)) Q)) ((16,t16)::E) D H))) /\
 (∀ Q E D H,W M c (qm 27) true Q E D H =
  Lz E 0 fun g t0=>Ly g E 5 fun g t5=>Fl g 2 t5 H fun g t50=>Xl g t50 (.int .i64 0) H fun g t52=>B3 g ((Op.fieldAddr 2) [t5]) fun g t55=>B3 g (Op.load1 [t55] H) fun g t56=>B3 g ((Op.indexSl 1) [t56,(.int .i64 1)]) fun g t57=>B3 g (Op.load1 [t57] H) fun g t58=>P3 M g (PX (some [48,49,50,51,52,53,54,55,56,57,58,59,6,7]) [58,57,56,55,54,52,51,50,49,48] Q E D) (.func jr) [t0,t52] H fun g t53 H1=>CK3 g (Op.load1 [t55] H1) (some t56) fun g=>CK3 g (Op.load1 [t57] H1) (some t58) fun g=>P3 M g (PX (some [48,49,50,51,52,53,54,55,56,57,58,59,6,7]) [53,58,57,56,55,54,52,51,50,49,48] Q E D) (.func jr) [t0,t58] H1 fun g t59 H2=>W M c (qm 29) g Q ((7,t59)::(6,t53)::E) D H2) /\
 (∀ Q E D H,W M c (qm 20) true Q E D H =
  Lz E 16 fun g t16=>Cb g .eql t16 (.int .i64 3) (fun g=>Ly g E 0 fun g t0=>B3 g (Op.nilCheck [t0]) fun g t34=>B3 g ((Op.fieldAddr 1) [t34]) fun g t35=>B3 g ((Op.fieldAddr 0) [t35]) fun g t36=>B3 g (Op.load1 [t36] H) fun g t37=>Ly g E 5 fun g t5=>Fl g 2 t5 H fun g t41=>Xl g t41 (.int .i64 0) H fun g t43=>P3 M g (PX (some [33,34,35,36,37,38,39,40,41,42,43,44,45,46,47,4]) [43,42,41,40,39,38,37,36,35,34,33] Q E D) (.func jr) [t0,t43] H fun g t44 H1=>CK3 g (Op.load1 [t36] H1) (some t37) fun g=>P3 M g (PX (some [33,34,35,36,37,38,39,40,41,42,43,44,45,46,47,4]) [44,43,42,41,40,39,38,37,36,35,34,33] Q E D) (.func qbk) [t0,t44] H1 fun g t45 H2=>CK3 g (Op.load1 [t36] H2) (some t37) fun g=>Xl g t37 t45 H2 fun g t47=>GO3 g Q .ret ((4,t47)::E) D H2) (fun g=>GO3 g Q .normal E D H)) /\
 (∀ Q E D H,W M c (qm 29) true Q E D H =
  Lz E 5 fun g t5=>Fl g 0 t5 H fun g t61=>W M c (qm 46) g (SEQ3 (W M c (qm 81)) (BLK3 2 (SEQ3 (W M c (qm 82)) (BLK3 3 (SEQ3 (W M c (qm 83)) (BLK3 4 (SEQ3 (W M c (qm 88)) (BLK3 5 (SEQ3 (W M c (qm 93)) (BLK3 6 (SEQ3 (W M c (qm 98)) (BLK3 7 (SEQ3 (W M c (qm 103)) (BLK3 1 (SEQ3 (W M c (qm 108)) Q))))))))))))))) ((61,t61)::E) D H) /\
 (∀ Q E D H,W M c (qm 108) true Q E D H =
  Lz E 6 fun g t6=>Ly g E 7 fun g t7=>Bn g .rem t7 (.int .u64 64) fun g t94=>Bn g .shr t6 t94 fun g t95=>GO3 g Q .ret ((4,t95)::E) D H) /\
 (∀ Q E D H,W M c (qm 103) true Q E D H =
  Lz E 6 fun g t6=>Ly g E 7 fun g t7=>Bn g .rem t7 (.int .u64 64) fun g t90=>Bn g .shl t6 t90 fun g t91=>GO3 g (SEQ3 (W M c (qm 107)) Q) .ret ((4,t91)::E) D H) /\
 (∀ Q E D H,W M c (qm 98) true Q E D H =
  Lz E 6 fun g t6=>Ly g E 7 fun g t7=>Bn g .xor t6 t7 fun g t87=>GO3 g (SEQ3 (W M c (qm 102)) Q) .ret ((4,t87)::E) D H) /\
 (∀ Q E D H,W M c (qm 93) true Q E D H =
  Lz E 6 fun g t6=>Ly g E 7 fun g t7=>Bn g .and t6 t7 fun g t84=>GO3 g (SEQ3 (W M c (qm 97)) Q) .ret ((4,t84)::E) D H) /\
 (∀ Q E D H,W M c (qm 88) true Q E D H =
  Lz E 6 fun g t6=>Ly g E 7 fun g t7=>Bn g .mul t6 t7 fun g t81=>GO3 g (SEQ3 (W M c (qm 92)) Q) .ret ((4,t81)::E) D H) /\
 (∀ Q E D H,W M c (qm 83) true Q E D H =
  Lz E 6 fun g t6=>Ly g E 7 fun g t7=>Bn g .add t6 t7 fun g t78=>GO3 g (SEQ3 (W M c (qm 87)) Q) .ret ((4,t78)::E) D H) /\
 (∀ Q E D H,W M c (qm 82) true Q E D H =
  Lz E 7 fun g t7=>B3 g ((Op.un .neg) [t7]) fun g t75=>GO3 g Q .normal ((7,t75)::E) D H) /\
 (∀ Q E D H,W M c (qm 81) true Q E D H =
  GO3 true Q (.exit 1) E D H) /\
 (∀ Q E D H,W M c (qm 46) true Q E D H =
  Lz E 61 fun g t61=>Cb g .eql t61 (.int .i64 5) (fun g=>GO3 g (SEQ3 (W M c (qm 52)) Q) (.exit 2) E D H) (fun g=>Gt g M c (qm 52) Q E D H)) /\
 (∀ Q E D H,W M c (qm 107) true Q E D H =
  GO3 true Q (.exit 1) E D H) /\
 (∀ Q E D H,W M c (qm 102) true Q E D H =
  GO3 true Q (.exit 1) E D H) /\
 (∀ Q E D H,W M c (qm 97) true Q E D H =
  GO3 true Q (.exit 1) E D H) /\
 (∀ Q E D H,W M c (qm 92) true Q E D H =
  GO3 true Q (.exit 1) E D H) /\
 (∀ Q E D H,W M c (qm 87) true Q E D H =
  GO3 true Q (.exit 1) E D H) /\
 (∀ Q E D H,W M c (qm 52) true Q E D H =
  Lz E 61 fun g t61=>Cb g .eql t61 (.int .i64 4) (fun g=>GO3 g (SEQ3 (W M c (qm 58)) Q) (.exit 3) E D H) (fun g=>Gt g M c (qm 58) Q E D H)) /\
 (∀ Q E D H,W M c (qm 58) true Q E D H =
  Lz E 61 fun g t61=>Cb g .eql t61 (.int .i64 6) (fun g=>GO3 g (SEQ3 (W M c (qm 64)) Q) (.exit 4) E D H) (fun g=>Gt g M c (qm 64) Q E D H)) /\
 (∀ Q E D H,W M c (qm 64) true Q E D H =
  Lz E 61 fun g t61=>Cb g .eql t61 (.int .i64 7) (fun g=>GO3 g (SEQ3 (W M c (qm 70)) Q) (.exit 5) E D H) (fun g=>Gt g M c (qm 70) Q E D H)) /\
 (∀ Q E D H,W M c (qm 70) true Q E D H =
  Lz E 61 fun g t61=>Cb g .eql t61 (.int .i64 8) (fun g=>GO3 g (SEQ3 (W M c (qm 76)) Q) (.exit 6) E D H) (fun g=>Gt g M c (qm 76) Q E D H)) /\
 (∀ Q E D H,W M c (qm 76) true Q E D H =
  Lz E 61 fun g t61=>Cb g .eql t61 (.int .i64 9) (fun g=>GO3 g Q (.exit 7) E D H) (fun g=>GO3 g Q .normal E D H)):=by (repeat' apply And.intro)<;>(intro _ _ _ _;refine W_unf ?_;kernel_rfl)
theorem qtl:(cProg Tryd.prog).func jr=some qh9/\qh9.results=[.tmp 4]:=x9 (by kernel_rfl)
theorem qfx (h:W M ⟨none,jr⟩ (qm 0) true (FIN3 M [.tmp 4] Q) [(0,a0),(1,a1)] [] H):yb M jr [a0,a1] H Q:=callf (by decide) qtl (ks:=qml) (by kernel_rfl) h
def qlw:AFunc:=funcAt Tryd.prog j8
def qqi:Kp:=⟨[0,1,4,6,7,8,27,31,32,33],true,[0,2,8,14,15,17,21,27,31,37,38,43,59,64,69,75,78,84,89,92,98]⟩
def qy (k:Nat):Kp × ACode:=(qqi,part qlw.body k)
theorem x8 (M:Mac) (c:Ctx):(∀ Q E D H,W M c (qy 0) true Q E D H =
 Lz E 0 fun g t0=>Nf g 0 t0 H fun g t12=>Ly g E 1 fun g t1=>B3 g ((Op.indexSl 3) [t12,t1]) fun g t14=>B3 g ((Op.loadN 3) [t14] H) fun g t15=>A3 g qj [(.int .i64 0),(.int .u64 0),.nils] H fun g t4 H1=>B32 g ((Op.store 3) [t4,t15] H1) fun g u H2=>W M c (qy 2) g Q ((4,t4)::E) D H2) /\
 (∀ Q E D H,W M c (qy 2) true Q E D H =
  Lz E 4 fun g t4=>Fl g 0 t4 H fun g t17=>Bn g .neq t17 (.int .i64 20) fun g t18=>JN (fun (k:Bool->AV->AV->AV->AHeap->Prop)=>B3 g (wantV true (some t18)) fun g w=>IG3 g w (fun g=>B3 g ((Op.fieldAddr 0) [t4]) fun g t20=>B3 g (Op.load1 [t20] H) fun g t21=>Bn g .neq t21 (.int .i64 17) fun g t22=>k g t22 t21 t20 H) (fun g=>k g uu uu uu H)) (fun g t22_1 t21_1 t20_1 H1=>B3 g (Op.pick [t18,t22_1,(.bool false)]) fun g t23=>IF3 g t23 (fun g=>Ly g E 0 fun g t0=>P3 M g (PX (some []) [24] (SEQ3 (W M c (qy 8)) Q) E D) (.func qdc) [t0] H1 fun g t25 H2=>Gt g M c (qy 8) Q E D H2) (fun g=>Gt g M c (qy 8) Q E D H1))) /\
 (∀ Q E D H,W M c (qy 8) true Q E D H =
  Lz E 4 fun g t4=>Fl g 0 t4 H fun g t27=>Cb g .eql t27 (.int .i64 20) (fun g=>W M c (qy 14) g (BLK3 0 Q) ((27,t27)::E) D H) (fun g=>Cb g .eql t27 (.int .i64 14) (fun g=>Ly g E 0 fun g t0=>Ly g E 4 fun g t4_1=>B3 g ((Op.fieldAddr 1) [t4_1]) fun g t48=>B3 g (Op.load1 [t48] H) fun g t49=>Fl g 2 t4_1 H fun g t52=>Xl g t52 (.int .i64 0) H fun g t54=>B3 g (Op.nilCheck [t0]) fun g t56=>B3 g ((Op.fieldAddr 1) [t56]) fun g t57=>B3 g ((Op.fieldAddr 1) [t57]) fun g t58=>P3 M g (PX (some [47,48,49,50,51,52,53,54,55,56,57,58,59]) [58,57,56,54,53,52,51,50,49,48,47] (BLK3 0 Q) ((27,t27)::E) D) (.func jr) [t0,t54] H fun g t55 H1=>CK3 g (Op.load1 [t48] H1) (some t49) fun g=>B3 g ((Op.indexArr 8 1) [t58,t49]) fun g t59=>B32 g ((Op.store 1) [t59,t55] H1) fun g u H2=>GO3 g (BLK3 0 Q) .normal ((27,t27)::E) D H2) (fun g=>W M c (qy 43) g (BLK3 0 Q) ((27,t27)::E) D H))) /\
 (∀ Q E D H,W M c (qy 14) true Q E D H =
  W M c (qy 15) true (SCP3 (qy 15).2 Q) E D H) /\
 (∀ Q E D H,W M c (qy 43) true Q E D H =
  Lz E 27 fun g t27=>Cb g .eql t27 (.int .i64 15) (fun g=>Ly g E 0 fun g t0=>Ly g E 4 fun g t4=>Fl g 2 t4 H fun g t64=>Xl g t64 (.int .i64 0) H fun g t66=>P3 M g (PX (some []) [66,65,64,63,62] Q E D) (.func jr) [t0,t66] H fun g t67 H1=>Ly g E 0 fun g t0_1=>Ly g E 4 fun g t4_1=>Fl g 2 t4_1 H1 fun g t70=>Xl g t70 (.int .i64 1) H1 fun g t72=>P3 M g (PX (some []) [72,71,70,69,68] Q ((7,t67)::E) D) (.func jr) [t0_1,t72] H1 fun g t73 H2=>Ly g E 0 fun g t0_2=>B3 g (Op.nilCheck [t0_2]) fun g t75=>B3 g ((Op.fieldAddr 1) [t75]) fun g t76=>B3 g ((Op.fieldAddr 0) [t76]) fun g t77=>B3 g (Op.load1 [t77] H2) fun g t78=>P3 M g (PX (some [74,75,76,77,78,79,80,81,82,83]) [82,80,79,78,77,76,75,74] Q ((8,t73)::(7,t67)::E) D) (.func qbk) [t0_2,t67] H2 fun g t81 H3=>CK3 g (Op.load1 [t77] H3) (some t78) fun g=>Xs g t78 t81 t73 H3 fun g u H4=>GO3 g Q .normal ((8,t73)::(7,t67)::E) D H4) (fun g=>Ly g E 27 fun g t27_1=>Cb g .eql t27_1 (.int .i64 16) (fun g=>Ly g E 0 fun g t0=>Ly g E 4 fun g t4=>Fl g 2 t4 H fun g t89=>Xl g t89 (.int .i64 0) H fun g t91=>P3 M g (PX (some []) [91,90,89,88,87] (BLK3 3 Q) E D) (.func qdw) [t0,t91] H fun g t92 H1=>IF3 g t92 (fun g=>Ly g E 0 fun g t0_1=>Ly g E 4 fun g t4_1=>Fl g 2 t4_1 H1 fun g t95=>Xl g t95 (.int .i64 1) H1 fun g t97=>P3 M g (PX (some []) [97,96,95,94,93] (BLK3 3 Q) E D) (.func j8) [t0_1,t97] H1 fun g t98 H2=>GO3 g (BLK3 3 Q) .normal E D H2) (fun g=>W M c (qy 59) g (BLK3 3 Q) E D H1)) (fun g=>W M c (qy 64) g Q E D H))) /\
 (∀ Q E D H,W M c (qy 15) true Q E D H =
  Gt true M c (qy 17) Q E D H) /\
 (∀ Q E D H,W M c (qy 59) true Q E D H =
  Lz E 4 fun g t4=>Fl g 2 t4 H fun g t101=>B3 g (Op.lenSl [t101]) fun g t102=>Cb g .eql t102 (.int .i64 3) (fun g=>Ly g E 0 fun g t0=>Ly g E 4 fun g t4_1=>Fl g 2 t4_1 H fun g t106=>Xl g t106 (.int .i64 2) H fun g t108=>P3 M g (PX (some []) [108,107,106,105,104] Q E D) (.func j8) [t0,t108] H fun g t109 H1=>GO3 g Q .normal E D H1) (fun g=>GO3 g Q .normal E D H)) /\
 (∀ Q E D H,W M c (qy 64) true Q E D H =
  Lz E 27 fun g t27=>Cb g .eql t27 (.int .i64 17) (fun g=>LOOP3 (W M c (qy 69)) (BLK3 4 Q) E D H) (fun g=>Ly g E 27 fun g t27_1=>Cb g .eql t27_1 (.int .i64 18) (fun g=>Ly g E 0 fun g t0=>Ly g E 4 fun g t4=>Fl g 2 t4 H fun g t136=>Xl g t136 (.int .i64 0) H fun g t138=>P3 M g (PX (some []) [138,137,136,135,134] Q E D) (.func qbx) [t0,t138] H fun g t139 H1=>GO3 g Q .normal E D H1) (fun g=>W M c (qy 89) g Q E D H))) /\
 (∀ Q E D H,W M c (qy 17) true Q E D H =
  Lz E 4 fun g t4=>Fl g 2 t4 H fun g t31=>B3 g (Op.lenSl [t31]) fun g t32=>LOOP3 (W M c (qy 21)) (BLK3 1 Q) ((33,(.int .i64 0))::(32,t32)::(31,t31)::E) D H) /\
 (∀ Q E D H,W M c (qy 69) true Q E D H =
  Lz E 0 fun g t0=>Nf g 15 t0 H fun g t115=>B3 g ((Op.un .not) [t115]) fun g t116=>IF3 g t116 (fun g=>Gt g M c (qy 75) Q E D H) (fun g=>GO3 g (SEQ3 (W M c (qy 75)) Q) (.exit 4) E D H)) /\
 (∀ Q E D H,W M c (qy 89) true Q E D H =
  Lz E 27 fun g t27=>Cb g .eql t27 (.int .i64 19) (fun g=>W M c (qy 92) g Q E D H) (fun g=>GO3 g Q .normal E D H)) /\
 (∀ Q E D H,W M c (qy 21) true Q E D H =
  Lz E 33 fun g t33=>Ly g E 32 fun g t32=>Cb g .lss t33 t32 (fun g=>Gt g M c (qy 27) Q E D H) (fun g=>GO3 g (SEQ3 (W M c (qy 27)) Q) (.exit 1) E D H)) /\
 (∀ Q E D H,W M c (qy 75) true Q E D H =
  Lz E 0 fun g t0=>P3 M g (PX (some []) [117] (BLK3 5 Q) E D) (.func qdc) [t0] H fun g t118 H1=>W M c (qy 78) g (BLK3 5 Q) E D H1) /\
 (∀ Q E D H,W M c (qy 92) true Q E D H =
  Lz E 0 fun g t0=>Nf g 14 t0 H fun g t145=>IF3 g t145 (fun g=>B3 g ((Op.build [(.int .i64 0)] [(0,1)]) [(.int .i64 111)]) fun g t146=>B3 g ((Op.mkIface kg) [t146]) fun g t147=>PANICK [t147] H (PX (some []) [147,146] (SEQ3 (W M c (qy 98)) Q) E D)) (fun g=>Gt g M c (qy 98) Q E D H)) /\
 (∀ Q E D H,W M c (qy 27) true Q E D H =
  Lz E 31 fun g t31=>Ly g E 33 fun g t33=>Xl g t31 t33 H fun g t36=>W M c (qy 31) g (BLK3 2 (SEQ3 (W M c (qy 38)) Q)) ((6,t36)::E) D H) /\
 (∀ Q E D H,W M c (qy 78) true Q E D H =
  Lz E 0 fun g t0=>Ly g E 4 fun g t4=>Fl g 2 t4 H fun g t121=>Xl g t121 (.int .i64 0) H fun g t123=>P3 M g (PX (some []) [123,122,121,120,119] (SEQ3 (W M c (qy 84)) Q) E D) (.func qdw) [t0,t123] H fun g t124 H1=>B3 g ((Op.un .not) [t124]) fun g t125=>IF3 g t125 (fun g=>GO3 g (SEQ3 (W M c (qy 84)) Q) .ret E D H1) (fun g=>Gt g M c (qy 84) Q E D H1)) /\
 (∀ Q E D H,W M c (qy 98) true Q E D H =
  Lz E 0 fun g t0=>Ns g 15 t0 (.bool true) H fun g u H1=>GO3 g Q .normal E D H1) /\
 (∀ Q E D H,W M c (qy 38) true Q E D H =
  Lz E 33 fun g t33=>Bn g .add t33 (.int .i64 1) fun g t44=>GO3 g Q .normal ((33,t44)::E) D H) /\
 (∀ Q E D H,W M c (qy 31) true Q E D H =
  Lz E 0 fun g t0=>Nf g 15 t0 H fun g t40=>IF3 g t40 (fun g=>GO3 g (SEQ3 (W M c (qy 37)) Q) (.exit 1) E D H) (fun g=>Gt g M c (qy 37) Q E D H)) /\
 (∀ Q E D H,W M c (qy 84) true Q E D H =
  Lz E 0 fun g t0=>Ly g E 4 fun g t4=>Fl g 2 t4 H fun g t128=>Xl g t128 (.int .i64 1) H fun g t130=>P3 M g (PX (some []) [130,129,128,127,126] Q E D) (.func j8) [t0,t130] H fun g t131 H1=>GO3 g Q .normal E D H1) /\
 (∀ Q E D H,W M c (qy 37) true Q E D H =
  Lz E 0 fun g t0=>Ly g E 6 fun g t6=>P3 M g (PX (some []) [42,41] Q E D) (.func j8) [t0,t6] H fun g t43 H1=>GO3 g Q .normal E D H1):=by (repeat' apply And.intro)<;>(intro _ _ _ _;refine W_unf ?_;kernel_rfl)
theorem qyy:(cProg Tryd.prog).func j8=some qlw/\qlw.results=[]:=x9 (by kernel_rfl)
theorem qlx (h:W M ⟨none,j8⟩ (qy 0) true (FIN3 M [] Q) [(0,a0),(1,a1)] [] H):yb M j8 [a0,a1] H Q:=callf (by decide) qyy (ks:=qqi) (by kernel_rfl) h
def qjq:AFunc:=funcAt Tryd.prog qbk
def qnc:Kp:=⟨[0,1,4],true,[0,2,8]⟩
def qcs (k:Nat):Kp × ACode:=(qnc,part qjq.body k)
theorem qnd (M:Mac) (c:Ctx):(∀ Q E D H,W M c (qcs 0) true Q E D H =
 W M c (qcs 2) true Q ((4,(.int .i64 0))::E) D H) /\
 (∀ Q E D H,W M c (qcs 2) true Q E D H =
  Lz E 1 fun g t1=>Ly g E 0 fun g t0=>B3 g (Op.nilCheck [t0]) fun g t7=>B3 g ((Op.fieldAddr 1) [t7]) fun g t8=>Fl g 0 t8 H fun g t10=>B3 g (Op.lenSl [t10]) fun g t11=>B3 g ((Op.wrap .u64) [t11]) fun g t12=>Cb g .geq t1 t12 (fun g=>B3 g ((Op.build [(.int .i64 0)] [(0,1)]) [(.int .i64 111)]) fun g t14=>B3 g ((Op.mkIface kg) [t14]) fun g t15=>PANICK [t15] H (PX (some []) [15,14] (SEQ3 (W M c (qcs 8)) Q) E D)) (fun g=>Gt g M c (qcs 8) Q E D H)) /\
 (∀ Q E D H,W M c (qcs 8) true Q E D H =
  Lz E 1 fun g t1=>B3 g ((Op.wrap .i64) [t1]) fun g t17=>GO3 g Q .ret ((4,t17)::E) D H):=by (repeat' apply And.intro)<;>(intro _ _ _ _;refine W_unf ?_;kernel_rfl)
theorem qvg:(cProg Tryd.prog).func qbk=some qjq/\qjq.results=[.tmp 4]:=x9 (by kernel_rfl)
theorem qvh (h:W M ⟨none,qbk⟩ (qcs 0) true (FIN3 M [.tmp 4] Q) [(0,a0),(1,a1)] [] H):yb M qbk [a0,a1] H Q:=callf (by decide) qvg (ks:=qnc) (by kernel_rfl) h
def qkm:AFunc:=funcAt Tryd.prog qdc
def qon:Kp:=⟨[0],true,[0,6]⟩
def qfs (k:Nat):Kp × ACode:=(qon,part qkm.body k)
theorem qoo (M:Mac) (c:Ctx):(∀ Q E D H,W M c (qfs 0) true Q E D H =
 Lz E 0 fun g t0=>B3 g (Op.nilCheck [t0]) fun g t3=>B3 g ((Op.fieldAddr 1) [t3]) fun g t4=>Fl g 10 t4 H fun g t6=>Cb g .eql t6 (.int .i64 0) (fun g=>B3 g ((Op.build [(.int .i64 0)] [(0,1)]) [(.int .i64 190)]) fun g t8=>B3 g ((Op.mkIface kg) [t8]) fun g t9=>PANICK [t9] H (PX (some []) [9,8] (SEQ3 (W M c (qfs 6)) Q) E D)) (fun g=>Gt g M c (qfs 6) Q E D H)) /\
 (∀ Q E D H,W M c (qfs 6) true Q E D H =
  Lz E 0 fun g t0=>B3 g (Op.nilCheck [t0]) fun g t11=>B3 g ((Op.fieldAddr 1) [t11]) fun g t12=>Fl g 10 t12 H fun g t14=>Bn g .sub t14 (.int .i64 1) fun g t15=>B3 g (Op.nilCheck [t0]) fun g t16=>B3 g ((Op.fieldAddr 1) [t16]) fun g t17=>Fs g 10 t17 t15 H fun g u H1=>GO3 g Q .normal E D H1):=by (repeat' apply And.intro)<;>(intro _ _ _ _;refine W_unf ?_;kernel_rfl)
theorem qwm:(cProg Tryd.prog).func qdc=some qkm/\qkm.results=[]:=x9 (by kernel_rfl)
theorem qwn (h:W M ⟨none,qdc⟩ (qfs 0) true (FIN3 M [] Q) [(0,a0)] [] H):yb M qdc [a0] H Q:=callf (by decide) qwm (ks:=qon) (by kernel_rfl) h
def qly:AFunc:=funcAt Tryd.prog qdw
def qqj:Kp:=⟨[0,1,4,5,6,7,28],true,[0,4,6,23]⟩
def qbg (k:Nat):Kp × ACode:=(qqj,part qly.body k)
theorem qd1 (M:Mac) (c:Ctx):(∀ Q E D H,W M c (qbg 0) true Q E D H =
 Lz E 0 fun g t0=>Nf g 0 t0 H fun g t11=>Ly g E 1 fun g t1=>B3 g ((Op.indexSl 3) [t11,t1]) fun g t13=>B3 g ((Op.loadN 3) [t13] H) fun g t14=>A3 g qj [(.int .i64 0),(.int .u64 0),.nils] H fun g t5 H1=>B32 g ((Op.store 3) [t5,t14] H1) fun g u H2=>W M c (qbg 4) g Q ((5,t5)::(4,(.bool false))::E) D H2) /\
 (∀ Q E D H,W M c (qbg 4) true Q E D H =
  Lz E 0 fun g t0=>Ly g E 5 fun g t5=>Fl g 2 t5 H fun g t17=>Xl g t17 (.int .i64 0) H fun g t19=>B3 g ((Op.fieldAddr 2) [t5]) fun g t22=>B3 g (Op.load1 [t22] H) fun g t23=>B3 g ((Op.indexSl 1) [t23,(.int .i64 1)]) fun g t24=>B3 g (Op.load1 [t24] H) fun g t25=>P3 M g (PX (some [15,16,17,18,19,20,21,22,23,24,25,26,6,7]) [25,24,23,22,21,19,18,17,16,15] Q E D) (.func jr) [t0,t19] H fun g t20 H1=>CK3 g (Op.load1 [t22] H1) (some t23) fun g=>CK3 g (Op.load1 [t24] H1) (some t25) fun g=>P3 M g (PX (some [15,16,17,18,19,20,21,22,23,24,25,26,6,7]) [20,25,24,23,22,21,19,18,17,16,15] Q E D) (.func jr) [t0,t25] H1 fun g t26 H2=>W M c (qbg 6) g Q ((7,t26)::(6,t20)::E) D H2) /\
 (∀ Q E D H,W M c (qbg 6) true Q E D H =
  Lz E 5 fun g t5=>Fl g 0 t5 H fun g t28=>Cb g .eql t28 (.int .i64 11) (fun g=>Ly g E 6 fun g t6=>Ly g E 7 fun g t7=>Bn g .eql t6 t7 fun g t33=>GO3 g (BLK3 0 (SEQ3 (W M c (qbg 23)) Q)) .ret ((4,t33)::(28,t28)::E) D H) (fun g=>Cb g .eql t28 (.int .i64 12) (fun g=>Ly g E 6 fun g t6=>Ly g E 7 fun g t7=>Bn g .neq t6 t7 fun g t38=>GO3 g (BLK3 0 (SEQ3 (W M c (qbg 23)) Q)) .ret ((4,t38)::(28,t28)::E) D H) (fun g=>GO3 g (BLK3 0 (SEQ3 (W M c (qbg 23)) Q)) .normal ((28,t28)::E) D H))) /\
 (∀ Q E D H,W M c (qbg 23) true Q E D H =
  Lz E 6 fun g t6=>Ly g E 7 fun g t7=>Bn g .lss t6 t7 fun g t41=>GO3 g Q .ret ((4,t41)::E) D H):=by (repeat' apply And.intro)<;>(intro _ _ _ _;refine W_unf ?_;kernel_rfl)
theorem qyz:(cProg Tryd.prog).func qdw=some qly/\qly.results=[.tmp 4]:=x9 (by kernel_rfl)
theorem qy0 (h:W M ⟨none,qdw⟩ (qbg 0) true (FIN3 M [.tmp 4] Q) [(0,a0),(1,a1)] [] H):yb M qdw [a0,a1] H Q:=callf (by decide) qyz (ks:=qqj) (by kernel_rfl) h
def qh7:AFunc:=funcAt Tryd.prog qbx
def qmk:Kp:=⟨[0,1,2,3,4,5,6],true,[0,4,8,10,18]⟩
def yu (k:Nat):Kp × ACode:=(qmk,part qh7.body k)
theorem qtk (M:Mac) (c:Ctx):(∀ Q E D H,W M c (yu 0) true Q E D H =
 Lz E 0 fun g t0=>A3 g qae (AV.cells t0) H fun g t2 H1=>Ly g E 1 fun g t1=>A3 g T_int (AV.cells t1) H1 fun g t3 H2=>B3 g (Op.load1 [t2] H2) fun g t7=>B3 g (Op.nilCheck [t7]) fun g t8=>B3 g ((Op.fieldAddr 1) [t8]) fun g t9=>Fl g 0 t9 H2 fun g t11=>B3 g (Op.load1 [t2] H2) fun g t13=>B3 g (Op.nilCheck [t13]) fun g t14=>B3 g ((Op.fieldAddr 1) [t14]) fun g t15=>B3 g ((Op.fieldAddr 1) [t15]) fun g t16=>B3 g ((Op.loadN 8) [t16] H2) fun g t17=>P3 M g (PX none [17,16,15,14,13,11,10,9,8,7] Q ((3,t3)::(2,t2)::E) D) (.func vm) [t11] H2 fun g t12 H3=>CK3 g (Op.load1 [t2] H3) (some t13) fun g=>CK3 g ((Op.loadN 8) [t16] H3) (some t17) fun g=>A3 g T__21 [(.int .u64 0),(.int .u64 0),(.int .u64 0),(.int .u64 0),(.int .u64 0),(.int .u64 0),(.int .u64 0),(.int .u64 0)] H3 fun g t5 H4=>B32 g ((Op.store 8) [t5,t17] H4) fun g u H5=>W M c (yu 4) g Q ((4,t12)::(5,t5)::(3,t3)::(2,t2)::E) D H5) /\
 (∀ Q E D H,W M c (yu 4) true Q E D H =
  Lz E 2 fun g t2=>B3 g (Op.load1 [t2] H) fun g t18=>Ns g 14 t18 (.bool true) H fun g u H1=>Ly g E 2 fun g t2_1=>B3 g (Op.load1 [t2_1] H1) fun g t21=>Ly g E 3 fun g t3=>B3 g ((Op.mkFunc y9 0) [t2_1,t3]) fun g t22=>P3 M g (PX (some []) [22,21] Q E D) (.func qfn) [t21,t22] H1 fun g t23 H2=>W M c (yu 8) g Q ((6,t23)::E) D H2) /\
 (∀ Q E D H,W M c (yu 8) true Q E D H =
  Lz E 2 fun g t2=>B3 g (Op.load1 [t2] H) fun g t24=>Ns g 14 t24 (.bool false) H fun g u H1=>W M c (yu 10) g Q E D H1) /\
 (∀ Q E D H,W M c (yu 10) true Q E D H =
  Lz E 6 fun g t6=>Cb g .neq t6 (.int .i64 0) (fun g=>Ly g E 2 fun g t2=>B3 g (Op.load1 [t2] H) fun g t29=>B3 g (Op.load1 [t2] H) fun g t30=>Ly g E 4 fun g t4=>Ly g E 5 fun g t5=>B3 g ((Op.loadN 8) [t5] H) fun g t32=>B3 g (Op.nilCheck [t29]) fun g t33=>B3 g ((Op.fieldAddr 1) [t33]) fun g t34=>Fs g 0 t34 t4 H fun g u H1=>CK3 g (Op.load1 [t2] H1) (some t30) fun g=>CK3 g ((Op.loadN 8) [t5] H1) (some t32) fun g=>B3 g (Op.nilCheck [t30]) fun g t36=>B3 g ((Op.fieldAddr 1) [t36]) fun g t37=>B3 g ((Op.fieldAddr 1) [t37]) fun g t38=>B32 g ((Op.store 8) [t38,t32] H1) fun g u_1 H2=>Ly g E 6 fun g t6_1=>B3 g ((Op.build [(.int .i64 0)] [(0,1)]) [t6_1]) fun g t40=>B3 g ((Op.mkIface kg) [t40]) fun g t41=>PANICK [t41] H2 (PX (some []) [41,40,39] (SEQ3 (W M c (yu 18)) Q) E D)) (fun g=>Gt g M c (yu 18) Q E D H)) /\
 (∀ Q E D H,W M c (yu 18) true Q E D H =
  Lz E 2 fun g t2=>B3 g (Op.load1 [t2] H) fun g t42=>B3 g (Op.nilCheck [t42]) fun g t43=>B3 g ((Op.fieldAddr 1) [t43]) fun g t44=>Fl g 11 t44 H fun g t46=>Bn g .add t46 (.int .i64 1) fun g t47=>B3 g (Op.nilCheck [t42]) fun g t48=>B3 g ((Op.fieldAddr 1) [t48]) fun g t49=>Fs g 11 t49 t47 H fun g u H1=>GO3 g Q .normal E D H1):=by (repeat' apply And.intro)<;>(intro _ _ _ _;refine W_unf ?_;kernel_rfl)
theorem qti:(cProg Tryd.prog).func qbx=some qh7/\qh7.results=[]:=x9 (by kernel_rfl)
theorem qtj (h:W M ⟨none,qbx⟩ (yu 0) true (FIN3 M [] Q) [(0,a0),(1,a1)] [] H):yb M qbx [a0,a1] H Q:=callf (by decide) qti (ks:=qmk) (by kernel_rfl) h
def qgo:AFunc:=funcAt Tryd.prog y9
def qkf:Kp:=⟨[0,1],true,[0]⟩
def qkg (k:Nat):Kp × ACode:=(qkf,part qgo.body k)
theorem qqh (M:Mac) (c:Ctx):(∀ Q E D H,W M c (qkg 0) true Q E D H =
 Lz E 0 fun g t0=>B3 g (Op.load1 [t0] H) fun g t2=>Ly g E 1 fun g t1=>B3 g (Op.load1 [t1] H) fun g t3=>P3 M g (PX (some []) [3,2] Q E D) (.func j8) [t2,t3] H fun g t4 H1=>GO3 g Q .normal E D H1):=by intro _ _ _ _;refine W_unf ?_;kernel_rfl
theorem qqf:(cProg Tryd.prog).func y9=some qgo/\qgo.results=[]:=x9 (by kernel_rfl)
theorem qqg (h:W M ⟨none,y9⟩ (qkg 0) true (FIN3 M [] Q) [(0,a0),(1,a1)] [] H):yb M y9 [a0,a1] H Q:=callf (by decide) qqf (ks:=qkf) (by kernel_rfl) h
end
end Go.Am
namespace Go.Am
abbrev qdv:Nat:=21
abbrev qce:Nat:=24
noncomputable section
open Go.Proofs Go.Proofs.YtbimikjajohflaaDoor
variable {M:Mac} [MK M] {H:AHeap} {Q:AEnd->AHeap->Prop} {a0 a1 a2 a3 a4:AV}
def qlu:AFunc:=funcAt Tryd.prog qdv
def qqc:Kp:=⟨[0,1,2,6,7,8],false,[0,4,9,15,18,19,27]⟩
def ye (k:Nat):Kp × ACode:=(qqc,part qlu.body k)
theorem qyr (M:Mac) (c:Ctx):(∀ Q E D H,W M c (ye 0) true Q E D H =
 W M c (ye 4) true Q ((7,(.int .i64 0))::(6,(.int .i64 0))::E) D H) /\
 (∀ Q E D H,W M c (ye 4) true Q E D H =
  LOOP3 (W M c (ye 9)) (BLK3 0 (SEQ3 (W M c (ye 19)) Q)) ((8,(.int .i64 0))::E) D H) /\
 (∀ Q E D H,W M c (ye 19) true Q E D H =
  Lz E 7 fun g t7=>Bn g .gtr t7 (.int .i64 1000) fun g t25=>JN (fun (k:Bool->AV->AV->AV->AHeap->Prop)=>B3 g (wantV false (some t25)) fun g w=>IG3 g w (fun g=>Ly g E 1 fun g t1=>B3 g (Op.lenSl [t1]) fun g t28=>Bn g .gtr t28 (.int .i64 5000) fun g t29=>k g t29 t28 t1 H) (fun g=>k g uu uu uu H)) (fun g t29_1 t28_1 t27_1 H1=>B3 g (Op.pick [t25,(.bool true),t29_1]) fun g t30=>JN (fun (k:Bool->AV->AV->AV->AHeap->Prop)=>B3 g (wantV false (some t30)) fun g w=>IG3 g w (fun g=>Ly g E 2 fun g t2=>Bn g .gtr t2 (.int .i64 2000) fun g t33=>k g t33 t33 t2 H1) (fun g=>k g uu uu uu H1)) (fun g t34_1 t33_1 t32_1 H2=>JN (fun (k:Bool->AV->AV->AHeap->Prop)=>B3 g (wantV true (some t34_1)) fun g w=>IG3 g w (fun g=>Ly g E 2 fun g t2_1=>Bn g .leq t2_1 (.int .i64 1048576) fun g t36=>k g t36 t2_1 H2) (fun g=>k g uu uu H2)) (fun g t36_1 t35_1 H3=>JN (fun (k:Bool->AV->AHeap->Prop)=>B3 g (wantV false (some t30)) fun g w=>IG3 g w (fun g=>B3 g (Op.pick [t34_1,t36_1,(.bool false)]) fun g t37=>k g t37 H3) (fun g=>k g uu H3)) (fun g t37_1 H4=>B3 g (Op.pick [t30,(.bool true),t37_1]) fun g t38=>IF3 g t38 (fun g=>GO3 g (SEQ3 (W M c (ye 27)) Q) .ret ((6,(.int .i64 1))::E) D H4) (fun g=>Gt g M c (ye 27) Q E D H4)))))) /\
 (∀ Q E D H,W M c (ye 9) true Q E D H =
  Lz E 8 fun g t8=>Ly g E 0 fun g t0=>B3 g (Op.lenSl [t0]) fun g t11=>Cb g .lss t8 t11 (fun g=>Gt g M c (ye 15) Q E D H) (fun g=>GO3 g (SEQ3 (W M c (ye 15)) Q) (.exit 0) E D H)) /\
 (∀ Q E D H,W M c (ye 27) true Q E D H =
  GO3 true Q .ret ((6,(.int .i64 0))::E) D H) /\
 (∀ Q E D H,W M c (ye 15) true Q E D H =
  Lz E 7 fun g t7=>Bn g .add t7 (.int .i64 1) fun g t16=>Ly g E 0 fun g t0=>Ly g E 8 fun g t8=>B3 g ((Op.indexSl 3) [t0,t8]) fun g t19=>Fl g 2 t19 H fun g t21=>B3 g (Op.lenSl [t21]) fun g t22=>Bn g .add t16 t22 fun g t23=>GO3 g (BLK3 1 (SEQ3 (W M c (ye 18)) Q)) .normal ((7,t23)::E) D H) /\
 (∀ Q E D H,W M c (ye 18) true Q E D H =
  Lz E 8 fun g t8=>Bn g .add t8 (.int .i64 1) fun g t14=>GO3 g Q .normal ((8,t14)::E) D H):=by (repeat' apply And.intro)<;>(intro _ _ _ _;refine W_unf ?_;kernel_rfl)
theorem qyp:(cProg Tryd.prog).func qdv=some qlu/\qlu.results=[.tmp 6]:=x9 (by kernel_rfl)
theorem qyq (h:W M ⟨none,qdv⟩ (ye 0) true (FIN3 M [.tmp 6] Q) [(0,a0),(1,a1),(2,a2)] [] H):yb M qdv [a0,a1,a2] H Q:=callf (by decide) qyp (ks:=qqc) (by kernel_rfl) h
def qmb:AFunc:=funcAt Tryd.prog qce
def qqs:Kp:=⟨[0,1,4,5],false,[0,2,10,15,21,30,31]⟩
def kr (k:Nat):Kp × ACode:=(qqs,part qmb.body k)
theorem qzp (M:Mac) (c:Ctx):(∀ Q E D H,W M c (kr 0) true Q E D H =
 W M c (kr 2) true Q ((4,(.bool false))::E) D H) /\
 (∀ Q E D H,W M c (kr 2) true Q E D H =
  Lz E 0 fun g t0=>B3 g (Op.lenSl [t0]) fun g t7=>Ly g E 1 fun g t1=>B3 g (Op.lenSl [t1]) fun g t9=>Cb g .neq t7 t9 (fun g=>GO3 g (SEQ3 (W M c (kr 10)) Q) .ret ((4,(.bool false))::E) D H) (fun g=>Gt g M c (kr 10) Q E D H)) /\
 (∀ Q E D H,W M c (kr 10) true Q E D H =
  LOOP3 (W M c (kr 15)) (BLK3 0 (SEQ3 (W M c (kr 31)) Q)) ((5,(.int .i64 0))::E) D H) /\
 (∀ Q E D H,W M c (kr 31) true Q E D H =
  GO3 true Q .ret ((4,(.bool true))::E) D H) /\
 (∀ Q E D H,W M c (kr 15) true Q E D H =
  Lz E 5 fun g t5=>Ly g E 0 fun g t0=>B3 g (Op.lenSl [t0]) fun g t13=>Cb g .lss t5 t13 (fun g=>Gt g M c (kr 21) Q E D H) (fun g=>GO3 g (SEQ3 (W M c (kr 21)) Q) (.exit 0) E D H)) /\
 (∀ Q E D H,W M c (kr 21) true Q E D H =
  Lz E 0 fun g t0=>Ly g E 5 fun g t5=>Xl g t0 t5 H fun g t20=>Ly g E 1 fun g t1=>Xl g t1 t5 H fun g t24=>Cb g .neq t20 t24 (fun g=>GO3 g (BLK3 1 (SEQ3 (W M c (kr 30)) Q)) .ret ((4,(.bool false))::E) D H) (fun g=>GO3 g (BLK3 1 (SEQ3 (W M c (kr 30)) Q)) .normal E D H)) /\
 (∀ Q E D H,W M c (kr 30) true Q E D H =
  Lz E 5 fun g t5=>Bn g .add t5 (.int .i64 1) fun g t16=>GO3 g Q .normal ((5,t16)::E) D H):=by (repeat' apply And.intro)<;>(intro _ _ _ _;refine W_unf ?_;kernel_rfl)
theorem qzn:(cProg Tryd.prog).func qce=some qmb/\qmb.results=[.tmp 4]:=x9 (by kernel_rfl)
theorem qzo (h:W M ⟨none,qce⟩ (kr 0) true (FIN3 M [.tmp 4] Q) [(0,a0),(1,a1)] [] H):yb M qce [a0,a1] H Q:=callf (by decide) qzn (ks:=qqs) (by kernel_rfl) h
end
end Go.Am
namespace Go.Am
abbrev qar:Nat:=7
abbrev ya:Nat:=49
abbrev qhd:Nat:=28
abbrev qa9:Nat:=23
abbrev qf8:Nat:=25
abbrev qby:Nat:=80
abbrev qba:Nat:=81
abbrev vc:Nat:=29
abbrev qf9:Nat:=82
abbrev xb:Nat:=46
noncomputable section
open Go.Proofs Go.Proofs.YtbimikjajohflaaDoor
variable {M:Mac} [MK M] {H:AHeap} {Q:AEnd->AHeap->Prop} {a0 a1 a2 a3 a4:AV}
def qh6:AFunc:=funcAt Tryd.prog qar
def qmi:Kp:=⟨[0,1,2,3,6,8,9,10,11,12,13,14,15,16],false,[0,2,10,14,16,24,29,35,38,39,41,46,52,55,56]⟩
def xh (k:Nat):Kp × ACode:=(qmi,part qh6.body k)
theorem qmj (M:Mac) (c:Ctx):(∀ Q E D H,W M c (xh 0) true Q E D H =
 Lz E 2 fun g t2=>A3 g T__21 (AV.cells t2) H fun g t6 H1=>W M c (xh 2) g Q ((8,(.bool false))::(6,t6)::E) D H1) /\
 (∀ Q E D H,W M c (xh 2) true Q E D H =
  Lz E 0 fun g t0=>Ly g E 1 fun g t1=>Ly g E 3 fun g t3=>C3 M g (.func qdv) [t0,t1,t3] H fun g t20 H1=>Cb g .gtr t20 (.int .i64 0) (fun g=>GO3 g (SEQ3 (W M c (xh 10)) Q) .ret ((8,(.bool true))::E) D H1) (fun g=>Gt g M c (xh 10) Q E D H1)) /\
 (∀ Q E D H,W M c (xh 10) true Q E D H =
  B32 true ((Op.buildSlice je 0 [(.int .u64 0)] []) []) fun g o1 k1=>Ly g E 1 fun g t1=>B32 g ((Op.append je 1 8) [(k1 H.next),t1] (H.alloc o1)) fun g t24 H2=>Ly g E 0 fun g t0=>Ly g E 6 fun g t6=>B3 g ((Op.loadN 8) [t6] H2) fun g t28=>Ly g E 3 fun g t3=>C3 M g (.func qe7) [t0,t24,t28,t3] H2 fun g t30 H3=>B3 g ((Op.extract 0) [t30]) fun g t31=>B3 g ((Op.extract 1) [t30]) fun g t32=>A3 g j0 [.nils,(.int .u64 0),(.int .u64 0),(.int .u64 0),(.int .u64 0),(.int .u64 0),(.int .u64 0),(.int .u64 0),(.int .u64 0),(.int .i64 0),(.int .i64 0),(.int .i64 0),(.int .i64 0)] H3 fun g t10 H4=>B32 g ((Op.store 13) [t10,t31] H4) fun g u H5=>W M c (xh 14) g Q ((11,t32)::(10,t10)::(9,t24)::E) D H5) /\
 (∀ Q E D H,W M c (xh 14) true Q E D H =
  Lz E 0 fun g t0=>B3 g (Op.lenSl [t0]) fun g t36=>Bn g .sub t36 (.int .i64 1) fun g t37=>Ly g E 1 fun g t1=>Ly g E 6 fun g t6=>B3 g ((Op.loadN 8) [t6] H) fun g t39=>Ly g E 3 fun g t3=>C3 M g (.func qa9) [t0,t37,t1,t39,t3] H fun g t41 H1=>B3 g ((Op.extract 0) [t41]) fun g t42=>B3 g ((Op.extract 1) [t41]) fun g t43=>A3 g xb [.nils,(.int .u64 0),(.int .u64 0),(.int .u64 0),(.int .u64 0),(.int .u64 0),(.int .u64 0),(.int .u64 0),(.int .u64 0),(.int .i64 0),(.int .i64 0),(.bool false),(.int .i64 0)] H1 fun g t12 H2=>B32 g ((Op.store 13) [t12,t42] H2) fun g u H3=>W M c (xh 16) g Q ((13,t43)::(12,t12)::E) D H3) /\
 (∀ Q E D H,W M c (xh 16) true Q E D H =
  Lz E 9 fun g t9=>Ly g E 1 fun g t1=>C3 M g (.func qce) [t9,t1] H fun g t46 H1=>B3 g ((Op.un .not) [t46]) fun g t47=>JN (fun (k:Bool->AV->AV->AV->AHeap->Prop)=>B3 g (wantV false (some t47)) fun g w=>IG3 g w (fun g=>Ly g E 11 fun g t11=>Ly g E 13 fun g t13=>Bn g .neq t11 t13 fun g t51=>k g t51 t13 t11 H1) (fun g=>k g uu uu uu H1)) (fun g t51_1 t50_1 t49_1 H2=>B3 g (Op.pick [t47,(.bool true),t51_1]) fun g t52=>IF3 g t52 (fun g=>GO3 g (SEQ3 (W M c (xh 24)) Q) .ret ((8,(.bool false))::E) D H2) (fun g=>Gt g M c (xh 24) Q E D H2))) /\
 (∀ Q E D H,W M c (xh 24) true Q E D H =
  LOOP3 (W M c (xh 29)) (BLK3 0 (SEQ3 (W M c (xh 39)) Q)) ((14,(.int .i64 0))::E) D H) /\
 (∀ Q E D H,W M c (xh 39) true Q E D H =
  Lz E 9 fun g t9=>Ly g E 1 fun g t1=>C3 M g (.func qce) [t9,t1] H fun g t69 H1=>W M c (xh 41) g Q ((15,t69)::E) D H1) /\
 (∀ Q E D H,W M c (xh 29) true Q E D H =
  Lz E 14 fun g t14=>Ly g E 10 fun g t10=>Fl g 0 t10 H fun g t55=>B3 g (Op.lenSl [t55]) fun g t56=>Cb g .lss t14 t56 (fun g=>Gt g M c (xh 35) Q E D H) (fun g=>GO3 g (SEQ3 (W M c (xh 35)) Q) (.exit 0) E D H)) /\
 (∀ Q E D H,W M c (xh 41) true Q E D H =
  LOOP3 (W M c (xh 46)) (BLK3 2 (SEQ3 (W M c (xh 56)) Q)) ((16,(.int .i64 0))::E) D H) /\
 (∀ Q E D H,W M c (xh 35) true Q E D H =
  Lz E 10 fun g t10=>Fl g 0 t10 H fun g t61=>Ly g E 14 fun g t14=>Xl g t61 t14 H fun g t64=>Bn g .add t64 (.int .u64 1) fun g t65=>Xs g t61 t14 t65 H fun g u H1=>GO3 g (BLK3 1 (SEQ3 (W M c (xh 38)) Q)) .normal E D H1) /\
 (∀ Q E D H,W M c (xh 56) true Q E D H =
  Lz E 15 fun g t15=>JN (fun (k:Bool->AV->AV->AV->AHeap->Prop)=>B3 g (wantV true (some t15)) fun g w=>IG3 g w (fun g=>Ly g E 10 fun g t10=>B3 g ((Op.loadN 13) [t10] H) fun g t86=>Ly g E 12 fun g t12=>B3 g ((Op.loadN 13) [t12] H) fun g t87=>C3 M g (.func qf8) [t86,t87] H fun g t88 H1=>k g t88 t87 t86 H1) (fun g=>k g uu uu uu H)) (fun g t88_1 t87_1 t86_1 H2=>B3 g (Op.pick [t15,t88_1,(.bool false)]) fun g t89=>GO3 g Q .ret ((8,t89)::E) D H2)) /\
 (∀ Q E D H,W M c (xh 46) true Q E D H =
  Lz E 16 fun g t16=>Ly g E 10 fun g t10=>Fl g 0 t10 H fun g t72=>B3 g (Op.lenSl [t72]) fun g t73=>Cb g .lss t16 t73 (fun g=>Gt g M c (xh 52) Q E D H) (fun g=>GO3 g (SEQ3 (W M c (xh 52)) Q) (.exit 2) E D H)) /\
 (∀ Q E D H,W M c (xh 38) true Q E D H =
  Lz E 14 fun g t14=>Bn g .add t14 (.int .i64 1) fun g t59=>GO3 g Q .normal ((14,t59)::E) D H) /\
 (∀ Q E D H,W M c (xh 52) true Q E D H =
  Lz E 10 fun g t10=>Fl g 0 t10 H fun g t78=>Ly g E 16 fun g t16=>Xl g t78 t16 H fun g t81=>Bn g .sub t81 (.int .u64 1) fun g t82=>Xs g t78 t16 t82 H fun g u H1=>GO3 g (BLK3 3 (SEQ3 (W M c (xh 55)) Q)) .normal E D H1) /\
 (∀ Q E D H,W M c (xh 55) true Q E D H =
  Lz E 16 fun g t16=>Bn g .add t16 (.int .i64 1) fun g t76=>GO3 g Q .normal ((16,t76)::E) D H):=by (repeat' apply And.intro)<;>(intro _ _ _ _;refine W_unf ?_;kernel_rfl)
theorem qtg:(cProg Tryd.prog).func qar=some qh6/\qh6.results=[.tmp 8]:=x9 (by kernel_rfl)
theorem qth (h:W M ⟨none,qar⟩ (xh 0) true (FIN3 M [.tmp 8] Q) [(0,a0),(1,a1),(2,a2),(3,a3)] [] H):yb M qar [a0,a1,a2,a3] H Q:=callf (by decide) qtg (ks:=qmi) (by kernel_rfl) h
def qpf:AFunc:=funcAt Tryd.prog qa9
def qv9:Kp:=⟨[0,1,2,3,4,8,10,11,12,13],false,[0,4,12]⟩
def qew (k:Nat):Kp × ACode:=(qv9,part qpf.body k)
theorem qpg (M:Mac) (c:Ctx):(∀ Q E D H,W M c (qew 0) true Q E D H =
 Lz E 3 fun g t3=>A3 g T__21 (AV.cells t3) H fun g t8 H1=>A3 g xb [.nils,(.int .u64 0),(.int .u64 0),(.int .u64 0),(.int .u64 0),(.int .u64 0),(.int .u64 0),(.int .u64 0),(.int .u64 0),(.int .i64 0),(.int .i64 0),(.bool false),(.int .i64 0)] H1 fun g t10 H2=>Ly g E 0 fun g t0=>Ly g E 2 fun g t2=>Ly g E 4 fun g t4=>C3 M g (.func qhd) [t0,t2,t4] H2 fun g t17 H3=>W M c (qew 4) g Q ((12,t17)::(11,(.int .i64 0))::(10,t10)::(8,t8)::E) D H3) /\
 (∀ Q E D H,W M c (qew 4) true Q E D H =
  Lz E 12 fun g t12=>B3 g ((Op.un .not) [t12]) fun g t19=>JN (fun (k:Bool->AV->AV->AHeap->Prop)=>B3 g (wantV false (some t19)) fun g w=>IG3 g w (fun g=>Ly g E 1 fun g t1=>Bn g .lss t1 (.int .i64 0) fun g t22=>k g t22 t1 H) (fun g=>k g uu uu H)) (fun g t22_1 t21_1 H1=>B3 g (Op.pick [t19,(.bool true),t22_1]) fun g t23=>JN (fun (k:Bool->AV->AV->AV->AV->AHeap->Prop)=>B3 g (wantV false (some t23)) fun g w=>IG3 g w (fun g=>Ly g E 1 fun g t1_1=>Ly g E 0 fun g t0=>B3 g (Op.lenSl [t0]) fun g t27=>Bn g .geq t1_1 t27 fun g t28=>k g t28 t27 t0 t1_1 H1) (fun g=>k g uu uu uu uu H1)) (fun g t28_1 t27_1 t26_1 t25_1 H2=>B3 g (Op.pick [t23,(.bool true),t28_1]) fun g t29=>JN (fun (k:Bool->AV->AV->AV->AV->AV->AV->AHeap->Prop)=>B3 g (wantV false (some t29)) fun g w=>IG3 g w (fun g=>Ly g E 0 fun g t0_1=>Ly g E 1 fun g t1_2=>B3 g ((Op.indexSl 3) [t0_1,t1_2]) fun g t33=>B3 g ((Op.fieldAddr 0) [t33]) fun g t34=>B3 g (Op.load1 [t34] H2) fun g t35=>Bn g .lss t35 (.int .i64 14) fun g t36=>k g t36 t35 t34 t33 t1_2 t0_1 H2) (fun g=>k g uu uu uu uu uu uu H2)) (fun g t36_1 t35_1 t34_1 t33_1 t32_1 t31_1 H3=>B3 g (Op.pick [t29,(.bool true),t36_1]) fun g t37=>IF3 g t37 (fun g=>B3 g ((Op.build [.nils,(.int .u64 0),(.int .u64 0),(.int .u64 0),(.int .u64 0),(.int .u64 0),(.int .u64 0),(.int .u64 0),(.int .u64 0),(.int .i64 0),(.int .i64 0),(.bool false),(.int .i64 0)] []) []) fun g t38=>Ly g E 10 fun g t10=>B32 g ((Op.store 13) [t10,t38] H3) fun g u H4=>GO3 g (SEQ3 (W M c (qew 12)) Q) .ret ((11,(.int .i64 2))::E) D H4) (fun g=>Gt g M c (qew 12) Q E D H3))))) /\
 (∀ Q E D H,W M c (qew 12) true Q E D H =
  Lz E 2 fun g t2=>Ly g E 8 fun g t8=>B3 g ((Op.loadN 8) [t8] H) fun g t42=>Ly g E 4 fun g t4=>B32 g ((Op.buildSlice je 0 [(.int .u64 0)] []) []) fun g o1 k1=>B32 g ((Op.append je 1 8) [(k1 H.next),t2] (H.alloc o1)) fun g t41 H2=>CK3 g ((Op.loadN 8) [t8] H2) (some t42) fun g=>B3 g ((Op.build [.nils,(.int .u64 0),(.int .u64 0),(.int .u64 0),(.int .u64 0),(.int .u64 0),(.int .u64 0),(.int .u64 0),(.int .u64 0),(.int .i64 0),(.int .i64 0),(.bool false),(.int .i64 0)] [(0,1),(1,8),(9,1)]) [t41,t42,t4]) fun g t44=>A3 g xb [.nils,(.int .u64 0),(.int .u64 0),(.int .u64 0),(.int .u64 0),(.int .u64 0),(.int .u64 0),(.int .u64 0),(.int .u64 0),(.int .i64 0),(.int .i64 0),(.bool false),(.int .i64 0)] H2 fun g t13 H3=>B32 g ((Op.store 13) [t13,t44] H3) fun g u H4=>Ly g E 0 fun g t0=>Ly g E 1 fun g t1=>C3 M g (.func ya) [t0,t1,t13,(.bool false)] H4 fun g t47 H5=>B3 g ((Op.loadN 13) [t13] H5) fun g t48=>Ly g E 10 fun g t10=>B32 g ((Op.store 13) [t10,t48] H5) fun g u_1 H6=>GO3 g Q .ret ((11,(.int .i64 0))::(13,t13)::E) D H6):=by (repeat' apply And.intro)<;>(intro _ _ _ _;refine W_unf ?_;kernel_rfl)
theorem q3t:(cProg Tryd.prog).func qa9=some qpf/\qpf.results=[.cellN 13 10,.tmp 11]:=x9 (by kernel_rfl)
theorem q3u (h:W M ⟨none,qa9⟩ (qew 0) true (FIN3 M [.cellN 13 10,.tmp 11] Q) [(0,a0),(1,a1),(2,a2),(3,a3),(4,a4)] [] H):yb M qa9 [a0,a1,a2,a3,a4] H Q:=callf (by decide) q3t (ks:=qv9) (by kernel_rfl) h
def qnk:AFunc:=funcAt Tryd.prog qf8
def qs7:Kp:=⟨[0,1,2,3,4],false,[0]⟩
def qs8 (k:Nat):Kp × ACode:=(qs7,part qnk.body k)
theorem qs9 (M:Mac) (c:Ctx):(∀ Q E D H,W M c (qs8 0) true Q E D H =
 Lz E 0 fun g t0=>A3 g j0 (AV.cells t0) H fun g t2 H1=>Ly g E 1 fun g t1=>A3 g xb (AV.cells t1) H1 fun g t3 H2=>Fl g 0 t2 H2 fun g t6=>Fl g 0 t3 H2 fun g t8=>C3 M g (.func qce) [t6,t8] H2 fun g t9 H3=>JN (fun (k:Bool->AV->AV->AV->AV->AV->AHeap->Prop)=>B3 g (wantV true (some t9)) fun g w=>IG3 g w (fun g=>B3 g ((Op.fieldAddr 1) [t2]) fun g t11=>B3 g ((Op.loadN 8) [t11] H3) fun g t12=>B3 g ((Op.fieldAddr 1) [t3]) fun g t13=>B3 g ((Op.loadN 8) [t13] H3) fun g t14=>B3 g ((Op.eq (.agg (.part 0 none .int (.part 1 none .int (.part 2 none .int (.part 3 none .int (.part 4 none .int (.part 5 none .int (.part 6 none .int (.part 7 none .int .nil))))))))) false) [t12,t14] H3) fun g t15=>k g t15 t14 t13 t12 t11 H3) (fun g=>k g uu uu uu uu uu H3)) (fun g t15_1 t14_1 t13_1 t12_1 t11_1 H4=>B3 g (Op.pick [t9,t15_1,(.bool false)]) fun g t16=>JN (fun (k:Bool->AV->AV->AV->AHeap->Prop)=>B3 g (wantV true (some t16)) fun g w=>IG3 g w (fun g=>B3 g ((Op.fieldAddr 9) [t2]) fun g t18=>B3 g (Op.load1 [t18] H4) fun g t19=>Bn g .eql t19 (.int .i64 0) fun g t20=>k g t20 t19 t18 H4) (fun g=>k g uu uu uu H4)) (fun g t20_1 t19_1 t18_1 H5=>B3 g (Op.pick [t16,t20_1,(.bool false)]) fun g t21=>JN (fun (k:Bool->AV->AV->AV->AV->AV->AHeap->Prop)=>B3 g (wantV true (some t21)) fun g w=>IG3 g w (fun g=>B3 g ((Op.fieldAddr 10) [t2]) fun g t23=>B3 g (Op.load1 [t23] H5) fun g t24=>B3 g ((Op.fieldAddr 9) [t3]) fun g t25=>B3 g (Op.load1 [t25] H5) fun g t26=>Bn g .eql t24 t26 fun g t27=>k g t27 t26 t25 t24 t23 H5) (fun g=>k g uu uu uu uu uu H5)) (fun g t27_1 t26_1 t25_1 t24_1 t23_1 H6=>B3 g (Op.pick [t21,t27_1,(.bool false)]) fun g t28=>JN (fun (k:Bool->AV->AV->AV->AV->AV->AHeap->Prop)=>B3 g (wantV true (some t28)) fun g w=>IG3 g w (fun g=>B3 g ((Op.fieldAddr 11) [t2]) fun g t30=>B3 g (Op.load1 [t30] H6) fun g t31=>B3 g ((Op.fieldAddr 10) [t3]) fun g t32=>B3 g (Op.load1 [t32] H6) fun g t33=>Bn g .eql t31 t33 fun g t34=>k g t34 t33 t32 t31 t30 H6) (fun g=>k g uu uu uu uu uu H6)) (fun g t34_1 t33_1 t32_1 t31_1 t30_1 H7=>B3 g (Op.pick [t28,t34_1,(.bool false)]) fun g t35=>JN (fun (k:Bool->AV->AV->AV->AV->AV->AHeap->Prop)=>B3 g (wantV true (some t35)) fun g w=>IG3 g w (fun g=>B3 g ((Op.fieldAddr 12) [t2]) fun g t37=>B3 g (Op.load1 [t37] H7) fun g t38=>B3 g ((Op.fieldAddr 12) [t3]) fun g t39=>B3 g (Op.load1 [t39] H7) fun g t40=>Bn g .eql t38 t40 fun g t41=>k g t41 t40 t39 t38 t37 H7) (fun g=>k g uu uu uu uu uu H7)) (fun g t41_1 t40_1 t39_1 t38_1 t37_1 H8=>B3 g (Op.pick [t35,t41_1,(.bool false)]) fun g t42=>GO3 g Q .ret ((4,t42)::(4,(.bool false))::(3,t3)::(2,t2)::E) D H8)))))):=by intro _ _ _ _;refine W_unf ?_;kernel_rfl
theorem q15:(cProg Tryd.prog).func qf8=some qnk/\qnk.results=[.tmp 4]:=x9 (by kernel_rfl)
theorem q16 (h:W M ⟨none,qf8⟩ (qs8 0) true (FIN3 M [.tmp 4] Q) [(0,a0),(1,a1)] [] H):yb M qf8 [a0,a1] H Q:=callf (by decide) q15 (ks:=qs7) (by kernel_rfl) h
def qpe:AFunc:=funcAt Tryd.prog qhd
def qv7:Kp:=⟨[0,1,2,6,8],false,[0]⟩
def qv8 (k:Nat):Kp × ACode:=(qv7,part qpe.body k)
theorem qhl (M:Mac) (c:Ctx):(∀ Q E D H,W M c (qv8 0) true Q E D H =
 Lz E 0 fun g t0=>C3 M g (.func yq) [t0] H fun g t11 H1=>B3 g ((Op.extract 0) [t11]) fun g t12=>B3 g ((Op.extract 1) [t11]) fun g t13=>Bn g .eql t13 (.int .i64 0) fun g t15=>JN (fun (k:Bool->AV->AV->AV->AHeap->Prop)=>B3 g (wantV true (some t15)) fun g w=>IG3 g w (fun g=>Ly g E 1 fun g t1=>B3 g (Op.lenSl [t1]) fun g t18=>Bn g .leq t18 (.int .i64 4096) fun g t19=>k g t19 t18 t1 H1) (fun g=>k g uu uu uu H1)) (fun g t19_1 t18_1 t17_1 H2=>B3 g (Op.pick [t15,t19_1,(.bool false)]) fun g t20=>JN (fun (k:Bool->AV->AV->AHeap->Prop)=>B3 g (wantV true (some t20)) fun g w=>IG3 g w (fun g=>Ly g E 2 fun g t2=>Bn g .geq t2 (.int .i64 0) fun g t23=>k g t23 t2 H2) (fun g=>k g uu uu H2)) (fun g t23_1 t22_1 H3=>B3 g (Op.pick [t20,t23_1,(.bool false)]) fun g t24=>JN (fun (k:Bool->AV->AV->AHeap->Prop)=>B3 g (wantV true (some t24)) fun g w=>IG3 g w (fun g=>Ly g E 2 fun g t2_1=>Bn g .leq t2_1 (.int .i64 1048576) fun g t27=>k g t27 t2_1 H3) (fun g=>k g uu uu H3)) (fun g t27_1 t26_1 H4=>B3 g (Op.pick [t24,t27_1,(.bool false)]) fun g t28=>GO3 g Q .ret ((6,t28)::(8,t13)::(6,(.bool false))::E) D H4)))):=by intro _ _ _ _;refine W_unf ?_;kernel_rfl
theorem q3r:(cProg Tryd.prog).func qhd=some qpe/\qpe.results=[.tmp 6]:=x9 (by kernel_rfl)
theorem q3s (h:W M ⟨none,qhd⟩ (qv8 0) true (FIN3 M [.tmp 6] Q) [(0,a0),(1,a1),(2,a2)] [] H):yb M qhd [a0,a1,a2] H Q:=callf (by decide) q3r (ks:=qv7) (by kernel_rfl) h
def qma:AFunc:=funcAt Tryd.prog vc
def qqr:Kp:=⟨[0,1,2,6,7,8,9,10,11,12,13,82],false,[0,4,12,20,22,26,34,38,40,48,64,76,83,88,94,101,102]⟩
def xk (k:Nat):Kp × ACode:=(qqr,part qma.body k)
theorem qd2 (M:Mac) (c:Ctx):(∀ Q E D H,W M c (xk 0) true Q E D H =
 Lz E 0 fun g t0=>Ly g E 1 fun g t1=>B3 g ((Op.indexSl 3) [t0,t1]) fun g t16=>B3 g ((Op.loadN 3) [t16] H) fun g t17=>A3 g qj [(.int .i64 0),(.int .u64 0),.nils] H fun g t8 H1=>B32 g ((Op.store 3) [t8,t17] H1) fun g u H2=>W M c (xk 4) g Q ((8,t8)::(7,(.bool false))::(6,(.int .u64 0))::E) D H2) /\
 (∀ Q E D H,W M c (xk 4) true Q E D H =
  Lz E 8 fun g t8=>Fl g 0 t8 H fun g t19=>Cb g .eql t19 (.int .i64 1) (fun g=>Ly g E 8 fun g t8_1=>Fl g 1 t8_1 H fun g t22=>GO3 g (SEQ3 (W M c (xk 12)) Q) .ret ((7,(.bool true))::(6,t22)::E) D H) (fun g=>Gt g M c (xk 12) Q E D H)) /\
 (∀ Q E D H,W M c (xk 12) true Q E D H =
  Lz E 8 fun g t8=>Fl g 0 t8 H fun g t24=>Cb g .eql t24 (.int .i64 2) (fun g=>Ly g E 2 fun g t2=>Ly g E 8 fun g t8_1=>Fl g 1 t8_1 H fun g t28=>B3 g (Op.nilCheck [t2]) fun g t29=>B3 g ((Op.fieldAddr 1) [t29]) fun g t30=>B3 g ((Op.indexArr 8 1) [t30,t28]) fun g t31=>B3 g (Op.load1 [t31] H) fun g t32=>GO3 g (SEQ3 (W M c (xk 20)) Q) .ret ((7,(.bool true))::(6,t32)::E) D H) (fun g=>Gt g M c (xk 20) Q E D H)) /\
 (∀ Q E D H,W M c (xk 20) true Q E D H =
  Lz E 0 fun g t0=>Ly g E 8 fun g t8=>Fl g 2 t8 H fun g t36=>Xl g t36 (.int .i64 0) H fun g t38=>Ly g E 2 fun g t2=>C3 M g (.func vc) [t0,t38,t2] H fun g t40 H1=>B3 g ((Op.extract 0) [t40]) fun g t41=>B3 g ((Op.extract 1) [t40]) fun g t42=>W M c (xk 22) g Q ((10,t42)::(9,t41)::E) D H1) /\
 (∀ Q E D H,W M c (xk 22) true Q E D H =
  Lz E 8 fun g t8=>Fl g 0 t8 H fun g t44=>Cb g .eql t44 (.int .i64 3) (fun g=>W M c (xk 26) g (SEQ3 (W M c (xk 38)) Q) E D H) (fun g=>Gt g M c (xk 38) Q E D H)) /\
 (∀ Q E D H,W M c (xk 38) true Q E D H =
  Lz E 0 fun g t0=>Ly g E 8 fun g t8=>Fl g 2 t8 H fun g t68=>Xl g t68 (.int .i64 1) H fun g t70=>Ly g E 2 fun g t2=>C3 M g (.func vc) [t0,t70,t2] H fun g t72 H1=>B3 g ((Op.extract 0) [t72]) fun g t73=>B3 g ((Op.extract 1) [t72]) fun g t74=>W M c (xk 40) g Q ((12,t74)::(11,t73)::E) D H1) /\
 (∀ Q E D H,W M c (xk 26) true Q E D H =
  Lz E 10 fun g t10=>B3 g ((Op.un .not) [t10]) fun g t47=>JN (fun (k:Bool->AV->AV->AV->AV->AV->AV->AV->AV->AHeap->Prop)=>B3 g (wantV false (some t47)) fun g w=>IG3 g w (fun g=>Ly g E 9 fun g t9=>Ly g E 2 fun g t2=>B3 g (Op.nilCheck [t2]) fun g t51=>B3 g ((Op.fieldAddr 0) [t51]) fun g t52=>B3 g (Op.load1 [t52] H) fun g t53=>B3 g (Op.lenSl [t53]) fun g t54=>B3 g ((Op.wrap .u64) [t54]) fun g t55=>Bn g .geq t9 t55 fun g t56=>k g t56 t55 t54 t53 t52 t51 t2 t9 H) (fun g=>k g uu uu uu uu uu uu uu uu H)) (fun g t56_1 t55_1 t54_1 t53_1 t52_1 t51_1 t50_1 t49_1 H1=>B3 g (Op.pick [t47,(.bool true),t56_1]) fun g t57=>IF3 g t57 (fun g=>GO3 g (SEQ3 (W M c (xk 34)) Q) .ret ((7,(.bool false))::(6,(.int .u64 0))::E) D H1) (fun g=>Gt g M c (xk 34) Q E D H1))) /\
 (∀ Q E D H,W M c (xk 40) true Q E D H =
  Lz E 10 fun g t10=>B3 g ((Op.un .not) [t10]) fun g t76=>JN (fun (k:Bool->AV->AV->AHeap->Prop)=>B3 g (wantV false (some t76)) fun g w=>IG3 g w (fun g=>Ly g E 12 fun g t12=>B3 g ((Op.un .not) [t12]) fun g t79=>k g t79 t12 H) (fun g=>k g uu uu H)) (fun g t79_1 t78_1 H1=>B3 g (Op.pick [t76,(.bool true),t79_1]) fun g t80=>IF3 g t80 (fun g=>GO3 g (SEQ3 (W M c (xk 48)) Q) .ret ((7,(.bool false))::(6,(.int .u64 0))::E) D H1) (fun g=>Gt g M c (xk 48) Q E D H1))) /\
 (∀ Q E D H,W M c (xk 34) true Q E D H =
  Lz E 2 fun g t2=>Nf g 0 t2 H fun g t61=>Ly g E 9 fun g t9=>Xl g t61 t9 H fun g t64=>GO3 g Q .ret ((7,(.bool true))::(6,t64)::E) D H) /\
 (∀ Q E D H,W M c (xk 48) true Q E D H =
  Lz E 8 fun g t8=>Fl g 0 t8 H fun g t82=>Cb g .eql t82 (.int .i64 4) (fun g=>Ly g E 9 fun g t9=>Ly g E 11 fun g t11=>Bn g .add t9 t11 fun g t87=>GO3 g (BLK3 0 (SEQ3 (W M c (xk 83)) Q)) .ret ((7,(.bool true))::(6,t87)::(82,t82)::E) D H) (fun g=>Cb g .eql t82 (.int .i64 5) (fun g=>Ly g E 9 fun g t9=>Ly g E 11 fun g t11=>Bn g .sub t9 t11 fun g t92=>GO3 g (BLK3 0 (SEQ3 (W M c (xk 83)) Q)) .ret ((7,(.bool true))::(6,t92)::(82,t82)::E) D H) (fun g=>W M c (xk 64) g (BLK3 0 (SEQ3 (W M c (xk 83)) Q)) ((82,t82)::E) D H))) /\
 (∀ Q E D H,W M c (xk 83) true Q E D H =
  LOOP3 (W M c (xk 88)) (BLK3 1 (SEQ3 (W M c (xk 102)) Q)) ((13,(.int .u64 0))::E) D H) /\
 (∀ Q E D H,W M c (xk 64) true Q E D H =
  Lz E 82 fun g t82=>Cb g .eql t82 (.int .i64 6) (fun g=>Ly g E 9 fun g t9=>Ly g E 11 fun g t11=>Bn g .mul t9 t11 fun g t97=>GO3 g Q .ret ((7,(.bool true))::(6,t97)::E) D H) (fun g=>Ly g E 82 fun g t82_1=>Cb g .eql t82_1 (.int .i64 7) (fun g=>Ly g E 9 fun g t9=>Ly g E 11 fun g t11=>Bn g .and t9 t11 fun g t102=>GO3 g Q .ret ((7,(.bool true))::(6,t102)::E) D H) (fun g=>W M c (xk 76) g Q E D H))) /\
 (∀ Q E D H,W M c (xk 102) true Q E D H =
  Lz E 9 fun g t9=>GO3 g Q .ret ((7,(.bool true))::(6,t9)::E) D H) /\
 (∀ Q E D H,W M c (xk 88) true Q E D H =
  Lz E 13 fun g t13=>Ly g E 11 fun g t11=>Bn g .rem t11 (.int .u64 64) fun g t110=>Cb g .lss t13 t110 (fun g=>Gt g M c (xk 94) Q E D H) (fun g=>GO3 g (SEQ3 (W M c (xk 94)) Q) (.exit 1) E D H)) /\
 (∀ Q E D H,W M c (xk 76) true Q E D H =
  Lz E 82 fun g t82=>Cb g .eql t82 (.int .i64 8) (fun g=>Ly g E 9 fun g t9=>Ly g E 11 fun g t11=>Bn g .xor t9 t11 fun g t107=>GO3 g Q .ret ((7,(.bool true))::(6,t107)::E) D H) (fun g=>GO3 g Q .normal E D H)) /\
 (∀ Q E D H,W M c (xk 94) true Q E D H =
  Lz E 8 fun g t8=>Fl g 0 t8 H fun g t115=>Cb g .eql t115 (.int .i64 9) (fun g=>Ly g E 9 fun g t9=>Bn g .mul t9 (.int .u64 2) fun g t118=>GO3 g (BLK3 2 (SEQ3 (W M c (xk 101)) Q)) .normal ((9,t118)::E) D H) (fun g=>Ly g E 9 fun g t9=>Bn g .quo t9 (.int .u64 2) fun g t120=>GO3 g (BLK3 2 (SEQ3 (W M c (xk 101)) Q)) .normal ((9,t120)::E) D H)) /\
 (∀ Q E D H,W M c (xk 101) true Q E D H =
  Lz E 13 fun g t13=>Bn g .add t13 (.int .u64 1) fun g t113=>GO3 g Q .normal ((13,t113)::E) D H):=by (repeat' apply And.intro)<;>(intro _ _ _ _;refine W_unf ?_;kernel_rfl)
theorem qzm:(cProg Tryd.prog).func vc=some qma/\qma.results=[.tmp 6,.tmp 7]:=x9 (by kernel_rfl)
theorem qiy (h:W M ⟨none,vc⟩ (xk 0) true (FIN3 M [.tmp 6,.tmp 7] Q) [(0,a0),(1,a1),(2,a2)] [] H):yb M vc [a0,a1,a2] H Q:=callf (by decide) qzm (ks:=qqr) (by kernel_rfl) h
def qr9:AFunc:=funcAt Tryd.prog ya
def qxs:Kp:=⟨[0,1,2,3,8,9,10,11,12,13,14,15,16,17,18,19,89],false,[0,2,6,11,17,20,21,23,27,30,36,39,45,47,53,59,60,62,64,70,78,86,90,95,100,106,112,120,124,133]⟩
def xc (k:Nat):Kp × ACode:=(qxs,part qr9.body k)
theorem qfi (M:Mac) (c:Ctx):(∀ Q E D H,W M c (xc 0) true Q E D H =
 Lz E 0 fun g t0=>Ly g E 1 fun g t1=>B3 g ((Op.indexSl 3) [t0,t1]) fun g t22=>B3 g ((Op.loadN 3) [t22] H) fun g t23=>A3 g qj [(.int .i64 0),(.int .u64 0),.nils] H fun g t8 H1=>B32 g ((Op.store 3) [t8,t23] H1) fun g u H2=>W M c (xc 2) g Q ((8,t8)::E) D H2) /\
 (∀ Q E D H,W M c (xc 2) true Q E D H =
  Lz E 8 fun g t8=>Fl g 0 t8 H fun g t25=>Cb g .eql t25 (.int .i64 20) (fun g=>W M c (xc 6) g (SEQ3 (W M c (xc 23)) Q) E D H) (fun g=>Gt g M c (xc 23) Q E D H)) /\
 (∀ Q E D H,W M c (xc 23) true Q E D H =
  Lz E 8 fun g t8=>Fl g 0 t8 H fun g t48=>Cb g .eql t48 (.int .i64 17) (fun g=>W M c (xc 27) g (SEQ3 (W M c (xc 62)) Q) E D H) (fun g=>Gt g M c (xc 62) Q E D H)) /\
 (∀ Q E D H,W M c (xc 6) true Q E D H =
  LOOP3 (W M c (xc 11)) (BLK3 0 (SEQ3 (W M c (xc 21)) Q)) ((9,(.int .i64 0))::E) D H) /\
 (∀ Q E D H,W M c (xc 62) true Q E D H =
  Lz E 2 fun g t2=>C3 M g (.func qba) [t2] H fun g t82 H1=>W M c (xc 64) g Q E D H1) /\
 (∀ Q E D H,W M c (xc 27) true Q E D H =
  LOOP3 (W M c (xc 30)) (BLK3 2 (SEQ3 (W M c (xc 60)) Q)) E D H) /\
 (∀ Q E D H,W M c (xc 21) true Q E D H =
  GO3 true Q .ret E D H) /\
 (∀ Q E D H,W M c (xc 11) true Q E D H =
  Lz E 9 fun g t9=>Ly g E 8 fun g t8=>Fl g 2 t8 H fun g t29=>B3 g (Op.lenSl [t29]) fun g t30=>Bn g .lss t9 t30 fun g t31=>JN (fun (k:Bool->AV->AV->AHeap->Prop)=>B3 g (wantV true (some t31)) fun g w=>IG3 g w (fun g=>Ly g E 2 fun g t2=>C3 M g (.func qby) [t2] H fun g t34 H1=>k g t34 t2 H1) (fun g=>k g uu uu H)) (fun g t34_1 t33_1 H2=>B3 g (Op.pick [t31,t34_1,(.bool false)]) fun g t35=>IF3 g t35 (fun g=>Gt g M c (xc 17) Q E D H2) (fun g=>GO3 g (SEQ3 (W M c (xc 17)) Q) (.exit 0) E D H2))) /\
 (∀ Q E D H,W M c (xc 64) true Q E D H =
  Lz E 2 fun g t2=>Nf g 12 t2 H fun g t86=>Cb g .neq t86 (.int .i64 0) (fun g=>GO3 g (SEQ3 (W M c (xc 70)) Q) .ret E D H) (fun g=>Gt g M c (xc 70) Q E D H)) /\
 (∀ Q E D H,W M c (xc 60) true Q E D H =
  GO3 true Q .ret E D H) /\
 (∀ Q E D H,W M c (xc 30) true Q E D H =
  Lz E 2 fun g t2=>C3 M g (.func qby) [t2] H fun g t51 H1=>IF3 g t51 (fun g=>Gt g M c (xc 36) Q E D H1) (fun g=>GO3 g (SEQ3 (W M c (xc 36)) Q) (.exit 2) E D H1)) /\
 (∀ Q E D H,W M c (xc 17) true Q E D H =
  Lz E 0 fun g t0=>Ly g E 8 fun g t8=>Fl g 2 t8 H fun g t40=>Ly g E 9 fun g t9=>Xl g t40 t9 H fun g t43=>Ly g E 2 fun g t2=>Ly g E 3 fun g t3=>C3 M g (.func ya) [t0,t43,t2,t3] H fun g t46 H1=>GO3 g (BLK3 1 (SEQ3 (W M c (xc 20)) Q)) .normal E D H1) /\
 (∀ Q E D H,W M c (xc 70) true Q E D H =
  Lz E 8 fun g t8=>Fl g 0 t8 H fun g t89=>Cb g .eql t89 (.int .i64 14) (fun g=>Ly g E 0 fun g t0=>Ly g E 8 fun g t8_1=>Fl g 2 t8_1 H fun g t95=>Xl g t95 (.int .i64 0) H fun g t97=>Ly g E 2 fun g t2=>C3 M g (.func vc) [t0,t97,t2] H fun g t99 H1=>B3 g ((Op.extract 0) [t99]) fun g t100=>B3 g ((Op.extract 1) [t99]) fun g t101=>W M c (xc 78) g (BLK3 4 Q) ((12,t101)::(11,t100)::(89,t89)::E) D H1) (fun g=>Cb g .eql t89 (.int .i64 15) (fun g=>W M c (xc 86) g (BLK3 4 Q) ((89,t89)::E) D H) (fun g=>W M c (xc 95) g (BLK3 4 Q) ((89,t89)::E) D H))) /\
 (∀ Q E D H,W M c (xc 36) true Q E D H =
  Lz E 2 fun g t2=>C3 M g (.func qba) [t2] H fun g t53 H1=>W M c (xc 39) g (BLK3 3 Q) E D H1) /\
 (∀ Q E D H,W M c (xc 20) true Q E D H =
  Lz E 9 fun g t9=>Bn g .add t9 (.int .i64 1) fun g t37=>GO3 g Q .normal ((9,t37)::E) D H) /\
 (∀ Q E D H,W M c (xc 78) true Q E D H =
  Lz E 12 fun g t12=>IF3 g t12 (fun g=>Ly g E 2 fun g t2=>Ly g E 8 fun g t8=>Fl g 1 t8 H fun g t105=>Ly g E 11 fun g t11=>B3 g (Op.nilCheck [t2]) fun g t107=>B3 g ((Op.fieldAddr 1) [t107]) fun g t108=>B3 g ((Op.indexArr 8 1) [t108,t105]) fun g t109=>B32 g ((Op.store 1) [t109,t11] H) fun g u H1=>GO3 g Q .normal E D H1) (fun g=>Ly g E 2 fun g t2=>Ns g 12 t2 (.int .i64 111) H fun g u H1=>GO3 g Q .normal E D H1)) /\
 (∀ Q E D H,W M c (xc 86) true Q E D H =
  Lz E 0 fun g t0=>Ly g E 8 fun g t8=>Fl g 2 t8 H fun g t118=>Xl g t118 (.int .i64 0) H fun g t120=>Ly g E 2 fun g t2=>C3 M g (.func vc) [t0,t120,t2] H fun g t122 H1=>B3 g ((Op.extract 0) [t122]) fun g t123=>B3 g ((Op.extract 1) [t122]) fun g t124=>Ly g E 0 fun g t0_1=>Ly g E 8 fun g t8_1=>Fl g 2 t8_1 H1 fun g t128=>Xl g t128 (.int .i64 1) H1 fun g t130=>Ly g E 2 fun g t2_1=>C3 M g (.func vc) [t0_1,t130,t2_1] H1 fun g t132 H2=>B3 g ((Op.extract 0) [t132]) fun g t133=>B3 g ((Op.extract 1) [t132]) fun g t134=>W M c (xc 90) g Q ((16,t134)::(15,t133)::(14,t124)::(13,t123)::E) D H2) /\
 (∀ Q E D H,W M c (xc 95) true Q E D H =
  Lz E 89 fun g t89=>Cb g .eql t89 (.int .i64 16) (fun g=>Ly g E 0 fun g t0=>Ly g E 8 fun g t8=>Fl g 2 t8 H fun g t163=>Xl g t163 (.int .i64 0) H fun g t165=>Ly g E 2 fun g t2=>C3 M g (.func qf9) [t0,t165,t2] H fun g t167 H1=>W M c (xc 100) g Q ((17,t167)::E) D H1) (fun g=>Ly g E 89 fun g t89_1=>Cb g .eql t89_1 (.int .i64 18) (fun g=>W M c (xc 120) g Q E D H) (fun g=>W M c (xc 133) g Q E D H))) /\
 (∀ Q E D H,W M c (xc 39) true Q E D H =
  Lz E 2 fun g t2=>Nf g 12 t2 H fun g t57=>Cb g .neq t57 (.int .i64 0) (fun g=>GO3 g (SEQ3 (W M c (xc 45)) Q) .ret E D H) (fun g=>Gt g M c (xc 45) Q E D H)) /\
 (∀ Q E D H,W M c (xc 90) true Q E D H =
  Lz E 14 fun g t14=>JN (fun (k:Bool->AV->AHeap->Prop)=>B3 g (wantV true (some t14)) fun g w=>IG3 g w (fun g=>Ly g E 16 fun g t16=>k g t16 H) (fun g=>k g uu H)) (fun g t137_1 H1=>B3 g (Op.pick [t14,t137_1,(.bool false)]) fun g t138=>JN (fun (k:Bool->AV->AV->AV->AV->AV->AV->AV->AV->AHeap->Prop)=>B3 g (wantV true (some t138)) fun g w=>IG3 g w (fun g=>Ly g E 13 fun g t13=>Ly g E 2 fun g t2=>B3 g (Op.nilCheck [t2]) fun g t142=>B3 g ((Op.fieldAddr 0) [t142]) fun g t143=>B3 g (Op.load1 [t143] H1) fun g t144=>B3 g (Op.lenSl [t144]) fun g t145=>B3 g ((Op.wrap .u64) [t145]) fun g t146=>Bn g .lss t13 t146 fun g t147=>k g t147 t146 t145 t144 t143 t142 t2 t13 H1) (fun g=>k g uu uu uu uu uu uu uu uu H1)) (fun g t147_1 t146_1 t145_1 t144_1 t143_1 t142_1 t141_1 t140_1 H2=>B3 g (Op.pick [t138,t147_1,(.bool false)]) fun g t148=>IF3 g t148 (fun g=>Ly g E 2 fun g t2_1=>Nf g 0 t2_1 H2 fun g t152=>Ly g E 13 fun g t13_1=>Ly g E 15 fun g t15=>Xs g t152 t13_1 t15 H2 fun g u H3=>GO3 g Q .normal E D H3) (fun g=>Ly g E 2 fun g t2_1=>Ns g 12 t2_1 (.int .i64 111) H2 fun g u H3=>GO3 g Q .normal E D H3)))) /\
 (∀ Q E D H,W M c (xc 100) true Q E D H =
  Lz E 17 fun g t17=>Cb g .lss t17 (.int .i64 0) (fun g=>Ly g E 2 fun g t2=>Ns g 12 t2 (.int .i64 111) H fun g u H1=>Gt g M c (xc 106) Q E D H1) (fun g=>Gt g M c (xc 106) Q E D H)) /\
 (∀ Q E D H,W M c (xc 120) true Q E D H =
  B32 true ((Op.buildSlice je 0 [(.int .u64 0)] []) []) fun g o1 k1=>Ly g E 2 fun g t2=>Nf g 0 t2 (H.alloc o1) fun g t205=>B32 g ((Op.append je 1 8) [(k1 H.next),t205] (H.alloc o1)) fun g t206 H2=>Ly g E 2 fun g t2_1=>B3 g (Op.nilCheck [t2_1]) fun g t208=>B3 g ((Op.fieldAddr 1) [t208]) fun g t209=>B3 g ((Op.loadN 8) [t209] H2) fun g t210=>A3 g T__21 [(.int .u64 0),(.int .u64 0),(.int .u64 0),(.int .u64 0),(.int .u64 0),(.int .u64 0),(.int .u64 0),(.int .u64 0)] H2 fun g t19 H3=>B32 g ((Op.store 8) [t19,t210] H3) fun g u H4=>W M c (xc 124) g Q ((19,t19)::(18,t206)::E) D H4) /\
 (∀ Q E D H,W M c (xc 133) true Q E D H =
  Lz E 89 fun g t89=>Cb g .eql t89 (.int .i64 19) (fun g=>Ly g E 3 fun g t3=>IF3 g t3 (fun g=>Ly g E 2 fun g t2=>Ns g 12 t2 (.int .i64 111) H fun g u H1=>GO3 g Q .normal E D H1) (fun g=>Ly g E 2 fun g t2=>Ns g 11 t2 (.bool true) H fun g u H1=>GO3 g Q .normal E D H1)) (fun g=>GO3 g Q .normal E D H)) /\
 (∀ Q E D H,W M c (xc 45) true Q E D H =
  Lz E 0 fun g t0=>Ly g E 8 fun g t8=>Fl g 2 t8 H fun g t61=>Xl g t61 (.int .i64 0) H fun g t63=>Ly g E 2 fun g t2=>C3 M g (.func qf9) [t0,t63,t2] H fun g t65 H1=>W M c (xc 47) g Q ((10,t65)::E) D H1) /\
 (∀ Q E D H,W M c (xc 106) true Q E D H =
  Lz E 17 fun g t17=>Cb g .eql t17 (.int .i64 1) (fun g=>Ly g E 0 fun g t0=>Ly g E 8 fun g t8=>Fl g 2 t8 H fun g t177=>Xl g t177 (.int .i64 1) H fun g t179=>Ly g E 2 fun g t2=>Ly g E 3 fun g t3=>C3 M g (.func ya) [t0,t179,t2,t3] H fun g t182 H1=>Gt g M c (xc 112) Q E D H1) (fun g=>Gt g M c (xc 112) Q E D H)) /\
 (∀ Q E D H,W M c (xc 124) true Q E D H =
  Lz E 0 fun g t0=>Ly g E 8 fun g t8=>Fl g 2 t8 H fun g t213=>Xl g t213 (.int .i64 0) H fun g t215=>Ly g E 2 fun g t2=>C3 M g (.func ya) [t0,t215,t2,(.bool true)] H fun g t217 H1=>Ly g E 2 fun g t2_1=>Nf g 12 t2_1 H1 fun g t221=>Cb g .neq t221 (.int .i64 0) (fun g=>Ly g E 2 fun g t2_2=>Ly g E 18 fun g t18=>Ns g 0 t2_2 t18 H1 fun g u H2=>Ly g E 2 fun g t2_3=>Ly g E 19 fun g t19=>B3 g ((Op.loadN 8) [t19] H2) fun g t228=>B3 g (Op.nilCheck [t2_3]) fun g t229=>B3 g ((Op.fieldAddr 1) [t229]) fun g t230=>B32 g ((Op.store 8) [t230,t228] H2) fun g u_1 H3=>GO3 g Q .normal E D H3) (fun g=>Ly g E 2 fun g t2_2=>Nf g 10 t2_2 H1 fun g t234=>Bn g .add t234 (.int .i64 1) fun g t235=>Ns g 10 t2_2 t235 H1 fun g u H2=>GO3 g Q .normal E D H2)) /\
 (∀ Q E D H,W M c (xc 47) true Q E D H =
  Lz E 10 fun g t10=>Cb g .lss t10 (.int .i64 0) (fun g=>Ly g E 2 fun g t2=>Ns g 12 t2 (.int .i64 111) H fun g u H1=>Gt g M c (xc 53) Q E D H1) (fun g=>Gt g M c (xc 53) Q E D H)) /\
 (∀ Q E D H,W M c (xc 112) true Q E D H =
  Lz E 17 fun g t17=>Bn g .eql t17 (.int .i64 0) fun g t184=>JN (fun (k:Bool->AV->AV->AV->AV->AHeap->Prop)=>B3 g (wantV true (some t184)) fun g w=>IG3 g w (fun g=>Ly g E 8 fun g t8=>B3 g ((Op.fieldAddr 2) [t8]) fun g t186=>B3 g (Op.load1 [t186] H) fun g t187=>B3 g (Op.lenSl [t187]) fun g t188=>Bn g .eql t188 (.int .i64 3) fun g t189=>k g t189 t188 t187 t186 H) (fun g=>k g uu uu uu uu H)) (fun g t189_1 t188_1 t187_1 t186_1 H1=>B3 g (Op.pick [t184,t189_1,(.bool false)]) fun g t190=>IF3 g t190 (fun g=>Ly g E 0 fun g t0=>Ly g E 8 fun g t8_1=>Fl g 2 t8_1 H1 fun g t193=>Xl g t193 (.int .i64 2) H1 fun g t195=>Ly g E 2 fun g t2=>Ly g E 3 fun g t3=>C3 M g (.func ya) [t0,t195,t2,t3] H1 fun g t198 H2=>GO3 g Q .normal E D H2) (fun g=>GO3 g Q .normal E D H1))) /\
 (∀ Q E D H,W M c (xc 53) true Q E D H =
  Lz E 10 fun g t10=>Cb g .neq t10 (.int .i64 1) (fun g=>GO3 g (SEQ3 (W M c (xc 59)) Q) .ret E D H) (fun g=>Gt g M c (xc 59) Q E D H)) /\
 (∀ Q E D H,W M c (xc 59) true Q E D H =
  Lz E 0 fun g t0=>Ly g E 8 fun g t8=>Fl g 2 t8 H fun g t75=>Xl g t75 (.int .i64 1) H fun g t77=>Ly g E 2 fun g t2=>Ly g E 3 fun g t3=>C3 M g (.func ya) [t0,t77,t2,t3] H fun g t80 H1=>GO3 g Q .normal E D H1):=by (repeat' apply And.intro)<;>(intro _ _ _ _;refine W_unf ?_;kernel_rfl)
theorem q64:(cProg Tryd.prog).func ya=some qr9/\qr9.results=[]:=x9 (by kernel_rfl)
theorem qsa (h:W M ⟨none,ya⟩ (xc 0) true (FIN3 M [] Q) [(0,a0),(1,a1),(2,a2),(3,a3)] [] H):yb M ya [a0,a1,a2,a3] H Q:=callf (by decide) q64 (ks:=qxs) (by kernel_rfl) h
def qia:AFunc:=funcAt Tryd.prog qby
def qmm:Kp:=⟨[0,2],false,[0]⟩
def qmn (k:Nat):Kp × ACode:=(qmm,part qia.body k)
theorem qmo (M:Mac) (c:Ctx):(∀ Q E D H,W M c (qmn 0) true Q E D H =
 Lz E 0 fun g t0=>Nf g 11 t0 H fun g t6=>B3 g ((Op.un .not) [t6]) fun g t7=>JN (fun (k:Bool->AV->AV->AV->AV->AV->AHeap->Prop)=>B3 g (wantV true (some t7)) fun g w=>IG3 g w (fun g=>B3 g (Op.nilCheck [t0]) fun g t10=>B3 g ((Op.fieldAddr 12) [t10]) fun g t11=>B3 g (Op.load1 [t11] H) fun g t12=>Bn g .eql t12 (.int .i64 0) fun g t13=>k g t13 t12 t11 t10 t0 H) (fun g=>k g uu uu uu uu uu H)) (fun g t13_1 t12_1 t11_1 t10_1 t9_1 H1=>B3 g (Op.pick [t7,t13_1,(.bool false)]) fun g t14=>GO3 g Q .ret ((2,t14)::(2,(.bool false))::E) D H1)):=by intro _ _ _ _;refine W_unf ?_;kernel_rfl
theorem qto:(cProg Tryd.prog).func qby=some qia/\qia.results=[.tmp 2]:=x9 (by kernel_rfl)
theorem qtp (h:W M ⟨none,qby⟩ (qmn 0) true (FIN3 M [.tmp 2] Q) [(0,a0)] [] H):yb M qby [a0] H Q:=callf (by decide) qto (ks:=qmm) (by kernel_rfl) h
def qhm:AFunc:=funcAt Tryd.prog qba
def qlg:Kp:=⟨[0],false,[0]⟩
def qlh (k:Nat):Kp × ACode:=(qlg,part qhm.body k)
theorem qli (M:Mac) (c:Ctx):(∀ Q E D H,W M c (qlh 0) true Q E D H =
 Lz E 0 fun g t0=>Nf g 9 t0 H fun g t5=>Cb g .eql t5 (.int .i64 0) (fun g=>Ly g E 0 fun g t0_1=>Ns g 12 t0_1 (.int .i64 190) H fun g u H1=>GO3 g Q .normal E D H1) (fun g=>Ly g E 0 fun g t0_1=>Nf g 9 t0_1 H fun g t13=>Bn g .sub t13 (.int .i64 1) fun g t14=>Ns g 9 t0_1 t14 H fun g u H1=>GO3 g Q .normal E D H1)):=by intro _ _ _ _;refine W_unf ?_;kernel_rfl
theorem qsb:(cProg Tryd.prog).func qba=some qhm/\qhm.results=[]:=x9 (by kernel_rfl)
theorem qsc (h:W M ⟨none,qba⟩ (qlh 0) true (FIN3 M [] Q) [(0,a0)] [] H):yb M qba [a0] H Q:=callf (by decide) qsb (ks:=qlg) (by kernel_rfl) h
def qsd:AFunc:=funcAt Tryd.prog qf9
def qxt:Kp:=⟨[0,1,2,6,7,8,9,10,11],false,[0,4,8,16,24]⟩
def qc3 (k:Nat):Kp × ACode:=(qxt,part qsd.body k)
theorem q67 (M:Mac) (c:Ctx):(∀ Q E D H,W M c (qc3 0) true Q E D H =
 Lz E 0 fun g t0=>Ly g E 1 fun g t1=>B3 g ((Op.indexSl 3) [t0,t1]) fun g t14=>B3 g ((Op.loadN 3) [t14] H) fun g t15=>A3 g qj [(.int .i64 0),(.int .u64 0),.nils] H fun g t7 H1=>B32 g ((Op.store 3) [t7,t15] H1) fun g u H2=>W M c (qc3 4) g Q ((7,t7)::(6,(.int .i64 0))::E) D H2) /\
 (∀ Q E D H,W M c (qc3 4) true Q E D H =
  Lz E 0 fun g t0=>Ly g E 7 fun g t7=>Fl g 2 t7 H fun g t19=>Xl g t19 (.int .i64 0) H fun g t21=>Ly g E 2 fun g t2=>C3 M g (.func vc) [t0,t21,t2] H fun g t23 H1=>B3 g ((Op.extract 0) [t23]) fun g t24=>B3 g ((Op.extract 1) [t23]) fun g t25=>Ly g E 0 fun g t0_1=>Ly g E 7 fun g t7_1=>Fl g 2 t7_1 H1 fun g t29=>Xl g t29 (.int .i64 1) H1 fun g t31=>Ly g E 2 fun g t2_1=>C3 M g (.func vc) [t0_1,t31,t2_1] H1 fun g t33 H2=>B3 g ((Op.extract 0) [t33]) fun g t34=>B3 g ((Op.extract 1) [t33]) fun g t35=>W M c (qc3 8) g Q ((11,t35)::(10,t34)::(9,t25)::(8,t24)::E) D H2) /\
 (∀ Q E D H,W M c (qc3 8) true Q E D H =
  Lz E 9 fun g t9=>B3 g ((Op.un .not) [t9]) fun g t37=>JN (fun (k:Bool->AV->AV->AHeap->Prop)=>B3 g (wantV false (some t37)) fun g w=>IG3 g w (fun g=>Ly g E 11 fun g t11=>B3 g ((Op.un .not) [t11]) fun g t40=>k g t40 t11 H) (fun g=>k g uu uu H)) (fun g t40_1 t39_1 H1=>B3 g (Op.pick [t37,(.bool true),t40_1]) fun g t41=>IF3 g t41 (fun g=>GO3 g (SEQ3 (W M c (qc3 16)) Q) .ret ((6,(.int .i64 (-1)))::E) D H1) (fun g=>Gt g M c (qc3 16) Q E D H1))) /\
 (∀ Q E D H,W M c (qc3 16) true Q E D H =
  Lz E 7 fun g t7=>Fl g 0 t7 H fun g t43=>Bn g .eql t43 (.int .i64 11) fun g t44=>JN (fun (k:Bool->AV->AV->AV->AHeap->Prop)=>B3 g (wantV true (some t44)) fun g w=>IG3 g w (fun g=>Ly g E 8 fun g t8=>Ly g E 10 fun g t10=>Bn g .eql t8 t10 fun g t48=>k g t48 t10 t8 H) (fun g=>k g uu uu uu H)) (fun g t48_1 t47_1 t46_1 H1=>B3 g (Op.pick [t44,t48_1,(.bool false)]) fun g t49=>JN (fun (k:Bool->AV->AV->AV->AV->AHeap->Prop)=>B3 g (wantV false (some t49)) fun g w=>IG3 g w (fun g=>B3 g ((Op.fieldAddr 0) [t7]) fun g t51=>B3 g (Op.load1 [t51] H1) fun g t52=>Bn g .eql t52 (.int .i64 12) fun g t53=>k g t53 t53 t52 t51 H1) (fun g=>k g uu uu uu uu H1)) (fun g t54_1 t53_1 t52_1 t51_1 H2=>JN (fun (k:Bool->AV->AV->AV->AHeap->Prop)=>B3 g (wantV true (some t54_1)) fun g w=>IG3 g w (fun g=>Ly g E 8 fun g t8_1=>Ly g E 10 fun g t10_1=>Bn g .neq t8_1 t10_1 fun g t57=>k g t57 t10_1 t8_1 H2) (fun g=>k g uu uu uu H2)) (fun g t57_1 t56_1 t55_1 H3=>JN (fun (k:Bool->AV->AHeap->Prop)=>B3 g (wantV false (some t49)) fun g w=>IG3 g w (fun g=>B3 g (Op.pick [t54_1,t57_1,(.bool false)]) fun g t58=>k g t58 H3) (fun g=>k g uu H3)) (fun g t58_1 H4=>B3 g (Op.pick [t49,(.bool true),t58_1]) fun g t59=>JN (fun (k:Bool->AV->AV->AV->AV->AHeap->Prop)=>B3 g (wantV false (some t59)) fun g w=>IG3 g w (fun g=>B3 g ((Op.fieldAddr 0) [t7]) fun g t61=>B3 g (Op.load1 [t61] H4) fun g t62=>Bn g .eql t62 (.int .i64 13) fun g t63=>k g t63 t63 t62 t61 H4) (fun g=>k g uu uu uu uu H4)) (fun g t64_1 t63_1 t62_1 t61_1 H5=>JN (fun (k:Bool->AV->AV->AV->AHeap->Prop)=>B3 g (wantV true (some t64_1)) fun g w=>IG3 g w (fun g=>Ly g E 8 fun g t8_2=>Ly g E 10 fun g t10_2=>Bn g .lss t8_2 t10_2 fun g t67=>k g t67 t10_2 t8_2 H5) (fun g=>k g uu uu uu H5)) (fun g t67_1 t66_1 t65_1 H6=>JN (fun (k:Bool->AV->AHeap->Prop)=>B3 g (wantV false (some t59)) fun g w=>IG3 g w (fun g=>B3 g (Op.pick [t64_1,t67_1,(.bool false)]) fun g t68=>k g t68 H6) (fun g=>k g uu H6)) (fun g t68_1 H7=>B3 g (Op.pick [t59,(.bool true),t68_1]) fun g t69=>IF3 g t69 (fun g=>GO3 g (SEQ3 (W M c (qc3 24)) Q) .ret ((6,(.int .i64 1))::E) D H7) (fun g=>Gt g M c (qc3 24) Q E D H7))))))))) /\
 (∀ Q E D H,W M c (qc3 24) true Q E D H =
  GO3 true Q .ret ((6,(.int .i64 0))::E) D H):=by (repeat' apply And.intro)<;>(intro _ _ _ _;refine W_unf ?_;kernel_rfl)
theorem q65:(cProg Tryd.prog).func qf9=some qsd/\qsd.results=[.tmp 6]:=x9 (by kernel_rfl)
theorem q66 (h:W M ⟨none,qf9⟩ (qc3 0) true (FIN3 M [.tmp 6] Q) [(0,a0),(1,a1),(2,a2)] [] H):yb M qf9 [a0,a1,a2] H Q:=callf (by decide) q65 (ks:=qxt) (by kernel_rfl) h
end
end Go.Am
namespace Go.Am
abbrev wq:Nat:=83
abbrev kw:Nat:=25
noncomputable section
variable (AP:Mac)
def qda:List AStep:=[⟨false,none,none,[.tmp 4,.const (.int .i64 0)],.eff (Op.store 1),(some [])⟩]
def qgt:ACode:=.seq (.region qda) .ret
def qc9:List AStep:=[⟨false,(some 6),none,[.tmp 1],.pure Op.move,(some [])⟩,
 ⟨false,(some 7),none,[.tmp 6],.callV,(some [])⟩]
def qgs:ACode:=.seq (.region qc9) qgt
def qc8:List AStep:=[⟨false,(some 5),none,[.tmp 4],.pure (Op.mkFunc wq 0),(some [])⟩,
 ⟨false,none,none,[.tmp 5],.defer,(some [])⟩]
def qgr:ACode:=.seq (.region qc8) qgs
def qc7:List AStep:=[⟨false,(some 4),none,[],.alloc (Op.alloc kw [(.int .i64 0)]),(some [])⟩]
def qnb:ACode:=.seq (.region qc7) qgr
def qop:AFunc:=⟨[.cell1 4],qnb,[]⟩
theorem qld (ctx:Ctx) (tm:T AV) (dfs:List ADef) (up:Option Chain) (H:AHeap) (Q:Post) :
 WP AP ctx qgt ⟨tm,dfs,up,H⟩ Q =
 (GS AP dirty ctx qda ⟨tm,dfs,up,H⟩ (SEQ (WP AP ctx .ret) Q)):=Gxrseq AP ctx _ _ qda .ret
theorem qik (ctx:Ctx) (tm:T AV) (dfs:List ADef) (up:Option Chain) (H:AHeap) (Q:Post) :
 GS AP true ctx qda ⟨tm,dfs,up,H⟩ Q =
 (LK dirty (tm.get 4) fun g ti4=>BI2 g ((Op.store 1) [ti4,(.int .i64 0)] H) fun g t_u H1 =>
 GO g Q .normal ⟨tm,dfs,up,H1⟩):=qb0 (l:=qda) (by kernel_rfl)
theorem qlc (ctx:Ctx) (tm:T AV) (dfs:List ADef) (up:Option Chain) (H:AHeap) (Q:Post) :
 WP AP ctx qgs ⟨tm,dfs,up,H⟩ Q =
 (GS AP dirty ctx qc9 ⟨tm,dfs,up,H⟩ (SEQ (WP AP ctx qgt) Q)):=Gxrseq AP ctx _ _ qc9 qgt
theorem qij (ctx:Ctx) (tm:T AV) (dfs:List ADef) (up:Option Chain) (H:AHeap) (Q:Post) :
 GS AP true ctx qc9 ⟨tm,dfs,up,H⟩ Q =
 (LK dirty (tm.get 1) fun g ti1=>BI g (Op.move [ti1]) fun g t6=>VI g [t6] fun g f vs=>CA AP g f vs H (fun g t7 H1 =>
 GO g Q .normal ⟨(setsE [(7,t7),(6,t6)] tm),dfs,up,H1⟩) (PAN (some []) (setsE [(6,t6)] tm) dfs up Q)):=qb0 (l:=qc9) (by kernel_rfl)
theorem qlb (ctx:Ctx) (tm:T AV) (dfs:List ADef) (up:Option Chain) (H:AHeap) (Q:Post) :
 WP AP ctx qgr ⟨tm,dfs,up,H⟩ Q =
 (GS AP dirty ctx qc8 ⟨tm,dfs,up,H⟩ (SEQ (WP AP ctx qgs) Q)):=Gxrseq AP ctx _ _ qc8 qgs
theorem qii (ctx:Ctx) (tm:T AV) (dfs:List ADef) (up:Option Chain) (H:AHeap) (Q:Post) :
 GS AP true ctx qc8 ⟨tm,dfs,up,H⟩ Q =
 (LK dirty (tm.get 4) fun g ti4=>BI g ((Op.mkFunc wq 0) [ti4]) fun g t5=>DF g ctx [t5] dfs fun g dfs1=>GO g Q .normal ⟨(setsE [(5,t5)] tm),dfs1,up,H⟩):=qb0 (l:=qc8) (by kernel_rfl)
theorem qla (ctx:Ctx) (tm:T AV) (dfs:List ADef) (up:Option Chain) (H:AHeap) (Q:Post) :
 WP AP ctx qnb ⟨tm,dfs,up,H⟩ Q =
 (GS AP dirty ctx qc7 ⟨tm,dfs,up,H⟩ (SEQ (WP AP ctx qgr) Q)):=Gxrseq AP ctx _ _ qc7 qgr
theorem qih (ctx:Ctx) (tm:T AV) (dfs:List ADef) (up:Option Chain) (H:AHeap) (Q:Post) :
 GS AP true ctx qc7 ⟨tm,dfs,up,H⟩ Q =
 (BI2 dirty ((Op.alloc kw [(.int .i64 0)]) []) fun g o1 mk1=>GO g Q .normal ⟨(setsE [(4,(mk1 H.next))] tm),dfs,up,(H.alloc o1)⟩):=qb0 (l:=qc7) (by kernel_rfl)
def qb8:List AStep:=[⟨false,(some 1),none,[.tmp 4],.pure Op.move,(some [])⟩]
def qfc:ACode:=.region qb8
def qcb:List AStep:=[⟨false,(some 10),none,[.tmp 2],.pure (Op.fieldAddr 0),(some [])⟩,
 ⟨false,(some 11),none,[.tmp 10],.read Op.load1,(some [])⟩,
 ⟨false,none,none,[.tmp 0,.tmp 11],.eff (Op.store 1),(some [])⟩]
def qfg:ACode:=.region qcb
def qca:List AStep:=[⟨false,(some 2),none,[],.alloc (Op.alloc kg [(.int .i64 0)]),(some [])⟩,
 ⟨false,none,none,[.tmp 2,.tmp 9],.eff (Op.store 1),(some [])⟩]
def qff:ACode:=.seq (.region qca) qfg
def qbm:List AStep:=[⟨false,(some 5),none,[.tmp 3],.pure Op.move,(some [])⟩,
 ⟨false,none,none,[.tmp 5],.panic,(some [])⟩]
def qen:ACode:=.region qbm
def qbl:List AStep:=[⟨false,(some 3),none,[.tmp 4],.pure Op.move,(some [])⟩]
def qem:ACode:=.seq (.region qbl) qen
def qfe:ACode:=.cond (.tmp 8) qff qem
def qb9:List AStep:=[⟨false,(some 7),none,[.tmp 4],.pure (Op.typeAssert kg true (.agg [(.int .i64 0)])),(some [])⟩,
 ⟨false,(some 8),none,[.tmp 7],.pure (Op.extract 1),(some [])⟩,
 ⟨false,(some 9),none,[.tmp 7],.pure (Op.extract 0),(some [])⟩]
def qfd:ACode:=.seq (.region qb9) qfe
def qfb:ACode:=.cond (.tmp 6) qfc qfd
def qb7:List AStep:=[⟨false,(some 6),none,[.tmp 4,.const .nili],.read (Op.eq .iface false),(some [])⟩]
def qfa:ACode:=.seq (.region qb7) qfb
def qe9:ACode:=.block 0 qfa
def qb6:List AStep:=[⟨false,(some 4),none,[],.recover,(some [])⟩]
def qk9:ACode:=.seq (.region qb6) qe9
def qh8:AFunc:=⟨[],qk9,[]⟩
theorem qjl (ctx:Ctx) (tm:T AV) (dfs:List ADef) (up:Option Chain) (H:AHeap) (Q:Post) :
 WP AP ctx qfc ⟨tm,dfs,up,H⟩ Q =
 (GS AP dirty ctx qb8 ⟨tm,dfs,up,H⟩ Q):=qx5 AP ctx _ _ qb8
theorem qg2 (ctx:Ctx) (tm:T AV) (dfs:List ADef) (up:Option Chain) (H:AHeap) (Q:Post) :
 GS AP true ctx qb8 ⟨tm,dfs,up,H⟩ Q =
 (LK dirty (tm.get 4) fun g ti4=>BI g (Op.move [ti4]) fun g t1=>GO g Q .normal ⟨(setsE [(1,t1)] tm),dfs,up,H⟩):=qb0 (l:=qb8) (by kernel_rfl)
theorem qjp (ctx:Ctx) (tm:T AV) (dfs:List ADef) (up:Option Chain) (H:AHeap) (Q:Post) :
 WP AP ctx qfg ⟨tm,dfs,up,H⟩ Q =
 (GS AP dirty ctx qcb ⟨tm,dfs,up,H⟩ Q):=qx5 AP ctx _ _ qcb
theorem qg5 (ctx:Ctx) (tm:T AV) (dfs:List ADef) (up:Option Chain) (H:AHeap) (Q:Post) :
 GS AP true ctx qcb ⟨tm,dfs,up,H⟩ Q =
 (LK dirty (tm.get 2) fun g ti2=>BI g ((Op.fieldAddr 0) [ti2]) fun g t10=>BI g (Op.load1 [t10] H) fun g t11=>LK g (tm.get 0) fun g ti0=>BI2 g ((Op.store 1) [ti0,t11] H) fun g t_u H1 =>
 GO g Q .normal ⟨(setsE [(11,t11),(10,t10)] tm),dfs,up,H1⟩):=qb0 (l:=qcb) (by kernel_rfl)
theorem qjo (ctx:Ctx) (tm:T AV) (dfs:List ADef) (up:Option Chain) (H:AHeap) (Q:Post) :
 WP AP ctx qff ⟨tm,dfs,up,H⟩ Q =
 (GS AP dirty ctx qca ⟨tm,dfs,up,H⟩ (SEQ (WP AP ctx qfg) Q)):=Gxrseq AP ctx _ _ qca qfg
theorem qg4 (ctx:Ctx) (tm:T AV) (dfs:List ADef) (up:Option Chain) (H:AHeap) (Q:Post) :
 GS AP true ctx qca ⟨tm,dfs,up,H⟩ Q =
 (BI2 dirty ((Op.alloc kg [(.int .i64 0)]) []) fun g o1 mk1=>LK g (tm.get 9) fun g ti9=>BI2 g ((Op.store 1) [(mk1 H.next),ti9] (H.alloc o1)) fun g t_u H2 =>
 GO g Q .normal ⟨(setsE [(2,(mk1 H.next))] tm),dfs,up,H2⟩):=qb0 (l:=qca) (by kernel_rfl)
theorem qig (ctx:Ctx) (tm:T AV) (dfs:List ADef) (up:Option Chain) (H:AHeap) (Q:Post) :
 WP AP ctx qen ⟨tm,dfs,up,H⟩ Q =
 (GS AP dirty ctx qbm ⟨tm,dfs,up,H⟩ Q):=qx5 AP ctx _ _ qbm
theorem qgq (ctx:Ctx) (tm:T AV) (dfs:List ADef) (up:Option Chain) (H:AHeap) (Q:Post) :
 GS AP true ctx qbm ⟨tm,dfs,up,H⟩ Q =
 (LK dirty (tm.get 3) fun g ti3=>BI g (Op.move [ti3]) fun g t5=>PANICK [t5] H (PAN (some []) (setsE [(5,t5)] tm) dfs up Q)):=qb0 (l:=qbm) (by kernel_rfl)
theorem qif (ctx:Ctx) (tm:T AV) (dfs:List ADef) (up:Option Chain) (H:AHeap) (Q:Post) :
 WP AP ctx qem ⟨tm,dfs,up,H⟩ Q =
 (GS AP dirty ctx qbl ⟨tm,dfs,up,H⟩ (SEQ (WP AP ctx qen) Q)):=Gxrseq AP ctx _ _ qbl qen
theorem qgp (ctx:Ctx) (tm:T AV) (dfs:List ADef) (up:Option Chain) (H:AHeap) (Q:Post) :
 GS AP true ctx qbl ⟨tm,dfs,up,H⟩ Q =
 (LK dirty (tm.get 4) fun g ti4=>BI g (Op.move [ti4]) fun g t3=>GO g Q .normal ⟨(setsE [(3,t3)] tm),dfs,up,H⟩):=qb0 (l:=qbl) (by kernel_rfl)
theorem qjn (ctx:Ctx) (tm:T AV) (dfs:List ADef) (up:Option Chain) (H:AHeap) (Q:Post) :
 WP AP ctx qfe ⟨tm,dfs,up,H⟩ Q =
 (BI dirty (tm.get 8) fun g v=>BI g (asBool v) fun g q=>IG g q (fun g=>GW AP g ctx qff ⟨tm,dfs,up,H⟩ Q) (fun g=>GW AP g ctx qem ⟨tm,dfs,up,H⟩ Q)):=Gxcond AP ctx _ _ 8 qff qem
theorem qjm (ctx:Ctx) (tm:T AV) (dfs:List ADef) (up:Option Chain) (H:AHeap) (Q:Post) :
 WP AP ctx qfd ⟨tm,dfs,up,H⟩ Q =
 (GS AP dirty ctx qb9 ⟨tm,dfs,up,H⟩ (SEQ (WP AP ctx qfe) Q)):=Gxrseq AP ctx _ _ qb9 qfe
theorem qg3 (ctx:Ctx) (tm:T AV) (dfs:List ADef) (up:Option Chain) (H:AHeap) (Q:Post) :
 GS AP true ctx qb9 ⟨tm,dfs,up,H⟩ Q =
 (LK dirty (tm.get 4) fun g ti4=>BI g ((Op.typeAssert kg true (.agg [(.int .i64 0)])) [ti4]) fun g t7=>BI g ((Op.extract 1) [t7]) fun g t8=>BI g ((Op.extract 0) [t7]) fun g t9 =>
 GO g Q .normal ⟨(setsE [(9,t9),(8,t8),(7,t7)] tm),dfs,up,H⟩):=qb0 (l:=qb9) (by kernel_rfl)
theorem qjk (ctx:Ctx) (tm:T AV) (dfs:List ADef) (up:Option Chain) (H:AHeap) (Q:Post) :
 WP AP ctx qfb ⟨tm,dfs,up,H⟩ Q =
 (BI dirty (tm.get 6) fun g v=>BI g (asBool v) fun g q=>IG g q (fun g=>GW AP g ctx qfc ⟨tm,dfs,up,H⟩ Q) (fun g=>GW AP g ctx qfd ⟨tm,dfs,up,H⟩ Q)):=Gxcond AP ctx _ _ 6 qfc qfd
theorem qjj (ctx:Ctx) (tm:T AV) (dfs:List ADef) (up:Option Chain) (H:AHeap) (Q:Post) :
 WP AP ctx qfa ⟨tm,dfs,up,H⟩ Q =
 (GS AP dirty ctx qb7 ⟨tm,dfs,up,H⟩ (SEQ (WP AP ctx qfb) Q)):=Gxrseq AP ctx _ _ qb7 qfb
theorem qg1 (ctx:Ctx) (tm:T AV) (dfs:List ADef) (up:Option Chain) (H:AHeap) (Q:Post) :
 GS AP true ctx qb7 ⟨tm,dfs,up,H⟩ Q =
 (LK dirty (tm.get 4) fun g ti4=>BI g ((Op.eq .iface false) [ti4,.nili] H) fun g t6=>GO g Q .normal ⟨(setsE [(6,t6)] tm),dfs,up,H⟩):=qb0 (l:=qb7) (by kernel_rfl)
theorem qji (ctx:Ctx) (tm:T AV) (dfs:List ADef) (up:Option Chain) (H:AHeap) (Q:Post) :
 WP AP ctx qe9 ⟨tm,dfs,up,H⟩ Q =
 (WP AP ctx qfa ⟨tm,dfs,up,H⟩ (BLK 0 Q)):=WP_block AP ctx _ _ 0 qfa
theorem qjh (ctx:Ctx) (tm:T AV) (dfs:List ADef) (up:Option Chain) (H:AHeap) (Q:Post) :
 WP AP ctx qk9 ⟨tm,dfs,up,H⟩ Q =
 (GS AP dirty ctx qb6 ⟨tm,dfs,up,H⟩ (SEQ (WP AP ctx qe9) Q)):=Gxrseq AP ctx _ _ qb6 qe9
theorem qg0 (ctx:Ctx) (tm:T AV) (dfs:List ADef) (up:Option Chain) (H:AHeap) (Q:Post) :
 GS AP true ctx qb6 ⟨tm,dfs,up,H⟩ Q =
 (RC dirty ctx up fun g t4 up1=>GO g Q .normal ⟨(setsE [(4,t4)] tm),dfs,up1,H⟩):=qb0 (l:=qb6) (by kernel_rfl)
end
open Go.Proofs Go.Proofs.YtbimikjajohflaaDoor
theorem qvf:(cProg Tryd.prog).func qfn=some qop:=by kernel_rfl
theorem qk8:(cProg Tryd.prog).func wq=some qh8:=by kernel_rfl
end Go.Am
