/- CodeJ: CodeS CodeLA CodeLB CodeMA CodeMF CodeMR CodeMT. -/
import Derived.Test.YtbimikjajohflaaDoorAmJB4
import Derived.Test.YtbimikjajohflaaDoorAmJB1
import Derived.KernelRfl
import Derived.Test.YtbimikjajohflaaDoorRows
set_option linter.unusedVariables false
set_option maxRecDepth 100000
namespace Go.Am
abbrev km:Nat:=136
abbrev k9:Nat:=147
abbrev ji:Nat:=141
abbrev qid:Nat:=142
abbrev yb:Nat:=145
abbrev yc:Nat:=140
abbrev vl:Nat:=139
abbrev qbd:Nat:=146
abbrev qax:Nat:=127
abbrev wu:Nat:=97
abbrev yr:Nat:=98
abbrev j9:Nat:=42
abbrev ja:Nat:=94
abbrev jy:Nat:=122
abbrev qa8:Nat:=126
abbrev q8n:Nat:=167
abbrev vn:Nat:=9
abbrev qb7:Nat:=5
abbrev z9:Nat:=1
def q8a:List UInt8:=[115,116,114,105,110,103,115,46,66,117,105,108,100,101,114,46,71,114,111,119,58,32,110,101,103,97,116,105,118,101,32,99,111,117,110,116]
def quu:List UInt8:=[48,49,50,51,52,53,54,55,56,57,97,98,99,100,101,102,103,104,105,106,107,108,109,110,111,112,113,114,115,116,117,118,119,120,121,122]
def qaa:List UInt8:=[48,48,48,49,48,50,48,51,48,52,48,53,48,54,48,55,48,56,48,57,49,48,49,49,49,50,49,51,49,52,49,53,49,54,49,55,49,56,49,57,50,48,50,49,50,50,50,51,50,52,50,53,50,54,50,55,50,56,50,57,51,48,51,49,51,50,51,51,51,52,51,53,51,54,51,55,51,56,51,57,52,48,52,49,52,50,52,51,52,52,52,53,52,54,52,55,52,56,52,57,53,48,53,49,53,50,53,51,53,52,53,53,53,54,53,55,53,56,53,57,54,48,54,49,54,50,54,51,54,52,54,53,54,54,54,55,54,56,54,57,55,48,55,49,55,50,55,51,55,52,55,53,55,54,55,55,55,56,55,57,56,48,56,49,56,50,56,51,56,52,56,53,56,54,56,55,56,56,56,57,57,48,57,49,57,50,57,51,57,52,57,53,57,54,57,55,57,56,57,57]
def qp9:List UInt8:=[0,1,2,2,3,3,3,3,4,4,4,4,4,4,4,4,5,5,5,5,5,5,5,5,5,5,5,5,5,5,5,5,6,6,6,6,6,6,6,6,6,6,6,6,6,6,6,6,6,6,6,6,6,6,6,6,6,6,6,6,6,6,6,6,7,7,7,7,7,7,7,7,7,7,7,7,7,7,7,7,7,7,7,7,7,7,7,7,7,7,7,7,7,7,7,7,7,7,7,7,7,7,7,7,7,7,7,7,7,7,7,7,7,7,7,7,7,7,7,7,7,7,7,7,7,7,7,7,8,8,8,8,8,8,8,8,8,8,8,8,8,8,8,8,8,8,8,8,8,8,8,8,8,8,8,8,8,8,8,8,8,8,8,8,8,8,8,8,8,8,8,8,8,8,8,8,8,8,8,8,8,8,8,8,8,8,8,8,8,8,8,8,8,8,8,8,8,8,8,8,8,8,8,8,8,8,8,8,8,8,8,8,8,8,8,8,8,8,8,8,8,8,8,8,8,8,8,8,8,8,8,8,8,8,8,8,8,8,8,8,8,8,8,8,8,8,8,8,8,8,8,8,8,8,8,8]
noncomputable section
open Go.Proofs Go.Proofs.YtbimikjajohflaaDoor
class MK (M:Mac):Prop where
 ok:∀ n,memN n [20,30]=false->M.func n=(cProg Tryd.prog).func n
theorem MK.at {M:Mac} [h:MK M] {n:Nat} {F:AFunc} (hn:memN n [20,30]=false) (hF:(cProg Tryd.prog).func n=some F):M.func n=some F:=(h.ok n hn).trans hF
theorem callf {M:Mac} [h:MK M] {n:Nat} {F:AFunc} (hn:memN n [20,30]=false) {rs:List ARes} (hF:(cProg Tryd.prog).func n=some F/\F.results=rs) {ks:Kp} {vs:List AV} (hk:keepB 0 vs.length ks.keep=true) {H:AHeap} {Q:AEnd->AHeap->Prop} (hw:W M ⟨none,n⟩ (ks,part F.body 0) true (FIN3 M rs Q) (envA 0 vs) [] H):kx M n vs H Q:=calle (MK.at hn hF.1) hk (hF.2 ▸ hw)
variable {M:Mac} [MK M] {H:AHeap} {Q:AEnd->AHeap->Prop} {a0 a1:AV}
def qfu:AFunc:=funcAt Tryd.prog qax
def qiv:Kp:=⟨[0,1,4],false,[0]⟩
def qiw (k:Nat):Kp × ACode:=(qiv,part qfu.body k)
theorem qix (M:Mac) (c:Ctx):(∀ Q E D H,W M c (qiw 0) true Q E D H =
 Lz E 0 fun g t0=>Ly g E 1 fun g t1=>C3 M g (.func km) [t0,t1] H fun g t7 H1=>GO3 g Q .ret ((4,t7)::(4,(.str []))::E) D H1):=by intro _ _ _ _;refine W_unf ?_;kernel_rfl
theorem qox:(cProg Tryd.prog).func qax=some qfu/\qfu.results=[.tmp 4]:=x9 (by kernel_rfl)
theorem qoy (h:W M ⟨none,qax⟩ (qiw 0) true (FIN3 M [.tmp 4] Q) [(0,a0),(1,a1)] [] H):kx M qax [a0,a1] H Q:=callf (by decide) qox (ks:=qiv) (by kernel_rfl) h
def qem:AFunc:=funcAt Tryd.prog wu
def qhh:Kp:=⟨[0,1],false,[0,2,8]⟩
def ww (k:Nat):Kp × ACode:=(qhh,part qem.body k)
theorem qc5 (M:Mac) (c:Ctx):(∀ Q E D H,W M c (ww 0) true Q E D H =
 Lz E 0 fun g t0=>C3 M g (.func jy) [t0] H fun g t5 H1=>W M c (ww 2) g Q E D H1) /\
 (∀ Q E D H,W M c (ww 2) true Q E D H =
  Lz E 1 fun g t1=>Cb g .lss t1 (.int .i64 0) (fun g=>B3 g ((Op.mkIface vn) [(.str q8a)]) fun g t8=>False) (fun g=>Gt g M c (ww 8) Q E D H)) /\
 (∀ Q E D H,W M c (ww 8) true Q E D H =
  Lz E 0 fun g t0=>Nf g 1 t0 H fun g t12=>B3 g (Op.cap [t12]) fun g t13=>Nf g 1 t0 H fun g t17=>B3 g (Op.lenSl [t17]) fun g t18=>Bn g .sub t13 t18 fun g t19=>Ly g E 1 fun g t1=>Cb g .lss t19 t1 (fun g=>Ly g E 0 fun g t0_1=>Ly g E 1 fun g t1_1=>C3 M g (.func qa8) [t0_1,t1_1] H fun g t24 H1=>GO3 g Q .normal E D H1) (fun g=>GO3 g Q .normal E D H)):=by (repeat' apply And.intro)<;>(intro _ _ _ _;refine W_unf ?_;kernel_rfl)
theorem qm2:(cProg Tryd.prog).func wu=some qem/\qem.results=[]:=x9 (by kernel_rfl)
theorem qm3 (h:W M ⟨none,wu⟩ (ww 0) true (FIN3 M [] Q) [(0,a0),(1,a1)] [] H):kx M wu [a0,a1] H Q:=callf (by decide) qm2 (ks:=qhh) (by kernel_rfl) h
def qca:AFunc:=funcAt Tryd.prog ja
def qef:Kp:=⟨[0,1,4,5],false,[0]⟩
def qeg (k:Nat):Kp × ACode:=(qef,part qca.body k)
theorem qcb (M:Mac) (c:Ctx):(∀ Q E D H,W M c (qeg 0) true Q E D H =
 Lz E 0 fun g t0=>C3 M g (.func jy) [t0] H fun g t7 H1=>Ly g E 0 fun g t0_1=>Nf g 1 t0_1 H1 fun g t12=>Ly g E 1 fun g t1=>B32 g ((Op.append qb7 1 1) [t12,t1] H1) fun g t14 H2=>Ns g 1 t0_1 t14 H2 fun g u H3=>Ly g E 1 fun g t1_1=>B3 g (Op.lenStr [t1_1]) fun g t18=>GO3 g Q .ret ((5,.nili)::(4,t18)::(5,.nili)::(4,(.int .i64 0))::E) D H3):=by intro _ _ _ _;refine W_unf ?_;kernel_rfl
theorem qil:(cProg Tryd.prog).func ja=some qca/\qca.results=[.tmp 4,.tmp 5]:=x9 (by kernel_rfl)
theorem qim (h:W M ⟨none,ja⟩ (qeg 0) true (FIN3 M [.tmp 4,.tmp 5] Q) [(0,a0),(1,a1)] [] H):kx M ja [a0,a1] H Q:=callf (by decide) qil (ks:=qef) (by kernel_rfl) h
def qdy:AFunc:=funcAt Tryd.prog j9
def qgp:Kp:=⟨[0,2],false,[0]⟩
def qgq (k:Nat):Kp × ACode:=(qgp,part qdy.body k)
theorem qgr (M:Mac) (c:Ctx):(∀ Q E D H,W M c (qgq 0) true Q E D H =
 Lz E 0 fun g t0=>Nf g 1 t0 H fun g t6=>B3 g (Op.sliceData [t6]) fun g t7=>Nf g 1 t0 H fun g t11=>B3 g (Op.lenSl [t11]) fun g t12=>B32 g ((Op.strOfPtr qb7) [t7,t12] H) fun g t13 H1=>GO3 g Q .ret ((2,t13)::(2,(.str []))::E) D H1):=by intro _ _ _ _;refine W_unf ?_;kernel_rfl
theorem qlx:(cProg Tryd.prog).func j9=some qdy/\qdy.results=[.tmp 2]:=x9 (by kernel_rfl)
theorem qly (h:W M ⟨none,j9⟩ (qgq 0) true (FIN3 M [.tmp 2] Q) [(0,a0)] [] H):kx M j9 [a0] H Q:=callf (by decide) qlx (ks:=qgp) (by kernel_rfl) h
def qfa:AFunc:=funcAt Tryd.prog yr
def qia:Kp:=⟨[0,2],false,[0]⟩
def qib (k:Nat):Kp × ACode:=(qia,part qfa.body k)
theorem qn3 (M:Mac) (c:Ctx):(∀ Q E D H,W M c (qib 0) true Q E D H =
 Lz E 0 fun g t0=>Nf g 1 t0 H fun g t6=>B3 g (Op.lenSl [t6]) fun g t7=>GO3 g Q .ret ((2,t7)::(2,(.int .i64 0))::E) D H):=by intro _ _ _ _;refine W_unf ?_;kernel_rfl
theorem qn1:(cProg Tryd.prog).func yr=some qfa/\qfa.results=[.tmp 2]:=x9 (by kernel_rfl)
theorem qn2 (h:W M ⟨none,yr⟩ (qib 0) true (FIN3 M [.tmp 2] Q) [(0,a0)] [] H):kx M yr [a0] H Q:=callf (by decide) qn1 (ks:=qia) (by kernel_rfl) h
def qb9:AFunc:=funcAt Tryd.prog km
def qee:Kp:=⟨[0,1,4,5,6,8],false,[0,2,6,14,24]⟩
def x7 (k:Nat):Kp × ACode:=(qee,part qb9.body k)
theorem qag (M:Mac) (c:Ctx):(∀ Q E D H,W M c (x7 0) true Q E D H =
 W M c (x7 2) true Q ((4,(.str []))::E) D H) /\
 (∀ Q E D H,W M c (x7 2) true Q E D H =
  Lz E 1 fun g t1=>Cb g .eql t1 (.int .i64 10) (fun g=>W M c (x7 6) g (SEQ3 (W M c (x7 24)) Q) E D H) (fun g=>Gt g M c (x7 24) Q E D H)) /\
 (∀ Q E D H,W M c (x7 24) true Q E D H =
  Lz E 0 fun g t0=>Ly g E 1 fun g t1=>C3 M g (.func qid) [.nils,t0,t1,(.bool false),(.bool false)] H fun g t28 H1=>B3 g ((Op.extract 0) [t28]) fun g t29=>B3 g ((Op.extract 1) [t28]) fun g t30=>GO3 g Q .ret ((4,t30)::(8,t30)::E) D H1) /\
 (∀ Q E D H,W M c (x7 6) true Q E D H =
  Lz E 0 fun g t0=>Cb g .lss t0 (.int .u64 100) (fun g=>Ly g E 0 fun g t0_1=>B3 g ((Op.wrap .i64) [t0_1]) fun g t14=>C3 M g (.func vl) [t14] H fun g t15 H1=>GO3 g (SEQ3 (W M c (x7 14)) Q) .ret ((4,t15)::E) D H1) (fun g=>Gt g M c (x7 14) Q E D H)) /\
 (∀ Q E D H,W M c (x7 14) true Q E D H =
  A3 true q8n (List.replicate 24 (.int .u8 0)) H fun g t5 H1=>Ly g E 0 fun g t0=>C3 M g (.func yc) [t0] H1 fun g t17 H2=>B3 g ((Op.sliceArr 24 1 [none,(some 0),none]) [t5,t17]) fun g t19=>Ly g E 0 fun g t0_1=>C3 M g (.func ji) [t19,t0_1] H2 fun g t21 H3=>B3 g ((Op.sliceArr 24 1 [none,(some 0),none]) [t5,t17]) fun g t23=>B3 g (Op.strOfBytes [t23] H3) fun g t24=>GO3 g Q .ret ((4,t24)::(6,t17)::(5,t5)::E) D H3):=by (repeat' apply And.intro)<;>(intro _ _ _ _;refine W_unf ?_;kernel_rfl)
theorem qif:(cProg Tryd.prog).func km=some qb9/\qb9.results=[.tmp 4]:=x9 (by kernel_rfl)
theorem qig (h:W M ⟨none,km⟩ (x7 0) true (FIN3 M [.tmp 4] Q) [(0,a0),(1,a1)] [] H):kx M km [a0,a1] H Q:=callf (by decide) qif (ks:=qee) (by kernel_rfl) h
def qc3:AFunc:=funcAt Tryd.prog jy
def qfb:Kp:=⟨[0],false,[0]⟩
def qfc (k:Nat):Kp × ACode:=(qfb,part qc3.body k)
theorem qfd (M:Mac) (c:Ctx):(∀ Q E D H,W M c (qfc 0) true Q E D H =
 Lz E 0 fun g t0=>Nf g 0 t0 H fun g t5=>B3 g ((Op.eq .ptr false) [t5,.nilp] H) fun g t6=>IF3 g t6 (fun g=>Ly g E 0 fun g t0_1=>B3 g ((Op.castPtr (liesB Tryd.prog 78)) [t0_1] H) fun g t9=>B3 g (Op.noEscape [t9]) fun g t10=>B3 g ((Op.castPtr (liesB Tryd.prog 78)) [t10] H) fun g t11=>Ns g 0 t0_1 t11 H fun g u H1=>GO3 g Q .normal E D H1) (fun g=>Ly g E 0 fun g t0_1=>Nf g 0 t0_1 H fun g t17=>B3 g ((Op.eq .ptr true) [t17,t0_1] H) fun g t19=>IF3 g t19 (fun g=>False) (fun g=>GO3 g Q .normal E D H))):=by intro _ _ _ _;refine W_unf ?_;kernel_rfl
theorem qj7:(cProg Tryd.prog).func jy=some qc3/\qc3.results=[]:=x9 (by kernel_rfl)
theorem qj8 (h:W M ⟨none,jy⟩ (qfc 0) true (FIN3 M [] Q) [(0,a0)] [] H):kx M jy [a0] H Q:=callf (by decide) qj7 (ks:=qfb) (by kernel_rfl) h
def qen:AFunc:=funcAt Tryd.prog qa8
def qhi:Kp:=⟨[0,1,4],false,[0]⟩
def qhj (k:Nat):Kp × ACode:=(qhi,part qen.body k)
theorem qm6 (M:Mac) (c:Ctx):(∀ Q E D H,W M c (qhj 0) true Q E D H =
 Lz E 0 fun g t0=>Nf g 1 t0 H fun g t8=>B3 g (Op.cap [t8]) fun g t9=>Bn g .mul (.int .i64 2) t9 fun g t10=>Ly g E 1 fun g t1=>Bn g .add t10 t1 fun g t12=>Nf g 1 t0 H fun g t17=>B3 g (Op.lenSl [t17]) fun g t18=>B32 g ((Op.makeNoZero qb7) [t12]) fun g o1 k1=>B3 g ((Op.sliceSl 1 [none,(some 0),none]) [(k1 H.next),t18]) fun g t19=>Ly g E 0 fun g t0_1=>Nf g 1 t0_1 (H.alloc o1) fun g t24=>B32 g ((Op.copy 1) [t19,t24] (H.alloc o1)) fun g t25 H2=>Ly g E 0 fun g t0_2=>Ns g 1 t0_2 t19 H2 fun g u H3=>GO3 g Q .normal ((4,t19)::E) D H3):=by intro _ _ _ _;refine W_unf ?_;kernel_rfl
theorem qm4:(cProg Tryd.prog).func qa8=some qen/\qen.results=[]:=x9 (by kernel_rfl)
theorem qm5 (h:W M ⟨none,qa8⟩ (qhj 0) true (FIN3 M [] Q) [(0,a0),(1,a1)] [] H):kx M qa8 [a0,a1] H Q:=callf (by decide) qm4 (ks:=qhi) (by kernel_rfl) h
def qdw:AFunc:=funcAt Tryd.prog vl
def qgl:Kp:=⟨[0,2],false,[0,2,10]⟩
def ym (k:Nat):Kp × ACode:=(qgl,part qdw.body k)
theorem qgm (M:Mac) (c:Ctx):(∀ Q E D H,W M c (ym 0) true Q E D H =
 W M c (ym 2) true Q ((2,(.str []))::E) D H) /\
 (∀ Q E D H,W M c (ym 2) true Q E D H =
  Lz E 0 fun g t0=>Cb g .lss t0 (.int .i64 10) (fun g=>Ly g E 0 fun g t0_1=>Bn g .add t0_1 (.int .i64 1) fun g t7=>B3 g ((Op.sliceStr [(some 0),(some 1)]) [(.str quu),t0_1,t7]) fun g t8=>GO3 g (SEQ3 (W M c (ym 10)) Q) .ret ((2,t8)::E) D H) (fun g=>Gt g M c (ym 10) Q E D H)) /\
 (∀ Q E D H,W M c (ym 10) true Q E D H =
  Lz E 0 fun g t0=>Bn g .mul t0 (.int .i64 2) fun g t10=>Bn g .mul t0 (.int .i64 2) fun g t12=>Bn g .add t12 (.int .i64 2) fun g t13=>B3 g ((Op.sliceStr [(some 0),(some 1)]) [(.str qaa),t10,t13]) fun g t14=>GO3 g Q .ret ((2,t14)::E) D H):=by (repeat' apply And.intro)<;>(intro _ _ _ _;refine W_unf ?_;kernel_rfl)
theorem qlc:(cProg Tryd.prog).func vl=some qdw/\qdw.results=[.tmp 2]:=x9 (by kernel_rfl)
theorem qld (h:W M ⟨none,vl⟩ (ym 0) true (FIN3 M [.tmp 2] Q) [(0,a0)] [] H):kx M vl [a0] H Q:=callf (by decide) qlc (ks:=qgl) (by kernel_rfl) h
def qco:AFunc:=funcAt Tryd.prog yc
def qer:Kp:=⟨[0,2,3],false,[0]⟩
def qes (k:Nat):Kp × ACode:=(qer,part qco.body k)
theorem vh (M:Mac) (c:Ctx):(∀ Q E D H,W M c (qes 0) true Q E D H =
 Lz E 0 fun g t0=>C3 M g (.func qbd) [t0] H fun g t5 H1=>C3 M g (.func yb) [t5] H1 fun g t6 H2=>Ly g E 0 fun g t0_1=>B3 g ((Op.indexArr 20 1) [(.ptr z9 0),t6]) fun g t10=>B3 g (Op.load1 [t10] H2) fun g t11=>Bn g .geq t0_1 t11 fun g t12=>C3 M g (.func k9) [t12] H2 fun g t13 H3=>Bn g .add t6 t13 fun g t14=>GO3 g Q .ret ((2,t14)::(3,t6)::(2,(.int .i64 0))::E) D H3):=by intro _ _ _ _;refine W_unf ?_;kernel_rfl
theorem qi6:(cProg Tryd.prog).func yc=some qco/\qco.results=[.tmp 2]:=x9 (by kernel_rfl)
theorem qi7 (h:W M ⟨none,yc⟩ (qes 0) true (FIN3 M [.tmp 2] Q) [(0,a0)] [] H):kx M yc [a0] H Q:=callf (by decide) qi6 (ks:=qer) (by kernel_rfl) h
def qbj:AFunc:=funcAt Tryd.prog ji
def qdv:Kp:=⟨[0,1,4,5,6,7,8,9,10,11,12,13,14,15,16],false,[0,2,5,11,16,20,24,31,33,39,43,49,61]⟩
def qi (k:Nat):Kp × ACode:=(qdv,part qbj.body k)
theorem zy (M:Mac) (c:Ctx):(∀ Q E D H,W M c (qi 0) true Q E D H =
 Lz E 0 fun g t0=>B3 g (Op.lenSl [t0]) fun g t18=>W M c (qi 2) g Q ((4,t18)::E) D H) /\
 (∀ Q E D H,W M c (qi 2) true Q E D H =
  LOOP3 (W M c (qi 5)) (BLK3 0 (SEQ3 (W M c (qi 31)) Q)) E D H) /\
 (∀ Q E D H,W M c (qi 31) true Q E D H =
  Lz E 1 fun g t1=>B3 g ((Op.wrap .u32) [t1]) fun g t97=>W M c (qi 33) g Q ((12,t97)::E) D H) /\
 (∀ Q E D H,W M c (qi 5) true Q E D H =
  Lz E 4 fun g t4=>Cb g .geq t4 (.int .i64 8) (fun g=>Gt g M c (qi 11) Q E D H) (fun g=>GO3 g (SEQ3 (W M c (qi 11)) Q) (.exit 0) E D H)) /\
 (∀ Q E D H,W M c (qi 33) true Q E D H =
  Lz E 4 fun g t4=>Cb g .geq t4 (.int .i64 4) (fun g=>Ly g E 12 fun g t12=>Bn g .rem t12 (.int .u32 10000) fun g t101=>W M c (qi 39) g (SEQ3 (W M c (qi 49)) Q) ((13,t101)::E) D H) (fun g=>Gt g M c (qi 49) Q E D H)) /\
 (∀ Q E D H,W M c (qi 11) true Q E D H =
  Lz E 1 fun g t1=>Bn g .rem t1 (.int .u64 100000000) fun g t22=>B3 g ((Op.wrap .u32) [t22]) fun g t23=>Ly g E 1 fun g t1_1=>Bn g .quo t1_1 (.int .u64 100000000) fun g t25=>W M c (qi 16) g (BLK3 1 Q) ((1,t25)::(5,t23)::E) D H) /\
 (∀ Q E D H,W M c (qi 49) true Q E D H =
  Lz E 4 fun g t4=>Cb g .geq t4 (.int .i64 2) (fun g=>Ly g E 12 fun g t12=>Bn g .rem t12 (.int .u32 100) fun g t141=>Bn g .mul t141 (.int .u32 2) fun g t142=>Ly g E 12 fun g t12_1=>Bn g .quo t12_1 (.int .u32 100) fun g t144=>Ly g E 0 fun g t0=>Ly g E 4 fun g t4_1=>Bn g .sub t4_1 (.int .i64 1) fun g t147=>Bn g .sub t4_1 (.int .i64 2) fun g t150=>Bn g .add t142 (.int .u32 1) fun g t152=>B3 g (Op.indexStr [(.str qaa),t152]) fun g t153=>B3 g (Op.indexStr [(.str qaa),t142]) fun g t155=>Xs g t0 t147 t153 H fun g u H1=>Xs g t0 t150 t155 H1 fun g u_1 H2=>Ly g E 4 fun g t4_2=>Bn g .sub t4_2 (.int .i64 2) fun g t159=>Gt g M c (qi 61) Q ((4,t159)::(12,t144)::(16,t142)::E) D H2) (fun g=>Gt g M c (qi 61) Q E D H)) /\
 (∀ Q E D H,W M c (qi 39) true Q E D H =
  Lz E 12 fun g t12=>Bn g .quo t12 (.int .u32 10000) fun g t103=>Ly g E 13 fun g t13=>Bn g .quo t13 (.int .u32 100) fun g t105=>Bn g .mul t105 (.int .u32 2) fun g t106=>Bn g .rem t13 (.int .u32 100) fun g t108=>Bn g .mul t108 (.int .u32 2) fun g t109=>W M c (qi 43) g Q ((15,t109)::(14,t106)::(12,t103)::E) D H) /\
 (∀ Q E D H,W M c (qi 16) true Q E D H =
  Lz E 5 fun g t5=>Bn g .quo t5 (.int .u32 10000) fun g t27=>Bn g .rem t5 (.int .u32 10000) fun g t29=>Bn g .quo t29 (.int .u32 100) fun g t31=>Bn g .mul t31 (.int .u32 2) fun g t32=>Bn g .rem t29 (.int .u32 100) fun g t34=>Bn g .mul t34 (.int .u32 2) fun g t35=>W M c (qi 20) g Q ((9,t35)::(8,t32)::(7,t29)::(6,t27)::E) D H) /\
 (∀ Q E D H,W M c (qi 61) true Q E D H =
  Lz E 4 fun g t4=>Cb g .gtr t4 (.int .i64 0) (fun g=>Ly g E 0 fun g t0=>Ly g E 12 fun g t12=>Bn g .add (.int .u32 48) t12 fun g t164=>B3 g ((Op.wrap .u8) [t164]) fun g t165=>Xs g t0 (.int .i64 0) t165 H fun g u H1=>GO3 g Q .normal E D H1) (fun g=>GO3 g Q .normal E D H)) /\
 (∀ Q E D H,W M c (qi 43) true Q E D H =
  Lz E 0 fun g t0=>Ly g E 4 fun g t4=>Bn g .sub t4 (.int .i64 1) fun g t112=>Bn g .sub t4 (.int .i64 2) fun g t115=>Ly g E 15 fun g t15=>Bn g .add t15 (.int .u32 1) fun g t117=>B3 g (Op.indexStr [(.str qaa),t117]) fun g t118=>B3 g (Op.indexStr [(.str qaa),t15]) fun g t120=>Xs g t0 t112 t118 H fun g u H1=>Xs g t0 t115 t120 H1 fun g u_1 H2=>Ly g E 0 fun g t0_1=>Ly g E 4 fun g t4_1=>Bn g .sub t4_1 (.int .i64 3) fun g t125=>Bn g .sub t4_1 (.int .i64 4) fun g t128=>Ly g E 14 fun g t14=>Bn g .add t14 (.int .u32 1) fun g t130=>B3 g (Op.indexStr [(.str qaa),t130]) fun g t131=>B3 g (Op.indexStr [(.str qaa),t14]) fun g t133=>Xs g t0_1 t125 t131 H2 fun g u_2 H3=>Xs g t0_1 t128 t133 H3 fun g u_3 H4=>Ly g E 4 fun g t4_2=>Bn g .sub t4_2 (.int .i64 4) fun g t137=>GO3 g Q .normal ((4,t137)::E) D H4) /\
 (∀ Q E D H,W M c (qi 20) true Q E D H =
  Lz E 6 fun g t6=>Bn g .quo t6 (.int .u32 100) fun g t37=>Bn g .mul t37 (.int .u32 2) fun g t38=>Bn g .rem t6 (.int .u32 100) fun g t40=>Bn g .mul t40 (.int .u32 2) fun g t41=>Ly g E 0 fun g t0=>Ly g E 4 fun g t4=>Bn g .sub t4 (.int .i64 1) fun g t44=>Bn g .sub t4 (.int .i64 2) fun g t47=>Ly g E 9 fun g t9=>Bn g .add t9 (.int .u32 1) fun g t49=>B3 g (Op.indexStr [(.str qaa),t49]) fun g t50=>B3 g (Op.indexStr [(.str qaa),t9]) fun g t52=>Xs g t0 t44 t50 H fun g u H1=>Xs g t0 t47 t52 H1 fun g u_1 H2=>W M c (qi 24) g Q ((11,t41)::(10,t38)::E) D H2) /\
 (∀ Q E D H,W M c (qi 24) true Q E D H =
  Lz E 0 fun g t0=>Ly g E 4 fun g t4=>Bn g .sub t4 (.int .i64 3) fun g t57=>Bn g .sub t4 (.int .i64 4) fun g t60=>Ly g E 8 fun g t8=>Bn g .add t8 (.int .u32 1) fun g t62=>B3 g (Op.indexStr [(.str qaa),t62]) fun g t63=>B3 g (Op.indexStr [(.str qaa),t8]) fun g t65=>Xs g t0 t57 t63 H fun g u H1=>Xs g t0 t60 t65 H1 fun g u_1 H2=>Ly g E 0 fun g t0_1=>Ly g E 4 fun g t4_1=>Bn g .sub t4_1 (.int .i64 5) fun g t70=>Bn g .sub t4_1 (.int .i64 6) fun g t73=>Ly g E 11 fun g t11=>Bn g .add t11 (.int .u32 1) fun g t75=>B3 g (Op.indexStr [(.str qaa),t75]) fun g t76=>B3 g (Op.indexStr [(.str qaa),t11]) fun g t78=>Xs g t0_1 t70 t76 H2 fun g u_2 H3=>Xs g t0_1 t73 t78 H3 fun g u_3 H4=>Ly g E 0 fun g t0_2=>Ly g E 4 fun g t4_2=>Bn g .sub t4_2 (.int .i64 7) fun g t83=>Bn g .sub t4_2 (.int .i64 8) fun g t86=>Ly g E 10 fun g t10=>Bn g .add t10 (.int .u32 1) fun g t88=>B3 g (Op.indexStr [(.str qaa),t88]) fun g t89=>B3 g (Op.indexStr [(.str qaa),t10]) fun g t91=>Xs g t0_2 t83 t89 H4 fun g u_4 H5=>Xs g t0_2 t86 t91 H5 fun g u_5 H6=>Ly g E 4 fun g t4_3=>Bn g .sub t4_3 (.int .i64 8) fun g t95=>GO3 g Q .normal ((4,t95)::E) D H6):=by (repeat' apply And.intro)<;>(intro _ _ _ _;refine W_unf ?_;kernel_rfl)
theorem qhp:(cProg Tryd.prog).func ji=some qbj/\qbj.results=[]:=x9 (by kernel_rfl)
theorem qhq (h:W M ⟨none,ji⟩ (qi 0) true (FIN3 M [] Q) [(0,a0),(1,a1)] [] H):kx M ji [a0,a1] H Q:=callf (by decide) qhp (ks:=qdv) (by kernel_rfl) h
def qcn:AFunc:=funcAt Tryd.prog yb
def qep:Kp:=⟨[0,2],false,[0]⟩
def qeq (k:Nat):Kp × ACode:=(qep,part qcn.body k)
theorem qi5 (M:Mac) (c:Ctx):(∀ Q E D H,W M c (qeq 0) true Q E D H =
 Lz E 0 fun g t0=>Bn g .mul t0 (.int .i64 78913) fun g t4=>Bn g .shr t4 (.int .u64 18) fun g t5=>GO3 g Q .ret ((2,t5)::(2,(.int .i64 0))::E) D H):=by intro _ _ _ _;refine W_unf ?_;kernel_rfl
theorem qi3:(cProg Tryd.prog).func yb=some qcn/\qcn.results=[.tmp 2]:=x9 (by kernel_rfl)
theorem qi4 (h:W M ⟨none,yb⟩ (qeq 0) true (FIN3 M [.tmp 2] Q) [(0,a0)] [] H):kx M yb [a0] H Q:=callf (by decide) qi3 (ks:=qep) (by kernel_rfl) h
def qhs:AFunc:=funcAt Tryd.prog qbd
def qlk:Kp:=⟨[0,2],false,[0,2,10,18,26]⟩
def z6 (k:Nat):Kp × ACode:=(qlk,part qhs.body k)
theorem qfi (M:Mac) (c:Ctx):(∀ Q E D H,W M c (z6 0) true Q E D H =
 W M c (z6 2) true Q ((2,(.int .i64 0))::E) D H) /\
 (∀ Q E D H,W M c (z6 2) true Q E D H =
  Lz E 0 fun g t0=>Cb g .geq t0 (.int .u64 4294967296) (fun g=>Ly g E 0 fun g t0_1=>Bn g .shr t0_1 (.int .u64 32) fun g t6=>Gt g M c (z6 10) Q ((2,(.int .i64 32))::(0,t6)::E) D H) (fun g=>Gt g M c (z6 10) Q E D H)) /\
 (∀ Q E D H,W M c (z6 10) true Q E D H =
  Lz E 0 fun g t0=>Cb g .geq t0 (.int .u64 65536) (fun g=>Ly g E 0 fun g t0_1=>Bn g .shr t0_1 (.int .u64 16) fun g t10=>Ly g E 2 fun g t2=>Bn g .add t2 (.int .i64 16) fun g t12=>Gt g M c (z6 18) Q ((2,t12)::(0,t10)::E) D H) (fun g=>Gt g M c (z6 18) Q E D H)) /\
 (∀ Q E D H,W M c (z6 18) true Q E D H =
  Lz E 0 fun g t0=>Cb g .geq t0 (.int .u64 256) (fun g=>Ly g E 0 fun g t0_1=>Bn g .shr t0_1 (.int .u64 8) fun g t16=>Ly g E 2 fun g t2=>Bn g .add t2 (.int .i64 8) fun g t18=>Gt g M c (z6 26) Q ((2,t18)::(0,t16)::E) D H) (fun g=>Gt g M c (z6 26) Q E D H)) /\
 (∀ Q E D H,W M c (z6 26) true Q E D H =
  Lz E 2 fun g t2=>Ly g E 0 fun g t0=>B3 g ((Op.wrap .u8) [t0]) fun g t21=>B3 g (Op.indexStr [(.str qp9),t21]) fun g t22=>B3 g ((Op.wrap .i64) [t22]) fun g t23=>Bn g .add t2 t23 fun g t24=>GO3 g Q .ret ((2,t24)::E) D H):=by (repeat' apply And.intro)<;>(intro _ _ _ _;refine W_unf ?_;kernel_rfl)
theorem qr9:(cProg Tryd.prog).func qbd=some qhs/\qhs.results=[.tmp 2]:=x9 (by kernel_rfl)
theorem qsa (h:W M ⟨none,qbd⟩ (z6 0) true (FIN3 M [.tmp 2] Q) [(0,a0)] [] H):kx M qbd [a0] H Q:=callf (by decide) qr9 (ks:=qlk) (by kernel_rfl) h
def qcm:AFunc:=funcAt Tryd.prog k9
def qeo:Kp:=⟨[0,2],false,[0,2,10]⟩
def jv (k:Nat):Kp × ACode:=(qeo,part qcm.body k)
theorem qi2 (M:Mac) (c:Ctx):(∀ Q E D H,W M c (jv 0) true Q E D H =
 W M c (jv 2) true Q ((2,(.int .i64 0))::E) D H) /\
 (∀ Q E D H,W M c (jv 2) true Q E D H =
  Lz E 0 fun g t0=>IF3 g t0 (fun g=>GO3 g (SEQ3 (W M c (jv 10)) Q) .ret ((2,(.int .i64 1))::E) D H) (fun g=>Gt g M c (jv 10) Q E D H)) /\
 (∀ Q E D H,W M c (jv 10) true Q E D H =
  GO3 true Q .ret ((2,(.int .i64 0))::E) D H):=by (repeat' apply And.intro)<;>(intro _ _ _ _;refine W_unf ?_;kernel_rfl)
theorem qi0:(cProg Tryd.prog).func k9=some qcm/\qcm.results=[.tmp 2]:=x9 (by kernel_rfl)
theorem qi1 (h:W M ⟨none,k9⟩ (jv 0) true (FIN3 M [.tmp 2] Q) [(0,a0)] [] H):kx M k9 [a0] H Q:=callf (by decide) qi0 (ks:=qeo) (by kernel_rfl) h
end
end Go.Am
namespace Go.Am
abbrev yf:Nat:=125
abbrev qcp:Nat:=15
abbrev qgf:Nat:=63
abbrev qbx:Nat:=40
abbrev qgg:Nat:=62
abbrev qhm:Nat:=129
abbrev qgh:Nat:=128
abbrev yv:Nat:=101
abbrev qby:Nat:=100
abbrev z0:Nat:=99
abbrev qau:Nat:=41
abbrev z4:Nat:=66
abbrev xe:Nat:=64
abbrev qcy:Nat:=95
abbrev qrn:Nat:=123
abbrev qcs:Nat:=124
abbrev qah:Nat:=93
abbrev ky:Nat:=96
abbrev qay:Nat:=65
abbrev qj:Nat:=58
abbrev qsy:Nat:=4
abbrev T_int:Nat:=3
abbrev kp:Nat:=80
abbrev qdt:Nat:=78
def q53:List UInt8:=[115,116,114,105,110,103,115,58,32,110,101,103,97,116,105,118,101,32,82,101,112,101,97,116,32,99,111,117,110,116]
def q54:List UInt8:=[115,116,114,105,110,103,115,58,32,82,101,112,101,97,116,32,111,117,116,112,117,116,32,108,101,110,103,116,104,32,111,118,101,114,102,108,111,119]
def qhl:List UInt8:=[32,32,32,32,32,32,32,32,32,32,32,32,32,32,32,32,32,32,32,32,32,32,32,32,32,32,32,32,32,32,32,32,32,32,32,32,32,32,32,32,32,32,32,32,32,32,32,32,32,32,32,32,32,32,32,32,32,32,32,32,32,32,32,32,32,32,32,32,32,32,32,32,32,32,32,32,32,32,32,32,32,32,32,32,32,32,32,32,32,32,32,32,32,32,32,32,32,32,32,32,32,32,32,32,32,32,32,32,32,32,32,32,32,32,32,32,32,32,32,32,32,32,32,32,32,32,32,32]
def qxi:List UInt8:=[45,45,45,45,45,45,45,45,45,45,45,45,45,45,45,45,45,45,45,45,45,45,45,45,45,45,45,45,45,45,45,45,45,45,45,45,45,45,45,45,45,45,45,45,45,45,45,45,45,45,45,45,45,45,45,45,45,45,45,45,45,45,45,45,45,45,45,45,45,45,45,45,45,45,45,45,45,45,45,45,45,45,45,45,45,45,45,45,45,45,45,45,45,45,45,45,45,45,45,45,45,45,45,45,45,45,45,45,45,45,45,45,45,45,45,45,45,45,45,45,45,45,45,45,45,45,45,45]
def qxj:List UInt8:=[48,48,48,48,48,48,48,48,48,48,48,48,48,48,48,48,48,48,48,48,48,48,48,48,48,48,48,48,48,48,48,48,48,48,48,48,48,48,48,48,48,48,48,48,48,48,48,48,48,48,48,48,48,48,48,48,48,48,48,48,48,48,48,48]
def qxk:List UInt8:=[61,61,61,61,61,61,61,61,61,61,61,61,61,61,61,61,61,61,61,61,61,61,61,61,61,61,61,61,61,61,61,61,61,61,61,61,61,61,61,61,61,61,61,61,61,61,61,61,61,61,61,61,61,61,61,61,61,61,61,61,61,61,61,61,61,61,61,61,61,61,61,61,61,61,61,61,61,61,61,61,61,61,61,61,61,61,61,61,61,61,61,61,61,61,61,61,61,61,61,61,61,61,61,61,61,61,61,61,61,61,61,61,61,61,61,61,61,61,61,61,61,61,61,61,61,61,61,61]
def qxl:List UInt8:=[9,9,9,9,9,9,9,9,9,9,9,9,9,9,9,9,9,9,9,9,9,9,9,9,9,9,9,9,9,9,9,9,9,9,9,9,9,9,9,9,9,9,9,9,9,9,9,9,9,9,9,9,9,9,9,9,9,9,9,9,9,9,9,9]
def q55:List UInt8:=[116,104,101,32,114,101,115,117,108,116,32,111,102,32,40,108,101,110,40,120,41,32,42,32,99,111,117,110,116,41,32,111,118,101,114,102,108,111,119,115]
noncomputable section
open Go.Proofs Go.Proofs.YtbimikjajohflaaDoor
variable {M:Mac} [MK M] {H:AHeap} {Q:AEnd->AHeap->Prop} {a0 a1 a2:AV}
def qnf:AFunc:=funcAt Tryd.prog qcp
def qs7:Kp:=⟨[0,2,3,4],false,[0,2,10,14,22]⟩
def qaz (k:Nat):Kp × ACode:=(qs7,part qnf.body k)
theorem qs9 (M:Mac) (c:Ctx):(∀ Q E D H,W M c (qaz 0) true Q E D H =
 W M c (qaz 2) true Q ((3,(.int .i64 0))::(2,(.str []))::E) D H) /\
 (∀ Q E D H,W M c (qaz 2) true Q E D H =
  Lz E 0 fun g t0=>C3 M g (.func qbx) [t0] H fun g t6 H1=>B3 g ((Op.un .not) [t6]) fun g t7=>IF3 g t7 (fun g=>GO3 g (SEQ3 (W M c (qaz 10)) Q) .ret ((3,(.int .i64 2))::(2,(.str []))::E) D H1) (fun g=>Gt g M c (qaz 10) Q E D H1)) /\
 (∀ Q E D H,W M c (qaz 10) true Q E D H =
  Lz E 0 fun g t0=>B3 g ((Op.build [.nilp,.nils,.nils,(.int .i64 0),(.int .i64 0)] [(2,1)]) [t0]) fun g t9=>A3 g kp (AV.cells t9) H fun g t10 H1=>Ly g E 0 fun g t0_1=>B3 g (Op.lenSl [t0_1]) fun g t13=>Bn g .sub t13 (.int .i64 1) fun g t14=>C3 M g (.func qau) [t10,t14,(.int .i64 0)] H1 fun g t15 H2=>W M c (qaz 14) g Q ((4,t10)::E) D H2) /\
 (∀ Q E D H,W M c (qaz 14) true Q E D H =
  Lz E 4 fun g t4=>Nf g 4 t4 H fun g t19=>Cb g .gtr t19 (.int .i64 50) (fun g=>GO3 g (SEQ3 (W M c (qaz 22)) Q) .ret ((3,(.int .i64 2))::(2,(.str []))::E) D H) (fun g=>Gt g M c (qaz 22) Q E D H)) /\
 (∀ Q E D H,W M c (qaz 22) true Q E D H =
  Lz E 4 fun g t4=>B3 g (Op.nilCheck [t4]) fun g t22=>B3 g ((Op.fieldAddr 0) [t22]) fun g t23=>C3 M g (.func j9) [t23] H fun g t24 H1=>GO3 g Q .ret ((3,(.int .i64 0))::(2,t24)::E) D H1):=by (repeat' apply And.intro)<;>(intro _ _ _ _;refine W_unf ?_;kernel_rfl)
theorem q07:(cProg Tryd.prog).func qcp=some qnf/\qnf.results=[.tmp 2,.tmp 3]:=x9 (by kernel_rfl)
theorem qs8 (h:W M ⟨none,qcp⟩ (qaz 0) true (FIN3 M [.tmp 2,.tmp 3] Q) [(0,a0)] [] H):kx M qcp [a0] H Q:=callf (by decide) q07 (ks:=qs7) (by kernel_rfl) h
def qr3:AFunc:=funcAt Tryd.prog qbx
def qxv:Kp:=⟨[0,2,3,4,5,6,7,8,9,10,11,33,34,35,70,71,72],false,[0,2,10,14,19,25,31,39,41,46,52,56,64,65,66,70,78,80,81,82]⟩
def xq (k:Nat):Kp × ACode:=(qxv,part qr3.body k)
theorem qxw (M:Mac) (c:Ctx):(∀ Q E D H,W M c (xq 0) true Q E D H =
 W M c (xq 2) true Q ((2,(.bool false))::E) D H) /\
 (∀ Q E D H,W M c (xq 2) true Q E D H =
  Lz E 0 fun g t0=>B3 g (Op.lenSl [t0]) fun g t13=>Bn g .lss t13 (.int .i64 1) fun g t14=>JN (fun (k:Bool->AV->AV->AV->AHeap->Prop)=>B3 g (wantV false (some t14)) fun g w=>IG3 g w (fun g=>B3 g (Op.lenSl [t0]) fun g t17=>Bn g .gtr t17 (.int .i64 2000) fun g t18=>k g t18 t17 t0 H) (fun g=>k g uu uu uu H)) (fun g t18_1 t17_1 t16_1 H1=>B3 g (Op.pick [t14,(.bool true),t18_1]) fun g t19=>JN (fun (k:Bool->AV->AV->AV->AV->AV->AV->AV->AV->AHeap->Prop)=>B3 g (wantV false (some t19)) fun g w=>IG3 g w (fun g=>B3 g (Op.lenSl [t0]) fun g t23=>Bn g .sub t23 (.int .i64 1) fun g t24=>B3 g ((Op.indexSl 3) [t0,t24]) fun g t25=>B3 g ((Op.fieldAddr 0) [t25]) fun g t26=>B3 g (Op.load1 [t26] H1) fun g t27=>Bn g .neq t27 (.int .i64 20) fun g t28=>k g t28 t27 t26 t25 t24 t23 t0 t0 H1) (fun g=>k g uu uu uu uu uu uu uu uu H1)) (fun g t28_1 t27_1 t26_1 t25_1 t24_1 t23_1 t22_1 t21_1 H2=>B3 g (Op.pick [t19,(.bool true),t28_1]) fun g t29=>IF3 g t29 (fun g=>GO3 g (SEQ3 (W M c (xq 10)) Q) .ret ((2,(.bool false))::E) D H2) (fun g=>Gt g M c (xq 10) Q E D H2)))) /\
 (∀ Q E D H,W M c (xq 10) true Q E D H =
  Lz E 0 fun g t0=>B3 g (Op.lenSl [t0]) fun g t31=>B32 g ((Op.mkSlice qsy 1 [(.bool false)]) [t31,t31]) fun g o1 k1=>W M c (xq 14) g Q ((4,(k1 H.next))::(3,.nils)::E) D (H.alloc o1)) /\
 (∀ Q E D H,W M c (xq 14) true Q E D H =
  Lz E 0 fun g t0=>B3 g (Op.lenSl [t0]) fun g t34=>LOOP3 (W M c (xq 19)) (BLK3 0 (SEQ3 (W M c (xq 82)) Q)) ((35,(.int .i64 0))::(34,t34)::(33,t0)::E) D H) /\
 (∀ Q E D H,W M c (xq 82) true Q E D H =
  Lz E 3 fun g t3=>B3 g (Op.lenSl [t3]) fun g t132=>Bn g .eql t132 (.int .i64 1) fun g t133=>GO3 g Q .ret ((2,t133)::E) D H) /\
 (∀ Q E D H,W M c (xq 19) true Q E D H =
  Lz E 35 fun g t35=>Ly g E 34 fun g t34=>Cb g .lss t35 t34 (fun g=>Gt g M c (xq 25) Q E D H) (fun g=>GO3 g (SEQ3 (W M c (xq 25)) Q) (.exit 0) E D H)) /\
 (∀ Q E D H,W M c (xq 25) true Q E D H =
  Lz E 35 fun g t35=>Ly g E 33 fun g t33=>B3 g ((Op.indexSl 3) [t33,t35]) fun g t38=>B3 g ((Op.loadN 3) [t38] H) fun g t39=>A3 g qj [(.int .i64 0),(.int .u64 0),.nils] H fun g t6 H1=>B32 g ((Op.store 3) [t6,t39] H1) fun g u H2=>B3 g ((Op.loadN 3) [t6] H2) fun g t41=>C3 M g (.func qgg) [t41] H2 fun g t42 H3=>B3 g ((Op.extract 0) [t42]) fun g t43=>B3 g ((Op.extract 1) [t42]) fun g t44=>W M c (xq 31) g (BLK3 1 (SEQ3 (W M c (xq 81)) Q)) ((8,t44)::(7,t43)::(5,t35)::(6,t6)::E) D H3) /\
 (∀ Q E D H,W M c (xq 81) true Q E D H =
  Lz E 35 fun g t35=>Bn g .add t35 (.int .i64 1) fun g t130=>GO3 g Q .normal ((35,t130)::E) D H) /\
 (∀ Q E D H,W M c (xq 31) true Q E D H =
  Lz E 8 fun g t8=>B3 g ((Op.un .not) [t8]) fun g t46=>JN (fun (k:Bool->AV->AV->AV->AV->AV->AV->AHeap->Prop)=>B3 g (wantV false (some t46)) fun g w=>IG3 g w (fun g=>Ly g E 7 fun g t7=>B3 g (Op.lenSl [t7]) fun g t49=>Ly g E 6 fun g t6=>B3 g ((Op.fieldAddr 2) [t6]) fun g t50=>B3 g (Op.load1 [t50] H) fun g t51=>B3 g (Op.lenSl [t51]) fun g t52=>Bn g .neq t49 t52 fun g t53=>k g t53 t52 t51 t50 t49 t7 H) (fun g=>k g uu uu uu uu uu uu H)) (fun g t53_1 t52_1 t51_1 t50_1 t49_1 t48_1 H1=>B3 g (Op.pick [t46,(.bool true),t53_1]) fun g t54=>JN (fun (k:Bool->AV->AV->AV->AV->AV->AHeap->Prop)=>B3 g (wantV false (some t54)) fun g w=>IG3 g w (fun g=>Ly g E 7 fun g t7_1=>B3 g (Op.lenSl [t7_1]) fun g t57=>Ly g E 3 fun g t3=>B3 g (Op.lenSl [t3]) fun g t59=>Bn g .gtr t57 t59 fun g t60=>k g t60 t59 t3 t57 t7_1 H1) (fun g=>k g uu uu uu uu uu H1)) (fun g t60_1 t59_1 t58_1 t57_1 t56_1 H2=>B3 g (Op.pick [t54,(.bool true),t60_1]) fun g t61=>IF3 g t61 (fun g=>GO3 g (SEQ3 (W M c (xq 39)) Q) .ret ((2,(.bool false))::E) D H2) (fun g=>Gt g M c (xq 39) Q E D H2)))) /\
 (∀ Q E D H,W M c (xq 39) true Q E D H =
  Lz E 3 fun g t3=>B3 g (Op.lenSl [t3]) fun g t64=>Ly g E 7 fun g t7=>B3 g (Op.lenSl [t7]) fun g t66=>Bn g .sub t64 t66 fun g t67=>B3 g ((Op.sliceSl 1 [(some 0),none,none]) [t3,t67]) fun g t68=>W M c (xq 41) g Q ((9,t68)::E) D H) /\
 (∀ Q E D H,W M c (xq 41) true Q E D H =
  Lz E 6 fun g t6=>Fl g 2 t6 H fun g t70=>B3 g (Op.lenSl [t70]) fun g t71=>LOOP3 (W M c (xq 46)) (BLK3 2 (SEQ3 (W M c (xq 66)) Q)) ((72,(.int .i64 0))::(71,t71)::(70,t70)::E) D H) /\
 (∀ Q E D H,W M c (xq 66) true Q E D H =
  Lz E 6 fun g t6=>Fl g 0 t6 H fun g t111=>Cb g .eql t111 (.int .i64 18) (fun g=>W M c (xq 70) g (SEQ3 (W M c (xq 80)) Q) E D H) (fun g=>Gt g M c (xq 80) Q E D H)) /\
 (∀ Q E D H,W M c (xq 46) true Q E D H =
  Lz E 72 fun g t72=>Ly g E 71 fun g t71=>Cb g .lss t72 t71 (fun g=>Gt g M c (xq 52) Q E D H) (fun g=>GO3 g (SEQ3 (W M c (xq 52)) Q) (.exit 2) E D H)) /\
 (∀ Q E D H,W M c (xq 80) true Q E D H =
  Lz E 3 fun g t3=>B3 g (Op.lenSl [t3]) fun g t122=>Ly g E 7 fun g t7=>B3 g (Op.lenSl [t7]) fun g t124=>Bn g .sub t122 t124 fun g t125=>B3 g ((Op.sliceSl 1 [none,(some 0),none]) [t3,t125]) fun g t126=>Ly g E 5 fun g t5=>B32 g ((Op.buildSlice T_int 1 [(.int .i64 0)] [(0,1)]) [t5]) fun g o1 k1=>B32 g ((Op.append T_int 1 8) [t126,(k1 H.next)] (H.alloc o1)) fun g t129 H2=>GO3 g Q .normal ((3,t129)::E) D H2) /\
 (∀ Q E D H,W M c (xq 70) true Q E D H =
  Lz E 4 fun g t4=>Ly g E 5 fun g t5=>Xl g t4 t5 H fun g t116=>IF3 g t116 (fun g=>GO3 g (SEQ3 (W M c (xq 78)) Q) .ret ((2,(.bool false))::E) D H) (fun g=>Gt g M c (xq 78) Q E D H)) /\
 (∀ Q E D H,W M c (xq 52) true Q E D H =
  Lz E 72 fun g t72=>Ly g E 70 fun g t70=>Xl g t70 t72 H fun g t76=>W M c (xq 56) g (BLK3 3 (SEQ3 (W M c (xq 65)) Q)) ((11,t76)::(10,t72)::E) D H) /\
 (∀ Q E D H,W M c (xq 78) true Q E D H =
  Lz E 4 fun g t4=>Ly g E 5 fun g t5=>Xs g t4 t5 (.bool true) H fun g u H1=>GO3 g Q .normal E D H1) /\
 (∀ Q E D H,W M c (xq 65) true Q E D H =
  Lz E 72 fun g t72=>Bn g .add t72 (.int .i64 1) fun g t109=>GO3 g Q .normal ((72,t109)::E) D H) /\
 (∀ Q E D H,W M c (xq 56) true Q E D H =
  Lz E 9 fun g t9=>Ly g E 10 fun g t10=>Xl g t9 t10 H fun g t80=>Ly g E 11 fun g t11=>Bn g .neq t80 t11 fun g t82=>JN (fun (k:Bool->AV->AV->AV->AV->AV->AV->AV->AV->AV->AV->AV->AHeap->Prop)=>B3 g (wantV false (some t82)) fun g w=>IG3 g w (fun g=>Ly g E 0 fun g t0=>B3 g ((Op.indexSl 3) [t0,t11]) fun g t86=>B3 g ((Op.fieldAddr 0) [t86]) fun g t87=>B3 g (Op.load1 [t87] H) fun g t88=>Ly g E 7 fun g t7=>B3 g ((Op.indexSl 1) [t7,t10]) fun g t92=>B3 g (Op.load1 [t92] H) fun g t93=>C3 M g (.func qgf) [t88] H fun g t89 H1=>CK3 g (Op.load1 [t92] H1) (some t93) fun g=>Bn g .neq t89 t93 fun g t94=>k g t94 t89 t93 t92 t10 t7 t88 t87 t86 t11 t0 H1) (fun g=>k g uu uu uu uu uu uu uu uu uu uu uu H)) (fun g t94_1 t89_1 t93_1 t92_1 t91_1 t90_1 t88_1 t87_1 t86_1 t85_1 t84_1 H2=>B3 g (Op.pick [t82,(.bool true),t94_1]) fun g t95=>IF3 g t95 (fun g=>GO3 g (SEQ3 (W M c (xq 64)) Q) .ret ((2,(.bool false))::E) D H2) (fun g=>Gt g M c (xq 64) Q E D H2))) /\
 (∀ Q E D H,W M c (xq 64) true Q E D H =
  Lz E 4 fun g t4=>Ly g E 5 fun g t5=>Xl g t4 t5 H fun g t101=>JN (fun (k:Bool->AV->AV->AV->AV->AHeap->Prop)=>B3 g (wantV false (some t101)) fun g w=>IG3 g w (fun g=>Ly g E 11 fun g t11=>B3 g ((Op.indexSl 1) [t4,t11]) fun g t105=>B3 g (Op.load1 [t105] H) fun g t106=>k g t106 t105 t11 t4 H) (fun g=>k g uu uu uu uu H)) (fun g t106_1 t105_1 t104_1 t103_1 H1=>B3 g (Op.pick [t101,(.bool true),t106_1]) fun g t107=>Xs g t4 t5 t107 H1 fun g u H2=>GO3 g Q .normal E D H2)):=by (repeat' apply And.intro)<;>(intro _ _ _ _;refine W_unf ?_;kernel_rfl)
theorem q62:(cProg Tryd.prog).func qbx=some qr3/\qr3.results=[.tmp 2]:=x9 (by kernel_rfl)
theorem q63 (h:W M ⟨none,qbx⟩ (xq 0) true (FIN3 M [.tmp 2] Q) [(0,a0)] [] H):kx M qbx [a0] H Q:=callf (by decide) q62 (ks:=qxv) (by kernel_rfl) h
def qgw:AFunc:=funcAt Tryd.prog qau
def qkm:Kp:=⟨[0,1,2,7,15,16,17],false,[0,4,10,19]⟩
def vj (k:Nat):Kp × ACode:=(qkm,part qgw.body k)
theorem qb0 (M:Mac) (c:Ctx):(∀ Q E D H,W M c (vj 0) true Q E D H =
 Lz E 0 fun g t0=>Nf g 2 t0 H fun g t11=>Ly g E 1 fun g t1=>B3 g ((Op.indexSl 3) [t11,t1]) fun g t13=>Fl g 2 t13 H fun g t15=>B3 g (Op.lenSl [t15]) fun g t16=>LOOP3 (W M c (vj 4)) (BLK3 0 Q) ((17,(.int .i64 0))::(16,t16)::(15,t15)::E) D H) /\
 (∀ Q E D H,W M c (vj 4) true Q E D H =
  Lz E 17 fun g t17=>Ly g E 16 fun g t16=>Cb g .lss t17 t16 (fun g=>Gt g M c (vj 10) Q E D H) (fun g=>GO3 g (SEQ3 (W M c (vj 10)) Q) (.exit 0) E D H)) /\
 (∀ Q E D H,W M c (vj 10) true Q E D H =
  Lz E 15 fun g t15=>Ly g E 17 fun g t17=>Xl g t15 t17 H fun g t20=>Ly g E 0 fun g t0=>Ly g E 2 fun g t2=>C3 M g (.func qay) [(.str [32,32]),t2] H fun g t23 H1=>C3 M g (.func xe) [t0,t23] H1 fun g t24 H2=>Ly g E 0 fun g t0_1=>Ly g E 2 fun g t2_1=>C3 M g (.func z4) [t0_1,t20,t2_1] H2 fun g t28 H3=>Ly g E 0 fun g t0_2=>C3 M g (.func xe) [t0_2,(.str [10])] H3 fun g t30 H4=>GO3 g (BLK3 1 (SEQ3 (W M c (vj 19)) Q)) .normal ((7,t20)::E) D H4) /\
 (∀ Q E D H,W M c (vj 19) true Q E D H =
  Lz E 17 fun g t17=>Bn g .add t17 (.int .i64 1) fun g t31=>GO3 g Q .normal ((17,t31)::E) D H):=by (repeat' apply And.intro)<;>(intro _ _ _ _;refine W_unf ?_;kernel_rfl)
theorem qqo:(cProg Tryd.prog).func qau=some qgw/\qgw.results=[]:=x9 (by kernel_rfl)
theorem qqp (h:W M ⟨none,qau⟩ (vj 0) true (FIN3 M [] Q) [(0,a0),(1,a1),(2,a2)] [] H):kx M qau [a0,a1,a2] H Q:=callf (by decide) qqo (ks:=qkm) (by kernel_rfl) h
def qnh:AFunc:=funcAt Tryd.prog qgg
def qtb:Kp:=⟨[0,1,2,3,4,33,43,51,75],false,[0,4,12,24,28,34,38,44,54,60,70,77]⟩
def zj (k:Nat):Kp × ACode:=(qtb,part qnh.body k)
theorem ku (M:Mac) (c:Ctx):(∀ Q E D H,W M c (zj 0) true Q E D H =
 Lz E 0 fun g t0=>A3 g qj (AV.cells t0) H fun g t1 H1=>Fl g 0 t1 H1 fun g t6=>Bn g .eql t6 (.int .i64 2) fun g t7=>JN (fun (k:Bool->AV->AV->AV->AHeap->Prop)=>B3 g (wantV false (some t7)) fun g w=>IG3 g w (fun g=>B3 g ((Op.fieldAddr 0) [t1]) fun g t9=>B3 g (Op.load1 [t9] H1) fun g t10=>Bn g .eql t10 (.int .i64 14) fun g t11=>k g t11 t10 t9 H1) (fun g=>k g uu uu uu H1)) (fun g t11_1 t10_1 t9_1 H2=>B3 g (Op.pick [t7,(.bool true),t11_1]) fun g t12=>W M c (zj 4) g Q ((4,t12)::(3,(.bool false))::(2,.nils)::(1,t1)::E) D H2)) /\
 (∀ Q E D H,W M c (zj 4) true Q E D H =
  Lz E 4 fun g t4=>JN (fun (k:Bool->AV->AV->AV->AHeap->Prop)=>B3 g (wantV true (some t4)) fun g w=>IG3 g w (fun g=>Ly g E 1 fun g t1=>B3 g ((Op.fieldAddr 1) [t1]) fun g t15=>B3 g (Op.load1 [t15] H) fun g t16=>Bn g .gtr t16 (.int .u64 7) fun g t17=>k g t17 t16 t15 H) (fun g=>k g uu uu uu H)) (fun g t17_1 t16_1 t15_1 H1=>B3 g (Op.pick [t4,t17_1,(.bool false)]) fun g t18=>JN (fun (k:Bool->AV->AV->AV->AHeap->Prop)=>B3 g (wantV false (some t18)) fun g w=>IG3 g w (fun g=>B3 g ((Op.un .not) [t4]) fun g t21=>k g t21 t21 t4 H1) (fun g=>k g uu uu uu H1)) (fun g t22_1 t21_1 t20_1 H2=>JN (fun (k:Bool->AV->AV->AV->AHeap->Prop)=>B3 g (wantV true (some t22_1)) fun g w=>IG3 g w (fun g=>Ly g E 1 fun g t1_1=>B3 g ((Op.fieldAddr 0) [t1_1]) fun g t23=>B3 g (Op.load1 [t23] H2) fun g t24=>Bn g .neq t24 (.int .i64 1) fun g t25=>k g t25 t24 t23 H2) (fun g=>k g uu uu uu H2)) (fun g t25_1 t24_1 t23_1 H3=>JN (fun (k:Bool->AV->AV->AHeap->Prop)=>B3 g (wantV false (some t18)) fun g w=>IG3 g w (fun g=>B3 g (Op.pick [t22_1,t25_1,(.bool false)]) fun g t26=>k g t26 t26 H3) (fun g=>k g uu uu H3)) (fun g t27_1 t26_1 H4=>JN (fun (k:Bool->AV->AV->AV->AHeap->Prop)=>B3 g (wantV true (some t27_1)) fun g w=>IG3 g w (fun g=>Ly g E 1 fun g t1_2=>B3 g ((Op.fieldAddr 1) [t1_2]) fun g t28=>B3 g (Op.load1 [t28] H4) fun g t29=>Bn g .neq t29 (.int .u64 0) fun g t30=>k g t30 t29 t28 H4) (fun g=>k g uu uu uu H4)) (fun g t30_1 t29_1 t28_1 H5=>JN (fun (k:Bool->AV->AHeap->Prop)=>B3 g (wantV false (some t18)) fun g w=>IG3 g w (fun g=>B3 g (Op.pick [t27_1,t30_1,(.bool false)]) fun g t31=>k g t31 H5) (fun g=>k g uu H5)) (fun g t31_1 H6=>B3 g (Op.pick [t18,(.bool true),t31_1]) fun g t32=>IF3 g t32 (fun g=>GO3 g (SEQ3 (W M c (zj 12)) Q) .ret ((3,(.bool false))::(2,.nils)::E) D H6) (fun g=>Gt g M c (zj 12) Q E D H6)))))))) /\
 (∀ Q E D H,W M c (zj 12) true Q E D H =
  Lz E 1 fun g t1=>Fl g 0 t1 H fun g t35=>Bn g .eql t35 (.int .i64 1) fun g t36=>IF3 g t36 (fun g=>Gt g M c (zj 24) (BLK3 0 (SEQ3 (W M c (zj 77)) Q)) ((33,t36)::E) D H) (fun g=>Ly g E 1 fun g t1_1=>Fl g 0 t1_1 H fun g t38=>Bn g .eql t38 (.int .i64 2) fun g t39=>IF3 g t39 (fun g=>Gt g M c (zj 24) (BLK3 0 (SEQ3 (W M c (zj 77)) Q)) ((33,t39)::(33,t36)::E) D H) (fun g=>Ly g E 1 fun g t1_2=>Fl g 0 t1_2 H fun g t41=>Bn g .eql t41 (.int .i64 19) fun g t42=>Gt g M c (zj 24) (BLK3 0 (SEQ3 (W M c (zj 77)) Q)) ((33,t42)::(33,t39)::(33,t36)::E) D H))) /\
 (∀ Q E D H,W M c (zj 77) true Q E D H =
  GO3 true Q .ret ((3,(.bool false))::(2,.nils)::E) D H) /\
 (∀ Q E D H,W M c (zj 24) true Q E D H =
  Lz E 33 fun g t33=>IF3 g t33 (fun g=>GO3 g Q .ret ((3,(.bool true))::(2,.nils)::E) D H) (fun g=>W M c (zj 28) g Q E D H)) /\
 (∀ Q E D H,W M c (zj 28) true Q E D H =
  Lz E 1 fun g t1=>Fl g 0 t1 H fun g t45=>Bn g .eql t45 (.int .i64 3) fun g t46=>IF3 g t46 (fun g=>Gt g M c (zj 34) Q ((43,t46)::E) D H) (fun g=>Ly g E 1 fun g t1_1=>Fl g 0 t1_1 H fun g t48=>Bn g .eql t48 (.int .i64 14) fun g t49=>Gt g M c (zj 34) Q ((43,t49)::(43,t46)::E) D H)) /\
 (∀ Q E D H,W M c (zj 34) true Q E D H =
  Lz E 43 fun g t43=>IF3 g t43 (fun g=>B32 g ((Op.buildSlice T_int 1 [(.int .i64 0)] [(0,1)]) [(.int .i64 1)]) fun g o1 k1=>GO3 g Q .ret ((3,(.bool true))::(2,(k1 H.next))::E) D (H.alloc o1)) (fun g=>W M c (zj 38) g Q E D H)) /\
 (∀ Q E D H,W M c (zj 38) true Q E D H =
  Lz E 1 fun g t1=>Fl g 0 t1 H fun g t53=>Bn g .geq t53 (.int .i64 4) fun g t54=>JN (fun (k:Bool->AV->AV->AV->AHeap->Prop)=>B3 g (wantV true (some t54)) fun g w=>IG3 g w (fun g=>B3 g ((Op.fieldAddr 0) [t1]) fun g t56=>B3 g (Op.load1 [t56] H) fun g t57=>Bn g .leq t57 (.int .i64 13) fun g t58=>k g t58 t57 t56 H) (fun g=>k g uu uu uu H)) (fun g t58_1 t57_1 t56_1 H1=>B3 g (Op.pick [t54,t58_1,(.bool false)]) fun g t59=>IF3 g t59 (fun g=>Gt g M c (zj 44) Q ((51,t59)::E) D H1) (fun g=>Ly g E 1 fun g t1_1=>Fl g 0 t1_1 H1 fun g t61=>Bn g .eql t61 (.int .i64 15) fun g t62=>Gt g M c (zj 44) Q ((51,t62)::(51,t59)::E) D H1))) /\
 (∀ Q E D H,W M c (zj 44) true Q E D H =
  Lz E 51 fun g t51=>IF3 g t51 (fun g=>B32 g ((Op.buildSlice T_int 2 [(.int .i64 0)] [(0,1),(1,1)]) [(.int .i64 1),(.int .i64 1)]) fun g o1 k1=>GO3 g Q .ret ((3,(.bool true))::(2,(k1 H.next))::E) D (H.alloc o1)) (fun g=>Ly g E 1 fun g t1=>Fl g 0 t1 H fun g t66=>Bn g .eql t66 (.int .i64 16) fun g t67=>JN (fun (k:Bool->AV->AV->AV->AV->AHeap->Prop)=>B3 g (wantV true (some t67)) fun g w=>IG3 g w (fun g=>B3 g ((Op.fieldAddr 2) [t1]) fun g t69=>B3 g (Op.load1 [t69] H) fun g t70=>B3 g (Op.lenSl [t70]) fun g t71=>Bn g .eql t71 (.int .i64 3) fun g t72=>k g t72 t71 t70 t69 H) (fun g=>k g uu uu uu uu H)) (fun g t72_1 t71_1 t70_1 t69_1 H1=>B3 g (Op.pick [t67,t72_1,(.bool false)]) fun g t73=>IF3 g t73 (fun g=>B32 g ((Op.buildSlice T_int 3 [(.int .i64 0)] [(0,1),(1,1),(2,1)]) [(.int .i64 2),(.int .i64 4),(.int .i64 4)]) fun g o2 k2=>GO3 g Q .ret ((3,(.bool true))::(2,(k2 H1.next))::E) D (H1.alloc o2)) (fun g=>W M c (zj 54) g Q E D H1)))) /\
 (∀ Q E D H,W M c (zj 54) true Q E D H =
  Lz E 1 fun g t1=>Fl g 0 t1 H fun g t77=>Bn g .eql t77 (.int .i64 16) fun g t78=>IF3 g t78 (fun g=>Gt g M c (zj 60) Q ((75,t78)::E) D H) (fun g=>Ly g E 1 fun g t1_1=>Fl g 0 t1_1 H fun g t80=>Bn g .eql t80 (.int .i64 17) fun g t81=>Gt g M c (zj 60) Q ((75,t81)::(75,t78)::E) D H)) /\
 (∀ Q E D H,W M c (zj 60) true Q E D H =
  Lz E 75 fun g t75=>IF3 g t75 (fun g=>B32 g ((Op.buildSlice T_int 2 [(.int .i64 0)] [(0,1),(1,1)]) [(.int .i64 2),(.int .i64 4)]) fun g o1 k1=>GO3 g Q .ret ((3,(.bool true))::(2,(k1 H.next))::E) D (H.alloc o1)) (fun g=>Ly g E 1 fun g t1=>Fl g 0 t1 H fun g t85=>Cb g .eql t85 (.int .i64 18) (fun g=>B32 g ((Op.buildSlice T_int 1 [(.int .i64 0)] [(0,1)]) [(.int .i64 4)]) fun g o1 k1=>GO3 g Q .ret ((3,(.bool true))::(2,(k1 H.next))::E) D (H.alloc o1)) (fun g=>W M c (zj 70) g Q E D H))) /\
 (∀ Q E D H,W M c (zj 70) true Q E D H =
  Lz E 1 fun g t1=>Fl g 0 t1 H fun g t90=>Cb g .eql t90 (.int .i64 20) (fun g=>B32 g ((Op.buildSlice T_int 1 [(.int .i64 0)] [(0,1)]) [(.int .i64 3)]) fun g o1 k1=>Ly g E 1 fun g t1_1=>Fl g 2 t1_1 (H.alloc o1) fun g t94=>B3 g (Op.lenSl [t94]) fun g t95=>C3 M g (.func qah) [(k1 H.next),t95] (H.alloc o1) fun g t96 H2=>GO3 g Q .ret ((3,(.bool true))::(2,t96)::E) D H2) (fun g=>GO3 g Q .normal E D H)):=by (repeat' apply And.intro)<;>(intro _ _ _ _;refine W_unf ?_;kernel_rfl)
theorem q1a:(cProg Tryd.prog).func qgg=some qnh/\qnh.results=[.tmp 2,.tmp 3]:=x9 (by kernel_rfl)
theorem q1b (h:W M ⟨none,qgg⟩ (zj 0) true (FIN3 M [.tmp 2,.tmp 3] Q) [(0,a0)] [] H):kx M qgg [a0] H Q:=callf (by decide) q1a (ks:=qtb) (by kernel_rfl) h
def qng:AFunc:=funcAt Tryd.prog qgf
def qta:Kp:=⟨[0,2],false,[0,2,16,29]⟩
def qcq (k:Nat):Kp × ACode:=(qta,part qng.body k)
theorem qgn (M:Mac) (c:Ctx):(∀ Q E D H,W M c (qcq 0) true Q E D H =
 W M c (qcq 2) true Q ((2,(.int .i64 0))::E) D H) /\
 (∀ Q E D H,W M c (qcq 2) true Q E D H =
  Lz E 0 fun g t0=>Bn g .geq t0 (.int .i64 1) fun g t5=>JN (fun (k:Bool->AV->AV->AHeap->Prop)=>B3 g (wantV true (some t5)) fun g w=>IG3 g w (fun g=>Bn g .leq t0 (.int .i64 10) fun g t8=>k g t8 t0 H) (fun g=>k g uu uu H)) (fun g t8_1 t7_1 H1=>B3 g (Op.pick [t5,t8_1,(.bool false)]) fun g t9=>IF3 g t9 (fun g=>GO3 g (BLK3 0 (SEQ3 (W M c (qcq 29)) Q)) .ret ((2,(.int .i64 1))::E) D H1) (fun g=>Ly g E 0 fun g t0_1=>Bn g .geq t0_1 (.int .i64 11) fun g t12=>JN (fun (k:Bool->AV->AV->AHeap->Prop)=>B3 g (wantV true (some t12)) fun g w=>IG3 g w (fun g=>Bn g .leq t0_1 (.int .i64 13) fun g t15=>k g t15 t0_1 H1) (fun g=>k g uu uu H1)) (fun g t15_1 t14_1 H2=>B3 g (Op.pick [t12,t15_1,(.bool false)]) fun g t16=>IF3 g t16 (fun g=>GO3 g (BLK3 0 (SEQ3 (W M c (qcq 29)) Q)) .ret ((2,(.int .i64 2))::E) D H2) (fun g=>W M c (qcq 16) g (BLK3 0 (SEQ3 (W M c (qcq 29)) Q)) E D H2))))) /\
 (∀ Q E D H,W M c (qcq 29) true Q E D H =
  GO3 true Q .ret ((2,(.int .i64 0))::E) D H) /\
 (∀ Q E D H,W M c (qcq 16) true Q E D H =
  Lz E 0 fun g t0=>Bn g .geq t0 (.int .i64 14) fun g t19=>JN (fun (k:Bool->AV->AV->AHeap->Prop)=>B3 g (wantV true (some t19)) fun g w=>IG3 g w (fun g=>Bn g .leq t0 (.int .i64 19) fun g t22=>k g t22 t0 H) (fun g=>k g uu uu H)) (fun g t22_1 t21_1 H1=>B3 g (Op.pick [t19,t22_1,(.bool false)]) fun g t23=>IF3 g t23 (fun g=>GO3 g Q .ret ((2,(.int .i64 3))::E) D H1) (fun g=>Ly g E 0 fun g t0_1=>Cb g .eql t0_1 (.int .i64 20) (fun g=>GO3 g Q .ret ((2,(.int .i64 4))::E) D H1) (fun g=>GO3 g Q .normal E D H1)))):=by (repeat' apply And.intro)<;>(intro _ _ _ _;refine W_unf ?_;kernel_rfl)
theorem q08:(cProg Tryd.prog).func qgf=some qng/\qng.results=[.tmp 2]:=x9 (by kernel_rfl)
theorem q09 (h:W M ⟨none,qgf⟩ (qcq 0) true (FIN3 M [.tmp 2] Q) [(0,a0)] [] H):kx M qgf [a0] H Q:=callf (by decide) q08 (ks:=qta) (by kernel_rfl) h
def qgy:AFunc:=funcAt Tryd.prog xe
def qkn:Kp:=⟨[0,1,5,7,8,11,12,34],false,[0,5,11,18,23,27,33,36]⟩
def zh (k:Nat):Kp × ACode:=(qkn,part qgy.body k)
theorem qko (M:Mac) (c:Ctx):(∀ Q E D H,W M c (zh 0) true Q E D H =
 Lz E 1 fun g t1=>B32 g (Op.rangeStr [t1]) fun g o1 k1=>LOOP3 (W M c (zh 5)) (BLK3 0 (SEQ3 (W M c (zh 36)) Q)) ((7,(k1 H.next))::E) D (H.alloc o1)) /\
 (∀ Q E D H,W M c (zh 36) true Q E D H =
  Lz E 0 fun g t0=>B3 g (Op.nilCheck [t0]) fun g t45=>B3 g ((Op.fieldAddr 0) [t45]) fun g t46=>Ly g E 1 fun g t1=>C3 M g (.func ja) [t46,t1] H fun g t48 H1=>GO3 g Q .normal E D H1) /\
 (∀ Q E D H,W M c (zh 5) true Q E D H =
  Lz E 7 fun g t7=>B32 g (Op.nextStr [t7] H) fun g t8 H1=>B3 g ((Op.extract 0) [t8]) fun g t9=>IF3 g t9 (fun g=>Gt g M c (zh 11) Q ((8,t8)::E) D H1) (fun g=>GO3 g (SEQ3 (W M c (zh 11)) Q) (.exit 0) ((8,t8)::E) D H1)) /\
 (∀ Q E D H,W M c (zh 11) true Q E D H =
  Lz E 8 fun g t8=>B3 g ((Op.extract 2) [t8]) fun g t10=>W M c (zh 18) g (SEQ3 (W M c (zh 23)) (BLK3 2 (BLK3 1 Q))) ((11,t10)::(5,t10)::E) D H) /\
 (∀ Q E D H,W M c (zh 23) true Q E D H =
  Lz E 12 fun g t12=>IF3 g t12 (fun g=>Ly g E 0 fun g t0=>Nf g 3 t0 H fun g t18=>Bn g .add t18 (.int .i64 1) fun g t19=>Ns g 3 t0 t19 H fun g u H1=>Ly g E 0 fun g t0_1=>Nf g 4 t0_1 H1 fun g t26=>Nf g 3 t0_1 H1 fun g t30=>B3 g ((Op.minmax true) [t26,t30]) fun g t31=>Ns g 4 t0_1 t31 H1 fun g u_1 H2=>GO3 g Q .normal E D H2) (fun g=>W M c (zh 27) g Q E D H)) /\
 (∀ Q E D H,W M c (zh 18) true Q E D H =
  Lz E 11 fun g t11=>Bn g .eql t11 (.int .i32 40) fun g t13=>IF3 g t13 (fun g=>GO3 g Q .normal ((12,t13)::E) D H) (fun g=>Ly g E 11 fun g t11_1=>Bn g .eql t11_1 (.int .i32 123) fun g t14=>GO3 g Q .normal ((12,t14)::(12,t13)::E) D H)) /\
 (∀ Q E D H,W M c (zh 27) true Q E D H =
  Lz E 11 fun g t11=>Bn g .eql t11 (.int .i32 41) fun g t35=>IF3 g t35 (fun g=>Gt g M c (zh 33) Q ((34,t35)::E) D H) (fun g=>Ly g E 11 fun g t11_1=>Bn g .eql t11_1 (.int .i32 125) fun g t36=>Gt g M c (zh 33) Q ((34,t36)::(34,t35)::E) D H)) /\
 (∀ Q E D H,W M c (zh 33) true Q E D H =
  Lz E 34 fun g t34=>IF3 g t34 (fun g=>Ly g E 0 fun g t0=>Nf g 3 t0 H fun g t40=>Bn g .sub t40 (.int .i64 1) fun g t41=>Ns g 3 t0 t41 H fun g u H1=>GO3 g Q .normal E D H1) (fun g=>GO3 g Q .normal E D H)):=by (repeat' apply And.intro)<;>(intro _ _ _ _;refine W_unf ?_;kernel_rfl)
theorem qqq:(cProg Tryd.prog).func xe=some qgy/\qgy.results=[]:=x9 (by kernel_rfl)
theorem qqr (h:W M ⟨none,xe⟩ (zh 0) true (FIN3 M [] Q) [(0,a0),(1,a1)] [] H):kx M xe [a0,a1] H Q:=callf (by decide) qqq (ks:=qkn) (by kernel_rfl) h
def qin:AFunc:=funcAt Tryd.prog qay
def qm1:Kp:=⟨[0,1,4,5,6,7,8,9,10,11,42,43],false,[0,2,19,25,27,33,35,43,52,60,65,79,91,99,101,107,113,117,119,122,128,132]⟩
def qr (k:Nat):Kp × ACode:=(qm1,part qin.body k)
theorem qt7 (M:Mac) (c:Ctx):(∀ Q E D H,W M c (qr 0) true Q E D H =
 W M c (qr 2) true Q ((4,(.str []))::E) D H) /\
 (∀ Q E D H,W M c (qr 2) true Q E D H =
  Lz E 1 fun g t1=>Cb g .eql t1 (.int .i64 0) (fun g=>GO3 g (BLK3 0 (SEQ3 (W M c (qr 19)) Q)) .ret ((4,(.str []))::(11,t1)::E) D H) (fun g=>Cb g .eql t1 (.int .i64 1) (fun g=>Ly g E 0 fun g t0=>GO3 g (BLK3 0 (SEQ3 (W M c (qr 19)) Q)) .ret ((4,t0)::(11,t1)::E) D H) (fun g=>GO3 g (BLK3 0 (SEQ3 (W M c (qr 19)) Q)) .normal ((11,t1)::E) D H))) /\
 (∀ Q E D H,W M c (qr 19) true Q E D H =
  Lz E 1 fun g t1=>Cb g .lss t1 (.int .i64 0) (fun g=>B3 g ((Op.mkIface vn) [(.str q53)]) fun g t19=>False) (fun g=>Gt g M c (qr 25) Q E D H)) /\
 (∀ Q E D H,W M c (qr 25) true Q E D H =
  Lz E 0 fun g t0=>B3 g (Op.lenStr [t0]) fun g t22=>B3 g ((Op.wrap .u64) [t22]) fun g t23=>Ly g E 1 fun g t1=>B3 g ((Op.wrap .u64) [t1]) fun g t25=>C3 M g (.func qcy) [t23,t25] H fun g t26 H1=>B3 g ((Op.extract 0) [t26]) fun g t27=>B3 g ((Op.extract 1) [t26]) fun g t28=>W M c (qr 27) g Q ((6,t28)::(5,t27)::E) D H1) /\
 (∀ Q E D H,W M c (qr 27) true Q E D H =
  Lz E 5 fun g t5=>Bn g .gtr t5 (.int .u64 0) fun g t30=>JN (fun (k:Bool->AV->AV->AHeap->Prop)=>B3 g (wantV false (some t30)) fun g w=>IG3 g w (fun g=>Ly g E 6 fun g t6=>Bn g .gtr t6 (.int .u64 9223372036854775807) fun g t33=>k g t33 t6 H) (fun g=>k g uu uu H)) (fun g t33_1 t32_1 H1=>B3 g (Op.pick [t30,(.bool true),t33_1]) fun g t34=>IF3 g t34 (fun g=>B3 g ((Op.mkIface vn) [(.str q54)]) fun g t35=>False) (fun g=>Gt g M c (qr 33) Q E D H1))) /\
 (∀ Q E D H,W M c (qr 33) true Q E D H =
  Lz E 6 fun g t6=>B3 g ((Op.wrap .i64) [t6]) fun g t37=>W M c (qr 35) g Q ((7,t37)::E) D H) /\
 (∀ Q E D H,W M c (qr 35) true Q E D H =
  Lz E 0 fun g t0=>B3 g (Op.lenStr [t0]) fun g t39=>Cb g .eql t39 (.int .i64 0) (fun g=>GO3 g (SEQ3 (W M c (qr 43)) Q) .ret ((4,(.str []))::E) D H) (fun g=>Gt g M c (qr 43) Q E D H)) /\
 (∀ Q E D H,W M c (qr 43) true Q E D H =
  Lz E 0 fun g t0=>B3 g (Op.indexStr [t0,(.int .i64 0)]) fun g t42=>Bn g .eql t42 (.int .u8 32) fun g t44=>IF3 g t44 (fun g=>Gt g M c (qr 65) (BLK3 1 (SEQ3 (W M c (qr 99)) Q)) ((43,t44)::(42,t42)::E) D H) (fun g=>W M c (qr 52) g (SEQ3 (W M c (qr 65)) (BLK3 1 (SEQ3 (W M c (qr 99)) Q))) ((43,t44)::(42,t42)::E) D H)) /\
 (∀ Q E D H,W M c (qr 99) true Q E D H =
  Lz E 7 fun g t7=>W M c (qr 101) g Q ((8,t7)::E) D H) /\
 (∀ Q E D H,W M c (qr 65) true Q E D H =
  Lz E 43 fun g t43=>IF3 g t43 (fun g=>Ly g E 7 fun g t7=>Bn g .leq t7 (.int .i64 128) fun g t51=>JN (fun (k:Bool->AV->AV->AHeap->Prop)=>B3 g (wantV true (some t51)) fun g w=>IG3 g w (fun g=>Ly g E 0 fun g t0=>C3 M g (.func ky) [(.str qhl),t0] H fun g t54 H1=>k g t54 t0 H1) (fun g=>k g uu uu H)) (fun g t54_1 t53_1 H2=>B3 g (Op.pick [t51,t54_1,(.bool false)]) fun g t55=>IF3 g t55 (fun g=>Ly g E 7 fun g t7_1=>B3 g ((Op.sliceStr [none,(some 0)]) [(.str qhl),t7_1]) fun g t57=>GO3 g (BLK3 2 Q) .ret ((4,t57)::E) D H2) (fun g=>Ly g E 7 fun g t7_1=>Bn g .leq t7_1 (.int .i64 128) fun g t60=>JN (fun (k:Bool->AV->AV->AHeap->Prop)=>B3 g (wantV true (some t60)) fun g w=>IG3 g w (fun g=>Ly g E 0 fun g t0_1=>C3 M g (.func ky) [(.str qxi),t0_1] H2 fun g t63 H3=>k g t63 t0_1 H3) (fun g=>k g uu uu H2)) (fun g t63_1 t62_1 H4=>B3 g (Op.pick [t60,t63_1,(.bool false)]) fun g t64=>IF3 g t64 (fun g=>Ly g E 7 fun g t7_2=>B3 g ((Op.sliceStr [none,(some 0)]) [(.str qxi),t7_2]) fun g t66=>GO3 g (BLK3 2 Q) .ret ((4,t66)::E) D H4) (fun g=>W M c (qr 79) g (BLK3 2 Q) E D H4))))) (fun g=>GO3 g Q .normal E D H)) /\
 (∀ Q E D H,W M c (qr 52) true Q E D H =
  Lz E 42 fun g t42=>Bn g .eql t42 (.int .u8 45) fun g t45=>IF3 g t45 (fun g=>GO3 g Q .normal ((43,t45)::E) D H) (fun g=>Ly g E 42 fun g t42_1=>Bn g .eql t42_1 (.int .u8 48) fun g t46=>IF3 g t46 (fun g=>GO3 g Q .normal ((43,t46)::(43,t45)::E) D H) (fun g=>W M c (qr 60) g Q ((43,t46)::(43,t45)::E) D H))) /\
 (∀ Q E D H,W M c (qr 101) true Q E D H =
  Lz E 7 fun g t7=>Cb g .gtr t7 (.int .i64 8192) (fun g=>Ly g E 0 fun g t0=>B3 g (Op.lenStr [t0]) fun g t98=>Bn g .quo (.int .i64 8192) t98 fun g t99=>B3 g (Op.lenStr [t0]) fun g t101=>Bn g .mul t99 t101 fun g t102=>W M c (qr 107) g (SEQ3 (W M c (qr 113)) Q) ((8,t102)::E) D H) (fun g=>Gt g M c (qr 113) Q E D H)) /\
 (∀ Q E D H,W M c (qr 79) true Q E D H =
  Lz E 7 fun g t7=>Bn g .leq t7 (.int .i64 64) fun g t69=>JN (fun (k:Bool->AV->AV->AHeap->Prop)=>B3 g (wantV true (some t69)) fun g w=>IG3 g w (fun g=>Ly g E 0 fun g t0=>C3 M g (.func ky) [(.str qxj),t0] H fun g t72 H1=>k g t72 t0 H1) (fun g=>k g uu uu H)) (fun g t72_1 t71_1 H2=>B3 g (Op.pick [t69,t72_1,(.bool false)]) fun g t73=>IF3 g t73 (fun g=>Ly g E 7 fun g t7_1=>B3 g ((Op.sliceStr [none,(some 0)]) [(.str qxj),t7_1]) fun g t75=>GO3 g Q .ret ((4,t75)::E) D H2) (fun g=>Ly g E 7 fun g t7_1=>Bn g .leq t7_1 (.int .i64 128) fun g t78=>JN (fun (k:Bool->AV->AV->AHeap->Prop)=>B3 g (wantV true (some t78)) fun g w=>IG3 g w (fun g=>Ly g E 0 fun g t0_1=>C3 M g (.func ky) [(.str qxk),t0_1] H2 fun g t81 H3=>k g t81 t0_1 H3) (fun g=>k g uu uu H2)) (fun g t81_1 t80_1 H4=>B3 g (Op.pick [t78,t81_1,(.bool false)]) fun g t82=>IF3 g t82 (fun g=>Ly g E 7 fun g t7_2=>B3 g ((Op.sliceStr [none,(some 0)]) [(.str qxk),t7_2]) fun g t84=>GO3 g Q .ret ((4,t84)::E) D H4) (fun g=>W M c (qr 91) g Q E D H4))))) /\
 (∀ Q E D H,W M c (qr 60) true Q E D H =
  Lz E 42 fun g t42=>Bn g .eql t42 (.int .u8 61) fun g t47=>IF3 g t47 (fun g=>GO3 g Q .normal ((43,t47)::E) D H) (fun g=>Ly g E 42 fun g t42_1=>Bn g .eql t42_1 (.int .u8 9) fun g t48=>GO3 g Q .normal ((43,t48)::(43,t47)::E) D H)) /\
 (∀ Q E D H,W M c (qr 113) true Q E D H =
  A3 true qdt [.nilp,.nils] H fun g t9 H1=>Ly g E 7 fun g t7=>C3 M g (.func wu) [t9,t7] H1 fun g t108 H2=>W M c (qr 117) g Q ((9,t9)::E) D H2) /\
 (∀ Q E D H,W M c (qr 107) true Q E D H =
  Lz E 8 fun g t8=>Cb g .eql t8 (.int .i64 0) (fun g=>Ly g E 0 fun g t0=>B3 g (Op.lenStr [t0]) fun g t106=>GO3 g Q .normal ((8,t106)::E) D H) (fun g=>GO3 g Q .normal E D H)) /\
 (∀ Q E D H,W M c (qr 91) true Q E D H =
  Lz E 7 fun g t7=>Bn g .leq t7 (.int .i64 64) fun g t87=>JN (fun (k:Bool->AV->AV->AHeap->Prop)=>B3 g (wantV true (some t87)) fun g w=>IG3 g w (fun g=>Ly g E 0 fun g t0=>C3 M g (.func ky) [(.str qxl),t0] H fun g t90 H1=>k g t90 t0 H1) (fun g=>k g uu uu H)) (fun g t90_1 t89_1 H2=>B3 g (Op.pick [t87,t90_1,(.bool false)]) fun g t91=>IF3 g t91 (fun g=>Ly g E 7 fun g t7_1=>B3 g ((Op.sliceStr [none,(some 0)]) [(.str qxl),t7_1]) fun g t93=>GO3 g Q .ret ((4,t93)::E) D H2) (fun g=>GO3 g Q .normal E D H2))) /\
 (∀ Q E D H,W M c (qr 117) true Q E D H =
  Lz E 0 fun g t0=>Ly g E 9 fun g t9=>C3 M g (.func ja) [t9,t0] H fun g t110 H1=>W M c (qr 119) g Q E D H1) /\
 (∀ Q E D H,W M c (qr 119) true Q E D H =
  LOOP3 (W M c (qr 122)) (BLK3 3 (SEQ3 (W M c (qr 132)) Q)) E D H) /\
 (∀ Q E D H,W M c (qr 132) true Q E D H =
  Lz E 9 fun g t9=>C3 M g (.func j9) [t9] H fun g t124 H1=>GO3 g Q .ret ((4,t124)::E) D H1) /\
 (∀ Q E D H,W M c (qr 122) true Q E D H =
  Lz E 9 fun g t9=>C3 M g (.func yr) [t9] H fun g t111 H1=>Ly g E 7 fun g t7=>Cb g .lss t111 t7 (fun g=>Gt g M c (qr 128) Q E D H1) (fun g=>GO3 g (SEQ3 (W M c (qr 128)) Q) (.exit 3) E D H1)) /\
 (∀ Q E D H,W M c (qr 128) true Q E D H =
  Lz E 7 fun g t7=>Ly g E 9 fun g t9=>C3 M g (.func yr) [t9] H fun g t115 H1=>Bn g .sub t7 t115 fun g t116=>C3 M g (.func yr) [t9] H1 fun g t117 H2=>Ly g E 8 fun g t8=>B3 g ((Op.minmax false) [t116,t117,t8]) fun g t119=>Ly g E 9 fun g t9_1=>C3 M g (.func j9) [t9_1] H2 fun g t120 H3=>B3 g ((Op.sliceStr [none,(some 0)]) [t120,t119]) fun g t122=>C3 M g (.func ja) [t9_1,t122] H3 fun g t123 H4=>GO3 g (BLK3 4 Q) .normal ((10,t119)::E) D H4):=by (repeat' apply And.intro)<;>(intro _ _ _ _;refine W_unf ?_;kernel_rfl)
theorem qt5:(cProg Tryd.prog).func qay=some qin/\qin.results=[.tmp 4]:=x9 (by kernel_rfl)
theorem qt6 (h:W M ⟨none,qay⟩ (qr 0) true (FIN3 M [.tmp 4] Q) [(0,a0),(1,a1)] [] H):kx M qay [a0,a1] H Q:=callf (by decide) qt5 (ks:=qm1) (by kernel_rfl) h
def qd8:AFunc:=funcAt Tryd.prog z4
def qgx:Kp:=⟨[0,1,2,6,15,54],false,[0,13,25,31,34,38,53]⟩
def x6 (k:Nat):Kp × ACode:=(qgx,part qd8.body k)
theorem xn (M:Mac) (c:Ctx):(∀ Q E D H,W M c (x6 0) true Q E D H =
 Lz E 0 fun g t0=>Nf g 2 t0 H fun g t10=>Ly g E 1 fun g t1=>B3 g ((Op.indexSl 3) [t10,t1]) fun g t12=>B3 g ((Op.loadN 3) [t12] H) fun g t13=>A3 g qj [(.int .i64 0),(.int .u64 0),.nils] H fun g t6 H1=>B32 g ((Op.store 3) [t6,t13] H1) fun g u H2=>Fl g 0 t6 H2 fun g t15=>Cb g .eql t15 (.int .i64 14) (fun g=>Ly g E 0 fun g t0_1=>Fl g 1 t6 H2 fun g t20=>Bn g .add (.int .u64 97) t20 fun g t21=>B3 g ((Op.wrap .i32) [t21]) fun g t22=>B3 g (Op.strOfInt [t22]) fun g t23=>Bn g .add t23 (.str [32,61,32]) fun g t24=>C3 M g (.func xe) [t0_1,t24] H2 fun g t25 H3=>Ly g E 0 fun g t0_2=>Fl g 2 t6 H3 fun g t28=>Xl g t28 (.int .i64 0) H3 fun g t30=>C3 M g (.func z0) [t0_2,t30,(.int .i64 0)] H3 fun g t31 H4=>Ly g E 0 fun g t0_3=>C3 M g (.func xe) [t0_3,(.str [59])] H4 fun g t33 H5=>GO3 g (BLK3 0 Q) .normal ((15,t15)::(6,t6)::E) D H5) (fun g=>W M c (x6 13) g (BLK3 0 Q) ((15,t15)::(6,t6)::E) D H2)) /\
 (∀ Q E D H,W M c (x6 13) true Q E D H =
  Lz E 15 fun g t15=>Cb g .eql t15 (.int .i64 15) (fun g=>Ly g E 0 fun g t0=>C3 M g (.func xe) [t0,(.str [115,116,111,114,101,40])] H fun g t37 H1=>Ly g E 0 fun g t0_1=>Ly g E 6 fun g t6=>Fl g 2 t6 H1 fun g t40=>Xl g t40 (.int .i64 0) H1 fun g t42=>C3 M g (.func z0) [t0_1,t42,(.int .i64 0)] H1 fun g t43 H2=>Ly g E 0 fun g t0_2=>C3 M g (.func xe) [t0_2,(.str [44,32])] H2 fun g t45 H3=>Ly g E 0 fun g t0_3=>Ly g E 6 fun g t6_1=>Fl g 2 t6_1 H3 fun g t48=>Xl g t48 (.int .i64 1) H3 fun g t50=>C3 M g (.func z0) [t0_3,t50,(.int .i64 0)] H3 fun g t51 H4=>Ly g E 0 fun g t0_4=>C3 M g (.func xe) [t0_4,(.str [41,59])] H4 fun g t53 H5=>GO3 g Q .normal E D H5) (fun g=>W M c (x6 25) g Q E D H)) /\
 (∀ Q E D H,W M c (x6 25) true Q E D H =
  Lz E 15 fun g t15=>Bn g .eql t15 (.int .i64 16) fun g t55=>IF3 g t55 (fun g=>Gt g M c (x6 31) Q ((54,t55)::E) D H) (fun g=>Ly g E 15 fun g t15_1=>Bn g .eql t15_1 (.int .i64 17) fun g t56=>Gt g M c (x6 31) Q ((54,t56)::(54,t55)::E) D H)) /\
 (∀ Q E D H,W M c (x6 31) true Q E D H =
  Lz E 54 fun g t54=>IF3 g t54 (fun g=>Ly g E 0 fun g t0=>B32 g ((Op.buildSlice vn 2 [(.str [])] [(0,1),(1,1)]) [(.str [105,102,32,40]),(.str [119,104,105,108,101,32,40])]) fun g o1 k1=>Ly g E 6 fun g t6=>Fl g 0 t6 (H.alloc o1) fun g t60=>Bn g .sub t60 (.int .i64 16) fun g t61=>Xl g (k1 H.next) t61 (H.alloc o1) fun g t63=>C3 M g (.func xe) [t0,t63] (H.alloc o1) fun g t64 H2=>W M c (x6 34) g Q E D H2) (fun g=>Ly g E 15 fun g t15=>Cb g .eql t15 (.int .i64 18) (fun g=>Ly g E 0 fun g t0=>C3 M g (.func xe) [t0,(.str [97,116,111,109,105,99,32])] H fun g t96 H1=>Ly g E 0 fun g t0_1=>Ly g E 6 fun g t6=>Fl g 2 t6 H1 fun g t99=>Xl g t99 (.int .i64 0) H1 fun g t101=>Ly g E 2 fun g t2=>C3 M g (.func yv) [t0_1,t101,t2] H1 fun g t103 H2=>GO3 g Q .normal E D H2) (fun g=>W M c (x6 53) g Q E D H))) /\
 (∀ Q E D H,W M c (x6 34) true Q E D H =
  Lz E 0 fun g t0=>Ly g E 6 fun g t6=>Fl g 2 t6 H fun g t67=>Xl g t67 (.int .i64 0) H fun g t69=>C3 M g (.func qby) [t0,t69] H fun g t70 H1=>Ly g E 0 fun g t0_1=>C3 M g (.func xe) [t0_1,(.str [41,32])] H1 fun g t72 H2=>W M c (x6 38) g Q E D H2) /\
 (∀ Q E D H,W M c (x6 53) true Q E D H =
  Lz E 15 fun g t15=>Cb g .eql t15 (.int .i64 19) (fun g=>Ly g E 0 fun g t0=>C3 M g (.func xe) [t0,(.str [104,97,108,116,59])] H fun g t107 H1=>GO3 g Q .normal E D H1) (fun g=>GO3 g Q .normal E D H)) /\
 (∀ Q E D H,W M c (x6 38) true Q E D H =
  Lz E 0 fun g t0=>Ly g E 6 fun g t6=>Fl g 2 t6 H fun g t75=>Xl g t75 (.int .i64 1) H fun g t77=>Ly g E 2 fun g t2=>C3 M g (.func yv) [t0,t77,t2] H fun g t79 H1=>Ly g E 6 fun g t6_1=>Fl g 2 t6_1 H1 fun g t81=>B3 g (Op.lenSl [t81]) fun g t82=>Cb g .eql t82 (.int .i64 3) (fun g=>Ly g E 0 fun g t0_1=>C3 M g (.func xe) [t0_1,(.str [32,101,108,115,101,32])] H1 fun g t85 H2=>Ly g E 0 fun g t0_2=>Ly g E 6 fun g t6_2=>Fl g 2 t6_2 H2 fun g t88=>Xl g t88 (.int .i64 2) H2 fun g t90=>Ly g E 2 fun g t2_1=>C3 M g (.func yv) [t0_2,t90,t2_1] H2 fun g t92 H3=>GO3 g Q .normal E D H3) (fun g=>GO3 g Q .normal E D H1)):=by (repeat' apply And.intro)<;>(intro _ _ _ _;refine W_unf ?_;kernel_rfl)
theorem ql6:(cProg Tryd.prog).func z4=some qd8/\qd8.results=[]:=x9 (by kernel_rfl)
theorem yx (h:W M ⟨none,z4⟩ (x6 0) true (FIN3 M [] Q) [(0,a0),(1,a1),(2,a2)] [] H):kx M z4 [a0,a1,a2] H Q:=callf (by decide) ql6 (ks:=qgx) (by kernel_rfl) h
def qgc:AFunc:=funcAt Tryd.prog qah
def qj6:Kp:=⟨[0,1,4,5,6,7,8],false,[0,2,8,10,16,20,23,29,31]⟩
def zd (k:Nat):Kp × ACode:=(qj6,part qgc.body k)
theorem qp4 (M:Mac) (c:Ctx):(∀ Q E D H,W M c (zd 0) true Q E D H =
 W M c (zd 2) true Q ((4,.nils)::E) D H) /\
 (∀ Q E D H,W M c (zd 2) true Q E D H =
  Lz E 1 fun g t1=>Cb g .lss t1 (.int .i64 0) (fun g=>B3 g ((Op.mkIface vn) [(.str [99,97,110,110,111,116,32,98,101,32,110,101,103,97,116,105,118,101])]) fun g t11=>False) (fun g=>Gt g M c (zd 8) Q E D H)) /\
 (∀ Q E D H,W M c (zd 8) true Q E D H =
  Lz E 0 fun g t0=>B3 g (Op.lenSl [t0]) fun g t14=>B3 g ((Op.wrap .u64) [t14]) fun g t15=>Ly g E 1 fun g t1=>B3 g ((Op.wrap .u64) [t1]) fun g t17=>C3 M g (.func qcy) [t15,t17] H fun g t18 H1=>B3 g ((Op.extract 0) [t18]) fun g t19=>B3 g ((Op.extract 1) [t18]) fun g t20=>W M c (zd 10) g Q ((6,t20)::(5,t19)::E) D H1) /\
 (∀ Q E D H,W M c (zd 10) true Q E D H =
  Lz E 5 fun g t5=>Bn g .gtr t5 (.int .u64 0) fun g t22=>JN (fun (k:Bool->AV->AV->AHeap->Prop)=>B3 g (wantV false (some t22)) fun g w=>IG3 g w (fun g=>Ly g E 6 fun g t6=>Bn g .gtr t6 (.int .u64 9223372036854775807) fun g t25=>k g t25 t6 H) (fun g=>k g uu uu H)) (fun g t25_1 t24_1 H1=>B3 g (Op.pick [t22,(.bool true),t25_1]) fun g t26=>IF3 g t26 (fun g=>B3 g ((Op.mkIface vn) [(.str q55)]) fun g t27=>False) (fun g=>Gt g M c (zd 16) Q E D H1))) /\
 (∀ Q E D H,W M c (zd 16) true Q E D H =
  Lz E 6 fun g t6=>B3 g ((Op.wrap .i64) [t6]) fun g t29=>B32 g ((Op.mkSlice T_int 8 [(.int .i64 0)]) [t29,t29]) fun g o1 k1=>Ly g E 0 fun g t0=>B32 g ((Op.copy 1) [(k1 H.next),t0] (H.alloc o1)) fun g t33 H2=>W M c (zd 20) g Q ((8,t33)::(7,(k1 H.next))::E) D H2) /\
 (∀ Q E D H,W M c (zd 20) true Q E D H =
  LOOP3 (W M c (zd 23)) (BLK3 0 (SEQ3 (W M c (zd 31)) Q)) E D H) /\
 (∀ Q E D H,W M c (zd 31) true Q E D H =
  Lz E 7 fun g t7=>GO3 g Q .ret ((4,t7)::E) D H) /\
 (∀ Q E D H,W M c (zd 23) true Q E D H =
  Lz E 8 fun g t8=>Ly g E 7 fun g t7=>B3 g (Op.lenSl [t7]) fun g t36=>Cb g .lss t8 t36 (fun g=>Gt g M c (zd 29) Q E D H) (fun g=>GO3 g (SEQ3 (W M c (zd 29)) Q) (.exit 0) E D H)) /\
 (∀ Q E D H,W M c (zd 29) true Q E D H =
  Lz E 8 fun g t8=>Ly g E 7 fun g t7=>B3 g ((Op.sliceSl 1 [(some 0),none,none]) [t7,t8]) fun g t41=>B3 g ((Op.sliceSl 1 [none,(some 0),none]) [t7,t8]) fun g t44=>B32 g ((Op.copy 1) [t41,t44] H) fun g t45 H1=>Bn g .add t8 t45 fun g t46=>GO3 g (BLK3 1 Q) .normal ((8,t46)::E) D H1):=by (repeat' apply And.intro)<;>(intro _ _ _ _;refine W_unf ?_;kernel_rfl)
theorem qp2:(cProg Tryd.prog).func qah=some qgc/\qgc.results=[.tmp 4]:=x9 (by kernel_rfl)
theorem qp3 (h:W M ⟨none,qah⟩ (zd 0) true (FIN3 M [.tmp 4] Q) [(0,a0),(1,a1)] [] H):kx M qah [a0,a1] H Q:=callf (by decide) qp2 (ks:=qj6) (by kernel_rfl) h
def qjq:AFunc:=funcAt Tryd.prog qcy
def qnk:Kp:=⟨[0,1,4,5,6,7,8,9],false,[0,10]⟩
def qe5 (k:Nat):Kp × ACode:=(qnk,part qjq.body k)
theorem qnl (M:Mac) (c:Ctx):(∀ Q E D H,W M c (qe5 0) true Q E D H =
 IF3 true (.bool false) (fun g=>Ly g E 0 fun g t0=>B3 g ((Op.wrap .u32) [t0]) fun g t12=>Ly g E 1 fun g t1=>B3 g ((Op.wrap .u32) [t1]) fun g t14=>C3 M g (.func qrn) [t12,t14] H fun g t15 H1=>B3 g ((Op.extract 0) [t15]) fun g t16=>B3 g ((Op.extract 1) [t15]) fun g t17=>B3 g ((Op.wrap .u64) [t16]) fun g t19=>B3 g ((Op.wrap .u64) [t17]) fun g t21=>GO3 g (SEQ3 (W M c (qe5 10)) Q) .ret ((5,t21)::(4,t19)::(7,t17)::(6,t16)::(5,(.int .u64 0))::(4,(.int .u64 0))::E) D H1) (fun g=>Gt g M c (qe5 10) Q ((5,(.int .u64 0))::(4,(.int .u64 0))::E) D H)) /\
 (∀ Q E D H,W M c (qe5 10) true Q E D H =
  Lz E 0 fun g t0=>Ly g E 1 fun g t1=>C3 M g (.func qcs) [t0,t1] H fun g t25 H1=>B3 g ((Op.extract 0) [t25]) fun g t26=>B3 g ((Op.extract 1) [t25]) fun g t27=>GO3 g Q .ret ((5,t27)::(4,t26)::(9,t27)::(8,t26)::E) D H1):=by (repeat' apply And.intro)<;>(intro _ _ _ _;refine W_unf ?_;kernel_rfl)
theorem qvo:(cProg Tryd.prog).func qcy=some qjq/\qjq.results=[.tmp 4,.tmp 5]:=x9 (by kernel_rfl)
theorem qvp (h:W M ⟨none,qcy⟩ (qe5 0) true (FIN3 M [.tmp 4,.tmp 5] Q) [(0,a0),(1,a1)] [] H):kx M qcy [a0,a1] H Q:=callf (by decide) qvo (ks:=qnk) (by kernel_rfl) h
def qgd:AFunc:=funcAt Tryd.prog ky
def qj9:Kp:=⟨[0,1,4],false,[0]⟩
def qka (k:Nat):Kp × ACode:=(qj9,part qgd.body k)
theorem qkb (M:Mac) (c:Ctx):(∀ Q E D H,W M c (qka 0) true Q E D H =
 Lz E 0 fun g t0=>Ly g E 1 fun g t1=>C3 M g (.func yf) [t0,t1] H fun g t7 H1=>GO3 g Q .ret ((4,t7)::(4,(.bool false))::E) D H1):=by intro _ _ _ _;refine W_unf ?_;kernel_rfl
theorem qp5:(cProg Tryd.prog).func ky=some qgd/\qgd.results=[.tmp 4]:=x9 (by kernel_rfl)
theorem qp6 (h:W M ⟨none,ky⟩ (qka 0) true (FIN3 M [.tmp 4] Q) [(0,a0),(1,a1)] [] H):kx M ky [a0,a1] H Q:=callf (by decide) qp5 (ks:=qj9) (by kernel_rfl) h
def qgv:AFunc:=funcAt Tryd.prog z0
def qkl:Kp:=⟨[0,1,2,6,7,9,18],false,[0,9,21,25,31,35]⟩
def je (k:Nat):Kp × ACode:=(qkl,part qgv.body k)
theorem vi (M:Mac) (c:Ctx):(∀ Q E D H,W M c (je 0) true Q E D H =
 Lz E 0 fun g t0=>Nf g 2 t0 H fun g t13=>Ly g E 1 fun g t1=>B3 g ((Op.indexSl 3) [t13,t1]) fun g t15=>B3 g ((Op.loadN 3) [t15] H) fun g t16=>A3 g qj [(.int .i64 0),(.int .u64 0),.nils] H fun g t6 H1=>B32 g ((Op.store 3) [t6,t16] H1) fun g u H2=>Fl g 0 t6 H2 fun g t18=>Cb g .eql t18 (.int .i64 1) (fun g=>Ly g E 0 fun g t0_1=>Fl g 1 t6 H2 fun g t61=>C3 M g (.func qax) [t61,(.int .i64 10)] H2 fun g t62 H3=>C3 M g (.func xe) [t0_1,t62] H3 fun g t63 H4=>GO3 g (BLK3 0 Q) .normal ((18,t18)::(6,t6)::E) D H4) (fun g=>W M c (je 9) g (BLK3 0 Q) ((18,t18)::(6,t6)::E) D H2)) /\
 (∀ Q E D H,W M c (je 9) true Q E D H =
  Lz E 18 fun g t18=>Cb g .eql t18 (.int .i64 2) (fun g=>Ly g E 0 fun g t0=>Ly g E 6 fun g t6=>Fl g 1 t6 H fun g t68=>Bn g .add (.int .u64 97) t68 fun g t69=>B3 g ((Op.wrap .i32) [t69]) fun g t70=>B3 g (Op.strOfInt [t70]) fun g t71=>C3 M g (.func xe) [t0,t71] H fun g t72 H1=>GO3 g Q .normal E D H1) (fun g=>Ly g E 18 fun g t18_1=>Cb g .eql t18_1 (.int .i64 3) (fun g=>Ly g E 0 fun g t0=>C3 M g (.func xe) [t0,(.str [108,111,97,100,40])] H fun g t76 H1=>Ly g E 0 fun g t0_1=>Ly g E 6 fun g t6=>Fl g 2 t6 H1 fun g t79=>Xl g t79 (.int .i64 0) H1 fun g t81=>C3 M g (.func z0) [t0_1,t81,(.int .i64 0)] H1 fun g t82 H2=>Ly g E 0 fun g t0_2=>C3 M g (.func xe) [t0_2,(.str [41])] H2 fun g t84 H3=>GO3 g Q .normal E D H3) (fun g=>W M c (je 21) g Q E D H))) /\
 (∀ Q E D H,W M c (je 21) true Q E D H =
  Lz E 6 fun g t6=>Fl g 0 t6 H fun g t20=>C3 M g (.func qgh) [t20] H fun g t21 H1=>C3 M g (.func qhm) [t21] H1 fun g t24 H2=>B3 g ((Op.extract 0) [t24]) fun g t25=>B3 g ((Op.extract 1) [t24]) fun g t26=>W M c (je 25) g Q ((9,t26)::(7,t21)::E) D H2) /\
 (∀ Q E D H,W M c (je 25) true Q E D H =
  Lz E 9 fun g t9=>Ly g E 2 fun g t2=>Cb g .lss t9 t2 (fun g=>Ly g E 0 fun g t0=>C3 M g (.func xe) [t0,(.str [40])] H fun g t31 H1=>Gt g M c (je 31) Q E D H1) (fun g=>Gt g M c (je 31) Q E D H)) /\
 (∀ Q E D H,W M c (je 31) true Q E D H =
  Lz E 0 fun g t0=>Ly g E 6 fun g t6=>Fl g 2 t6 H fun g t34=>Xl g t34 (.int .i64 0) H fun g t36=>Ly g E 9 fun g t9=>C3 M g (.func z0) [t0,t36,t9] H fun g t38 H1=>Ly g E 0 fun g t0_1=>Ly g E 7 fun g t7=>Bn g .add (.str [32]) t7 fun g t41=>Bn g .add t41 (.str [32]) fun g t42=>C3 M g (.func xe) [t0_1,t42] H1 fun g t43 H2=>W M c (je 35) g Q E D H2) /\
 (∀ Q E D H,W M c (je 35) true Q E D H =
  Lz E 0 fun g t0=>Ly g E 6 fun g t6=>Fl g 2 t6 H fun g t46=>Xl g t46 (.int .i64 1) H fun g t48=>Ly g E 9 fun g t9=>Bn g .add t9 (.int .i64 1) fun g t50=>C3 M g (.func z0) [t0,t48,t50] H fun g t51 H1=>Ly g E 9 fun g t9_1=>Ly g E 2 fun g t2=>Cb g .lss t9_1 t2 (fun g=>Ly g E 0 fun g t0_1=>C3 M g (.func xe) [t0_1,(.str [41])] H1 fun g t56 H2=>GO3 g Q .normal E D H2) (fun g=>GO3 g Q .normal E D H1)):=by (repeat' apply And.intro)<;>(intro _ _ _ _;refine W_unf ?_;kernel_rfl)
theorem qqn:(cProg Tryd.prog).func z0=some qgv/\qgv.results=[]:=x9 (by kernel_rfl)
theorem qeu (h:W M ⟨none,z0⟩ (je 0) true (FIN3 M [] Q) [(0,a0),(1,a1),(2,a2)] [] H):kx M z0 [a0,a1,a2] H Q:=callf (by decide) qqn (ks:=qkl) (by kernel_rfl) h
def qgu:AFunc:=funcAt Tryd.prog qby
def qkj:Kp:=⟨[0,1,4],false,[0]⟩
def qkk (k:Nat):Kp × ACode:=(qkj,part qgu.body k)
theorem qet (M:Mac) (c:Ctx):(∀ Q E D H,W M c (qkk 0) true Q E D H =
 Lz E 0 fun g t0=>Nf g 2 t0 H fun g t8=>Ly g E 1 fun g t1=>B3 g ((Op.indexSl 3) [t8,t1]) fun g t10=>B3 g ((Op.loadN 3) [t10] H) fun g t11=>A3 g qj [(.int .i64 0),(.int .u64 0),.nils] H fun g t4 H1=>B32 g ((Op.store 3) [t4,t11] H1) fun g u H2=>Ly g E 0 fun g t0_1=>Fl g 2 t4 H2 fun g t14=>Xl g t14 (.int .i64 0) H2 fun g t16=>C3 M g (.func z0) [t0_1,t16,(.int .i64 0)] H2 fun g t17 H3=>Ly g E 0 fun g t0_2=>B32 g ((Op.buildSlice vn 3 [(.str [])] [(0,1),(1,1),(2,1)]) [(.str [32,61,61,32]),(.str [32,33,61,32]),(.str [32,60,32])]) fun g o4 k4=>Fl g 0 t4 (H3.alloc o4) fun g t21=>Bn g .sub t21 (.int .i64 11) fun g t22=>Xl g (k4 H3.next) t22 (H3.alloc o4) fun g t24=>C3 M g (.func xe) [t0_2,t24] (H3.alloc o4) fun g t25 H5=>Ly g E 0 fun g t0_3=>Fl g 2 t4 H5 fun g t28=>Xl g t28 (.int .i64 1) H5 fun g t30=>C3 M g (.func z0) [t0_3,t30,(.int .i64 0)] H5 fun g t31 H6=>GO3 g Q .normal ((4,t4)::E) D H6):=by intro _ _ _ _;refine W_unf ?_;kernel_rfl
theorem qql:(cProg Tryd.prog).func qby=some qgu/\qgu.results=[]:=x9 (by kernel_rfl)
theorem qqm (h:W M ⟨none,qby⟩ (qkk 0) true (FIN3 M [] Q) [(0,a0),(1,a1)] [] H):kx M qby [a0,a1] H Q:=callf (by decide) qql (ks:=qkj) (by kernel_rfl) h
def qga:AFunc:=funcAt Tryd.prog yv
def qjo:Kp:=⟨[0,1,2],false,[0]⟩
def qjp (k:Nat):Kp × ACode:=(qjo,part qga.body k)
theorem qc1 (M:Mac) (c:Ctx):(∀ Q E D H,W M c (qjp 0) true Q E D H =
 Lz E 0 fun g t0=>C3 M g (.func xe) [t0,(.str [123,10])] H fun g t7 H1=>Ly g E 0 fun g t0_1=>Ly g E 1 fun g t1=>Ly g E 2 fun g t2=>Bn g .add t2 (.int .i64 1) fun g t11=>C3 M g (.func qau) [t0_1,t1,t11] H1 fun g t12 H2=>Ly g E 0 fun g t0_2=>Ly g E 2 fun g t2_1=>C3 M g (.func qay) [(.str [32,32]),t2_1] H2 fun g t15 H3=>Bn g .add t15 (.str [125]) fun g t16=>C3 M g (.func xe) [t0_2,t16] H3 fun g t17 H4=>GO3 g Q .normal E D H4):=by intro _ _ _ _;refine W_unf ?_;kernel_rfl
theorem qpq:(cProg Tryd.prog).func yv=some qga/\qga.results=[]:=x9 (by kernel_rfl)
theorem qpr (h:W M ⟨none,yv⟩ (qjp 0) true (FIN3 M [] Q) [(0,a0),(1,a1),(2,a2)] [] H):kx M yv [a0,a1,a2] H Q:=callf (by decide) qpq (ks:=qjo) (by kernel_rfl) h
def qht:AFunc:=funcAt Tryd.prog qcs
def qll:Kp:=⟨[0,1,4,5,6,7,8,9,10,11,12,13],false,[0,4,8,12]⟩
def qap (k:Nat):Kp × ACode:=(qll,part qht.body k)
theorem qsd (M:Mac) (c:Ctx):(∀ Q E D H,W M c (qap 0) true Q E D H =
 Lz E 0 fun g t0=>Bn g .and t0 (.int .u64 4294967295) fun g t15=>W M c (qap 4) g Q ((6,t15)::(5,(.int .u64 0))::(4,(.int .u64 0))::E) D H) /\
 (∀ Q E D H,W M c (qap 4) true Q E D H =
  Lz E 0 fun g t0=>Bn g .shr t0 (.int .u64 32) fun g t17=>Ly g E 1 fun g t1=>Bn g .and t1 (.int .u64 4294967295) fun g t19=>W M c (qap 8) g Q ((8,t19)::(7,t17)::E) D H) /\
 (∀ Q E D H,W M c (qap 8) true Q E D H =
  Lz E 1 fun g t1=>Bn g .shr t1 (.int .u64 32) fun g t21=>Ly g E 6 fun g t6=>Ly g E 8 fun g t8=>Bn g .mul t6 t8 fun g t24=>W M c (qap 12) g Q ((10,t24)::(9,t21)::E) D H) /\
 (∀ Q E D H,W M c (qap 12) true Q E D H =
  Lz E 7 fun g t7=>Ly g E 8 fun g t8=>Bn g .mul t7 t8 fun g t27=>Ly g E 10 fun g t10=>Bn g .shr t10 (.int .u64 32) fun g t29=>Bn g .add t27 t29 fun g t30=>Bn g .and t30 (.int .u64 4294967295) fun g t32=>Bn g .shr t30 (.int .u64 32) fun g t34=>Ly g E 6 fun g t6=>Ly g E 9 fun g t9=>Bn g .mul t6 t9 fun g t38=>Bn g .add t32 t38 fun g t39=>Ly g E 7 fun g t7_1=>Ly g E 9 fun g t9_1=>Bn g .mul t7_1 t9_1 fun g t42=>Bn g .add t42 t34 fun g t44=>Bn g .shr t39 (.int .u64 32) fun g t46=>Bn g .add t44 t46 fun g t47=>Ly g E 0 fun g t0=>Ly g E 1 fun g t1=>Bn g .mul t0 t1 fun g t50=>GO3 g Q .ret ((5,t50)::(4,t47)::(12,t39)::(13,t34)::(12,t32)::(11,t30)::E) D H):=by (repeat' apply And.intro)<;>(intro _ _ _ _;refine W_unf ?_;kernel_rfl)
theorem qsb:(cProg Tryd.prog).func qcs=some qht/\qht.results=[.tmp 4,.tmp 5]:=x9 (by kernel_rfl)
theorem qsc (h:W M ⟨none,qcs⟩ (qap 0) true (FIN3 M [.tmp 4,.tmp 5] Q) [(0,a0),(1,a1)] [] H):kx M qcs [a0,a1] H Q:=callf (by decide) qsb (ks:=qll) (by kernel_rfl) h
def qa4:AFunc:=funcAt Tryd.prog yf
def qdn:Kp:=⟨[0,1,4],false,[0]⟩
def qdo (k:Nat):Kp × ACode:=(qdn,part qa4.body k)
theorem qha (M:Mac) (c:Ctx):(∀ Q E D H,W M c (qdo 0) true Q E D H =
 Lz E 0 fun g t0=>B3 g (Op.lenStr [t0]) fun g t6=>Ly g E 1 fun g t1=>B3 g (Op.lenStr [t1]) fun g t8=>Bn g .geq t6 t8 fun g t9=>JN (fun (k:Bool->AV->AV->AV->AV->AV->AV->AHeap->Prop)=>B3 g (wantV true (some t9)) fun g w=>IG3 g w (fun g=>B3 g (Op.lenStr [t1]) fun g t13=>B3 g ((Op.sliceStr [none,(some 0)]) [t0,t13]) fun g t14=>Bn g .eql t14 t1 fun g t16=>k g t16 t1 t14 t13 t1 t0 H) (fun g=>k g uu uu uu uu uu uu H)) (fun g t16_1 t15_1 t14_1 t13_1 t12_1 t11_1 H1=>B3 g (Op.pick [t9,t16_1,(.bool false)]) fun g t17=>GO3 g Q .ret ((4,t17)::(4,(.bool false))::E) D H1)):=by intro _ _ _ _;refine W_unf ?_;kernel_rfl
theorem qg8:(cProg Tryd.prog).func yf=some qa4/\qa4.results=[.tmp 4]:=x9 (by kernel_rfl)
theorem qg9 (h:W M ⟨none,yf⟩ (qdo 0) true (FIN3 M [.tmp 4] Q) [(0,a0),(1,a1)] [] H):kx M yf [a0,a1] H Q:=callf (by decide) qg8 (ks:=qdn) (by kernel_rfl) h
def qni:AFunc:=funcAt Tryd.prog qgh
def qtc:Kp:=⟨[0,2],false,[0]⟩
def qtd (k:Nat):Kp × ACode:=(qtc,part qni.body k)
theorem q1e (M:Mac) (c:Ctx):(∀ Q E D H,W M c (qtd 0) true Q E D H =
 B32 true ((Op.buildSlice vn 7 [(.str [])] [(0,1),(1,1),(2,1),(3,1),(4,1),(5,1),(6,1)]) [(.str [43]),(.str [45]),(.str [42]),(.str [38]),(.str [94]),(.str [60,60]),(.str [62,62])]) fun g o1 k1=>Ly g E 0 fun g t0=>Bn g .sub t0 (.int .i64 4) fun g t5=>Xl g (k1 H.next) t5 (H.alloc o1) fun g t7=>GO3 g Q .ret ((2,t7)::(2,(.str []))::E) D (H.alloc o1)):=by intro _ _ _ _;refine W_unf ?_;kernel_rfl
theorem q1c:(cProg Tryd.prog).func qgh=some qni/\qni.results=[.tmp 2]:=x9 (by kernel_rfl)
theorem q1d (h:W M ⟨none,qgh⟩ (qtd 0) true (FIN3 M [.tmp 2] Q) [(0,a0)] [] H):kx M qgh [a0] H Q:=callf (by decide) q1c (ks:=qtc) (by kernel_rfl) h
def qpp:AFunc:=funcAt Tryd.prog qhm
def qvj:Kp:=⟨[0,2,3,4],false,[0,2,18,30,42,49]⟩
def qav (k:Nat):Kp × ACode:=(qvj,part qpp.body k)
theorem q3l (M:Mac) (c:Ctx):(∀ Q E D H,W M c (qav 0) true Q E D H =
 W M c (qav 2) true Q ((3,(.int .i64 0))::(2,(.int .i64 0))::E) D H) /\
 (∀ Q E D H,W M c (qav 2) true Q E D H =
  Lz E 0 fun g t0=>Cb g .eql t0 (.str [43]) (fun g=>GO3 g (BLK3 0 (SEQ3 (W M c (qav 49)) Q)) .ret ((3,(.int .i64 1))::(2,(.int .i64 4))::(4,t0)::E) D H) (fun g=>Cb g .eql t0 (.str [45]) (fun g=>GO3 g (BLK3 0 (SEQ3 (W M c (qav 49)) Q)) .ret ((3,(.int .i64 1))::(2,(.int .i64 5))::(4,t0)::E) D H) (fun g=>W M c (qav 18) g (BLK3 0 (SEQ3 (W M c (qav 49)) Q)) ((4,t0)::E) D H))) /\
 (∀ Q E D H,W M c (qav 49) true Q E D H =
  GO3 true Q .ret ((3,(.int .i64 0))::(2,(.int .i64 0))::E) D H) /\
 (∀ Q E D H,W M c (qav 18) true Q E D H =
  Lz E 4 fun g t4=>Cb g .eql t4 (.str [94]) (fun g=>GO3 g Q .ret ((3,(.int .i64 1))::(2,(.int .i64 8))::E) D H) (fun g=>Ly g E 4 fun g t4_1=>Cb g .eql t4_1 (.str [42]) (fun g=>GO3 g Q .ret ((3,(.int .i64 2))::(2,(.int .i64 6))::E) D H) (fun g=>W M c (qav 30) g Q E D H))) /\
 (∀ Q E D H,W M c (qav 30) true Q E D H =
  Lz E 4 fun g t4=>Cb g .eql t4 (.str [38]) (fun g=>GO3 g Q .ret ((3,(.int .i64 2))::(2,(.int .i64 7))::E) D H) (fun g=>Ly g E 4 fun g t4_1=>Cb g .eql t4_1 (.str [60,60]) (fun g=>GO3 g Q .ret ((3,(.int .i64 2))::(2,(.int .i64 9))::E) D H) (fun g=>W M c (qav 42) g Q E D H))) /\
 (∀ Q E D H,W M c (qav 42) true Q E D H =
  Lz E 4 fun g t4=>Cb g .eql t4 (.str [62,62]) (fun g=>GO3 g Q .ret ((3,(.int .i64 2))::(2,(.int .i64 10))::E) D H) (fun g=>GO3 g Q .normal E D H)):=by (repeat' apply And.intro)<;>(intro _ _ _ _;refine W_unf ?_;kernel_rfl)
theorem q3j:(cProg Tryd.prog).func qhm=some qpp/\qpp.results=[.tmp 2,.tmp 3]:=x9 (by kernel_rfl)
theorem q3k (h:W M ⟨none,qhm⟩ (qav 0) true (FIN3 M [.tmp 2,.tmp 3] Q) [(0,a0)] [] H):kx M qhm [a0] H Q:=callf (by decide) q3j (ks:=qvj) (by kernel_rfl) h
end
end Go.Am
namespace Go.Am
abbrev qcz:Nat:=43
abbrev yh:Nat:=16
abbrev qd5:Nat:=67
abbrev qe2:Nat:=71
abbrev qdl:Nat:=102
abbrev qam:Nat:=70
abbrev qan:Nat:=68
abbrev qdm:Nat:=69
abbrev wo:Nat:=44
abbrev qej:Nat:=103
noncomputable section
open Go.Proofs Go.Proofs.YtbimikjajohflaaDoor
variable {M:Mac} [MK M] {H:AHeap} {Q:AEnd->AHeap->Prop} {a0 a1 a2:AV}
def qmk:AFunc:=funcAt Tryd.prog yh
def qq4:Kp:=⟨[0,2,3,4,5,6,7],false,[0,4,12,16,21,27,35,41,48,49]⟩
def zi (k:Nat):Kp × ACode:=(qq4,part qmk.body k)
theorem qml (M:Mac) (c:Ctx):(∀ Q E D H,W M c (zi 0) true Q E D H =
 Lz E 0 fun g t0=>C3 M g (.func qcz) [t0] H fun g t9 H1=>W M c (zi 4) g Q ((4,t9)::(3,(.int .i64 0))::(2,(.str []))::E) D H1) /\
 (∀ Q E D H,W M c (zi 4) true Q E D H =
  Lz E 4 fun g t4=>B3 g ((Op.un .not) [t4]) fun g t11=>IF3 g t11 (fun g=>GO3 g (SEQ3 (W M c (zi 12)) Q) .ret ((3,(.int .i64 2))::(2,(.str []))::E) D H) (fun g=>Gt g M c (zi 12) Q E D H)) /\
 (∀ Q E D H,W M c (zi 12) true Q E D H =
  Lz E 0 fun g t0=>B3 g (Op.lenSl [t0]) fun g t14=>Bn g .sub t14 (.int .i64 1) fun g t15=>C3 M g (.func wo) [t0,t15,(.str [])] H fun g t16 H1=>W M c (zi 16) g Q ((6,(.int .i64 0))::(5,t16)::E) D H1) /\
 (∀ Q E D H,W M c (zi 16) true Q E D H =
  LOOP3 (W M c (zi 21)) (BLK3 0 (SEQ3 (W M c (zi 49)) Q)) ((7,(.int .i64 0))::E) D H) /\
 (∀ Q E D H,W M c (zi 49) true Q E D H =
  Lz E 5 fun g t5=>GO3 g Q .ret ((3,(.int .i64 0))::(2,t5)::E) D H) /\
 (∀ Q E D H,W M c (zi 21) true Q E D H =
  Lz E 7 fun g t7=>Ly g E 5 fun g t5=>B3 g (Op.lenStr [t5]) fun g t19=>Cb g .lss t7 t19 (fun g=>Gt g M c (zi 27) Q E D H) (fun g=>GO3 g (SEQ3 (W M c (zi 27)) Q) (.exit 0) E D H)) /\
 (∀ Q E D H,W M c (zi 27) true Q E D H =
  Lz E 5 fun g t5=>Ly g E 7 fun g t7=>B3 g (Op.indexStr [t5,t7]) fun g t25=>Bn g .eql t25 (.int .u8 40) fun g t26=>JN (fun (k:Bool->AV->AV->AV->AV->AHeap->Prop)=>B3 g (wantV false (some t26)) fun g w=>IG3 g w (fun g=>B3 g (Op.indexStr [t5,t7]) fun g t30=>Bn g .eql t30 (.int .u8 123) fun g t31=>k g t31 t30 t7 t5 H) (fun g=>k g uu uu uu uu H)) (fun g t31_1 t30_1 t29_1 t28_1 H1=>B3 g (Op.pick [t26,(.bool true),t31_1]) fun g t32=>IF3 g t32 (fun g=>Ly g E 6 fun g t6=>Bn g .add t6 (.int .i64 1) fun g t34=>Gt g M c (zi 35) (BLK3 1 (SEQ3 (W M c (zi 48)) Q)) ((6,t34)::E) D H1) (fun g=>Gt g M c (zi 35) (BLK3 1 (SEQ3 (W M c (zi 48)) Q)) E D H1))) /\
 (∀ Q E D H,W M c (zi 48) true Q E D H =
  Lz E 7 fun g t7=>Bn g .add t7 (.int .i64 1) fun g t22=>GO3 g Q .normal ((7,t22)::E) D H) /\
 (∀ Q E D H,W M c (zi 35) true Q E D H =
  Lz E 5 fun g t5=>Ly g E 7 fun g t7=>B3 g (Op.indexStr [t5,t7]) fun g t37=>Bn g .eql t37 (.int .u8 41) fun g t38=>JN (fun (k:Bool->AV->AV->AV->AV->AHeap->Prop)=>B3 g (wantV false (some t38)) fun g w=>IG3 g w (fun g=>B3 g (Op.indexStr [t5,t7]) fun g t42=>Bn g .eql t42 (.int .u8 125) fun g t43=>k g t43 t42 t7 t5 H) (fun g=>k g uu uu uu uu H)) (fun g t43_1 t42_1 t41_1 t40_1 H1=>B3 g (Op.pick [t38,(.bool true),t43_1]) fun g t44=>IF3 g t44 (fun g=>Ly g E 6 fun g t6=>Bn g .sub t6 (.int .i64 1) fun g t46=>Gt g M c (zi 41) Q ((6,t46)::E) D H1) (fun g=>Gt g M c (zi 41) Q E D H1))) /\
 (∀ Q E D H,W M c (zi 41) true Q E D H =
  Lz E 6 fun g t6=>Cb g .gtr t6 (.int .i64 50) (fun g=>GO3 g Q .ret ((3,(.int .i64 2))::(2,(.str []))::E) D H) (fun g=>GO3 g Q .normal E D H)):=by (repeat' apply And.intro)<;>(intro _ _ _ _;refine W_unf ?_;kernel_rfl)
theorem qzv:(cProg Tryd.prog).func yh=some qmk/\qmk.results=[.tmp 2,.tmp 3]:=x9 (by kernel_rfl)
theorem qq5 (h:W M ⟨none,yh⟩ (zi 0) true (FIN3 M [.tmp 2,.tmp 3] Q) [(0,a0)] [] H):kx M yh [a0] H Q:=callf (by decide) qzv (ks:=qq4) (by kernel_rfl) h
def qpu:AFunc:=funcAt Tryd.prog qcz
def qwh:Kp:=⟨[0,2,3,4,5,6,7,8,9],false,[0,2,10,14,19,25,31,39,44,50,60,61,62,64,72,75,76]⟩
def xv (k:Nat):Kp × ACode:=(qwh,part qpu.body k)
theorem qwi (M:Mac) (c:Ctx):(∀ Q E D H,W M c (xv 0) true Q E D H =
 W M c (xv 2) true Q ((2,(.bool false))::E) D H) /\
 (∀ Q E D H,W M c (xv 2) true Q E D H =
  Lz E 0 fun g t0=>B3 g (Op.lenSl [t0]) fun g t11=>Bn g .lss t11 (.int .i64 1) fun g t12=>JN (fun (k:Bool->AV->AV->AV->AHeap->Prop)=>B3 g (wantV false (some t12)) fun g w=>IG3 g w (fun g=>B3 g (Op.lenSl [t0]) fun g t15=>Bn g .gtr t15 (.int .i64 2000) fun g t16=>k g t16 t15 t0 H) (fun g=>k g uu uu uu H)) (fun g t16_1 t15_1 t14_1 H1=>B3 g (Op.pick [t12,(.bool true),t16_1]) fun g t17=>JN (fun (k:Bool->AV->AV->AV->AV->AV->AV->AV->AV->AHeap->Prop)=>B3 g (wantV false (some t17)) fun g w=>IG3 g w (fun g=>B3 g (Op.lenSl [t0]) fun g t21=>Bn g .sub t21 (.int .i64 1) fun g t22=>B3 g ((Op.indexSl 3) [t0,t22]) fun g t23=>B3 g ((Op.fieldAddr 0) [t23]) fun g t24=>B3 g (Op.load1 [t24] H1) fun g t25=>Bn g .neq t25 (.int .i64 20) fun g t26=>k g t26 t25 t24 t23 t22 t21 t0 t0 H1) (fun g=>k g uu uu uu uu uu uu uu uu H1)) (fun g t26_1 t25_1 t24_1 t23_1 t22_1 t21_1 t20_1 t19_1 H2=>B3 g (Op.pick [t17,(.bool true),t26_1]) fun g t27=>IF3 g t27 (fun g=>GO3 g (SEQ3 (W M c (xv 10)) Q) .ret ((2,(.bool false))::E) D H2) (fun g=>Gt g M c (xv 10) Q E D H2)))) /\
 (∀ Q E D H,W M c (xv 10) true Q E D H =
  Lz E 0 fun g t0=>B3 g (Op.lenSl [t0]) fun g t29=>B32 g ((Op.mkSlice qsy 1 [(.bool false)]) [t29,t29]) fun g o1 k1=>W M c (xv 14) g Q ((4,(k1 H.next))::(3,.nils)::E) D (H.alloc o1)) /\
 (∀ Q E D H,W M c (xv 14) true Q E D H =
  LOOP3 (W M c (xv 19)) (BLK3 0 (SEQ3 (W M c (xv 76)) Q)) ((5,(.int .i64 0))::E) D H) /\
 (∀ Q E D H,W M c (xv 76) true Q E D H =
  Lz E 3 fun g t3=>B3 g (Op.lenSl [t3]) fun g t129=>Bn g .eql t129 (.int .i64 1) fun g t130=>GO3 g Q .ret ((2,t130)::E) D H) /\
 (∀ Q E D H,W M c (xv 19) true Q E D H =
  Lz E 5 fun g t5=>Ly g E 0 fun g t0=>B3 g (Op.lenSl [t0]) fun g t33=>Cb g .lss t5 t33 (fun g=>Gt g M c (xv 25) Q E D H) (fun g=>GO3 g (SEQ3 (W M c (xv 25)) Q) (.exit 0) E D H)) /\
 (∀ Q E D H,W M c (xv 25) true Q E D H =
  Lz E 0 fun g t0=>Ly g E 5 fun g t5=>B3 g ((Op.indexSl 3) [t0,t5]) fun g t39=>B3 g ((Op.loadN 3) [t39] H) fun g t40=>A3 g qj [(.int .i64 0),(.int .u64 0),.nils] H fun g t6 H1=>B32 g ((Op.store 3) [t6,t40] H1) fun g u H2=>Fl g 2 t6 H2 fun g t42=>B3 g (Op.lenSl [t42]) fun g t43=>W M c (xv 31) g (BLK3 1 (SEQ3 (W M c (xv 75)) Q)) ((7,t43)::(6,t6)::E) D H2) /\
 (∀ Q E D H,W M c (xv 75) true Q E D H =
  Lz E 5 fun g t5=>Bn g .add t5 (.int .i64 1) fun g t36=>GO3 g Q .normal ((5,t36)::E) D H) /\
 (∀ Q E D H,W M c (xv 31) true Q E D H =
  Lz E 6 fun g t6=>Fl g 0 t6 H fun g t45=>C3 M g (.func qd5) [t45] H fun g t46 H1=>Bn g .eql t46 (.int .i64 0) fun g t47=>JN (fun (k:Bool->AV->AV->AV->AV->AHeap->Prop)=>B3 g (wantV false (some t47)) fun g w=>IG3 g w (fun g=>Ly g E 7 fun g t7=>Ly g E 3 fun g t3=>B3 g (Op.lenSl [t3]) fun g t51=>Bn g .gtr t7 t51 fun g t52=>k g t52 t51 t3 t7 H1) (fun g=>k g uu uu uu uu H1)) (fun g t52_1 t51_1 t50_1 t49_1 H2=>B3 g (Op.pick [t47,(.bool true),t52_1]) fun g t53=>IF3 g t53 (fun g=>GO3 g (SEQ3 (W M c (xv 39)) Q) .ret ((2,(.bool false))::E) D H2) (fun g=>Gt g M c (xv 39) Q E D H2))) /\
 (∀ Q E D H,W M c (xv 39) true Q E D H =
  LOOP3 (W M c (xv 44)) (BLK3 2 (SEQ3 (W M c (xv 62)) Q)) ((8,(.int .i64 0))::E) D H) /\
 (∀ Q E D H,W M c (xv 62) true Q E D H =
  Lz E 0 fun g t0=>Ly g E 6 fun g t6=>B3 g ((Op.loadN 3) [t6] H) fun g t92=>C3 M g (.func qan) [t0,t92] H fun g t93 H1=>W M c (xv 64) g Q ((9,t93)::E) D H1) /\
 (∀ Q E D H,W M c (xv 44) true Q E D H =
  Lz E 8 fun g t8=>Ly g E 7 fun g t7=>Cb g .lss t8 t7 (fun g=>Gt g M c (xv 50) Q E D H) (fun g=>GO3 g (SEQ3 (W M c (xv 50)) Q) (.exit 2) E D H)) /\
 (∀ Q E D H,W M c (xv 64) true Q E D H =
  Lz E 9 fun g t9=>B3 g ((Op.un .not) [t9]) fun g t95=>JN (fun (k:Bool->AV->AV->AV->AV->AHeap->Prop)=>B3 g (wantV false (some t95)) fun g w=>IG3 g w (fun g=>Ly g E 6 fun g t6=>B3 g ((Op.fieldAddr 0) [t6]) fun g t97=>B3 g (Op.load1 [t97] H) fun g t98=>Bn g .eql t98 (.int .i64 18) fun g t99=>k g t99 t99 t98 t97 H) (fun g=>k g uu uu uu uu H)) (fun g t100_1 t99_1 t98_1 t97_1 H1=>JN (fun (k:Bool->AV->AV->AV->AV->AHeap->Prop)=>B3 g (wantV true (some t100_1)) fun g w=>IG3 g w (fun g=>Ly g E 4 fun g t4=>Ly g E 5 fun g t5=>B3 g ((Op.indexSl 1) [t4,t5]) fun g t103=>B3 g (Op.load1 [t103] H1) fun g t104=>k g t104 t103 t5 t4 H1) (fun g=>k g uu uu uu uu H1)) (fun g t104_1 t103_1 t102_1 t101_1 H2=>JN (fun (k:Bool->AV->AHeap->Prop)=>B3 g (wantV false (some t95)) fun g w=>IG3 g w (fun g=>B3 g (Op.pick [t100_1,t104_1,(.bool false)]) fun g t105=>k g t105 H2) (fun g=>k g uu H2)) (fun g t105_1 H3=>B3 g (Op.pick [t95,(.bool true),t105_1]) fun g t106=>IF3 g t106 (fun g=>GO3 g (SEQ3 (W M c (xv 72)) Q) .ret ((2,(.bool false))::E) D H3) (fun g=>Gt g M c (xv 72) Q E D H3))))) /\
 (∀ Q E D H,W M c (xv 50) true Q E D H =
  Lz E 6 fun g t6=>Fl g 2 t6 H fun g t60=>Ly g E 8 fun g t8=>Xl g t60 t8 H fun g t63=>Ly g E 3 fun g t3=>B3 g (Op.lenSl [t3]) fun g t66=>Ly g E 7 fun g t7=>Bn g .sub t66 t7 fun g t68=>Bn g .add t68 t8 fun g t70=>Xl g t3 t70 H fun g t72=>Cb g .neq t63 t72 (fun g=>GO3 g (SEQ3 (W M c (xv 60)) (BLK3 3 (SEQ3 (W M c (xv 61)) Q))) .ret ((2,(.bool false))::E) D H) (fun g=>Gt g M c (xv 60) (BLK3 3 (SEQ3 (W M c (xv 61)) Q)) E D H)) /\
 (∀ Q E D H,W M c (xv 72) true Q E D H =
  Lz E 4 fun g t4=>Ly g E 5 fun g t5=>Xl g t4 t5 H fun g t112=>JN (fun (k:Bool->AV->AV->AV->AHeap->Prop)=>B3 g (wantV false (some t112)) fun g w=>IG3 g w (fun g=>Ly g E 6 fun g t6=>B3 g ((Op.fieldAddr 0) [t6]) fun g t114=>B3 g (Op.load1 [t114] H) fun g t115=>Bn g .eql t115 (.int .i64 18) fun g t116=>k g t116 t115 t114 H) (fun g=>k g uu uu uu H)) (fun g t116_1 t115_1 t114_1 H1=>B3 g (Op.pick [t112,(.bool true),t116_1]) fun g t117=>Xs g t4 t5 t117 H1 fun g u H2=>Ly g E 3 fun g t3=>B3 g (Op.lenSl [t3]) fun g t121=>Ly g E 7 fun g t7=>Bn g .sub t121 t7 fun g t123=>B3 g ((Op.sliceSl 1 [none,(some 0),none]) [t3,t123]) fun g t124=>Ly g E 5 fun g t5_1=>B32 g ((Op.buildSlice T_int 1 [(.int .i64 0)] [(0,1)]) [t5_1]) fun g o3 k3=>B32 g ((Op.append T_int 1 8) [t124,(k3 H2.next)] (H2.alloc o3)) fun g t127 H4=>GO3 g Q .normal ((3,t127)::E) D H4)) /\
 (∀ Q E D H,W M c (xv 61) true Q E D H =
  Lz E 8 fun g t8=>Bn g .add t8 (.int .i64 1) fun g t58=>GO3 g Q .normal ((8,t58)::E) D H) /\
 (∀ Q E D H,W M c (xv 60) true Q E D H =
  Lz E 4 fun g t4=>Ly g E 5 fun g t5=>Xl g t4 t5 H fun g t79=>JN (fun (k:Bool->AV->AV->AV->AV->AV->AV->AV->AV->AHeap->Prop)=>B3 g (wantV false (some t79)) fun g w=>IG3 g w (fun g=>Ly g E 6 fun g t6=>B3 g ((Op.fieldAddr 2) [t6]) fun g t82=>B3 g (Op.load1 [t82] H) fun g t83=>Ly g E 8 fun g t8=>B3 g ((Op.indexSl 1) [t83,t8]) fun g t85=>B3 g (Op.load1 [t85] H) fun g t86=>B3 g ((Op.indexSl 1) [t4,t86]) fun g t87=>B3 g (Op.load1 [t87] H) fun g t88=>k g t88 t87 t86 t85 t8 t83 t82 t4 H) (fun g=>k g uu uu uu uu uu uu uu uu H)) (fun g t88_1 t87_1 t86_1 t85_1 t84_1 t83_1 t82_1 t81_1 H1=>B3 g (Op.pick [t79,(.bool true),t88_1]) fun g t89=>Xs g t4 t5 t89 H1 fun g u H2=>GO3 g Q .normal E D H2)):=by (repeat' apply And.intro)<;>(intro _ _ _ _;refine W_unf ?_;kernel_rfl)
theorem q36:(cProg Tryd.prog).func qcz=some qpu/\qpu.results=[.tmp 2]:=x9 (by kernel_rfl)
theorem q37 (h:W M ⟨none,qcz⟩ (xv 0) true (FIN3 M [.tmp 2] Q) [(0,a0)] [] H):kx M qcz [a0] H Q:=callf (by decide) q36 (ks:=qwh) (by kernel_rfl) h
def qnw:AFunc:=funcAt Tryd.prog wo
def qtl:Kp:=⟨[0,1,2,6,7,8,9,35],false,[0,4,9,15,21,33,38,46,47,56,57,58]⟩
def zt (k:Nat):Kp × ACode:=(qtl,part qnw.body k)
theorem qtm (M:Mac) (c:Ctx):(∀ Q E D H,W M c (zt 0) true Q E D H =
 W M c (zt 4) true Q ((7,(.str []))::(6,(.str []))::E) D H) /\
 (∀ Q E D H,W M c (zt 4) true Q E D H =
  LOOP3 (W M c (zt 9)) (BLK3 0 (SEQ3 (W M c (zt 58)) Q)) ((8,(.int .i64 0))::E) D H) /\
 (∀ Q E D H,W M c (zt 58) true Q E D H =
  Lz E 7 fun g t7=>GO3 g Q .ret ((6,t7)::E) D H) /\
 (∀ Q E D H,W M c (zt 9) true Q E D H =
  Lz E 8 fun g t8=>Ly g E 0 fun g t0=>Ly g E 1 fun g t1=>B3 g ((Op.indexSl 3) [t0,t1]) fun g t13=>Fl g 2 t13 H fun g t15=>B3 g (Op.lenSl [t15]) fun g t16=>Cb g .lss t8 t16 (fun g=>Gt g M c (zt 15) Q E D H) (fun g=>GO3 g (SEQ3 (W M c (zt 15)) Q) (.exit 0) E D H)) /\
 (∀ Q E D H,W M c (zt 15) true Q E D H =
  Lz E 0 fun g t0=>Ly g E 1 fun g t1=>B3 g ((Op.indexSl 3) [t0,t1]) fun g t23=>Fl g 2 t23 H fun g t25=>Ly g E 8 fun g t8=>Xl g t25 t8 H fun g t28=>B3 g ((Op.indexSl 3) [t0,t28]) fun g t29=>B3 g ((Op.loadN 3) [t29] H) fun g t30=>A3 g qj [(.int .i64 0),(.int .u64 0),.nils] H fun g t9 H1=>B32 g ((Op.store 3) [t9,t30] H1) fun g u H2=>Ly g E 7 fun g t7=>Ly g E 2 fun g t2=>Bn g .add t7 t2 fun g t33=>W M c (zt 21) g (BLK3 1 (SEQ3 (W M c (zt 57)) Q)) ((7,t33)::(9,t9)::E) D H2) /\
 (∀ Q E D H,W M c (zt 57) true Q E D H =
  Lz E 8 fun g t8=>Bn g .add t8 (.int .i64 1) fun g t19=>GO3 g Q .normal ((8,t19)::E) D H) /\
 (∀ Q E D H,W M c (zt 21) true Q E D H =
  Lz E 9 fun g t9=>Fl g 0 t9 H fun g t35=>Cb g .eql t35 (.int .i64 14) (fun g=>Ly g E 7 fun g t7=>Ly g E 9 fun g t9_1=>Fl g 1 t9_1 H fun g t40=>Ly g E 0 fun g t0=>B3 g ((Op.fieldAddr 2) [t9_1]) fun g t45=>B3 g (Op.load1 [t45] H) fun g t46=>B3 g ((Op.indexSl 1) [t46,(.int .i64 0)]) fun g t47=>B3 g (Op.load1 [t47] H) fun g t48=>C3 M g (.func qdm) [t40] H fun g t41 H1=>CK3 g (Op.load1 [t45] H1) (some t46) fun g=>CK3 g (Op.load1 [t47] H1) (some t48) fun g=>Bn g .add t7 t41 fun g t42=>Bn g .add t42 (.str [32,61,32]) fun g t43=>C3 M g (.func qam) [t0,t48,(.int .i64 0)] H1 fun g t49 H2=>Bn g .add t43 t49 fun g t50=>Bn g .add t50 (.str [59]) fun g t51=>GO3 g (BLK3 2 (SEQ3 (W M c (zt 56)) Q)) .normal ((7,t51)::(35,t35)::E) D H2) (fun g=>Cb g .eql t35 (.int .i64 15) (fun g=>Ly g E 7 fun g t7=>Bn g .add t7 (.str [115,116,111,114,101,40]) fun g t55=>Ly g E 0 fun g t0=>Ly g E 9 fun g t9_1=>Fl g 2 t9_1 H fun g t58=>Xl g t58 (.int .i64 0) H fun g t60=>B3 g ((Op.fieldAddr 2) [t9_1]) fun g t65=>B3 g (Op.load1 [t65] H) fun g t66=>B3 g ((Op.indexSl 1) [t66,(.int .i64 1)]) fun g t67=>B3 g (Op.load1 [t67] H) fun g t68=>C3 M g (.func qam) [t0,t60,(.int .i64 0)] H fun g t61 H1=>CK3 g (Op.load1 [t65] H1) (some t66) fun g=>CK3 g (Op.load1 [t67] H1) (some t68) fun g=>Bn g .add t55 t61 fun g t62=>Bn g .add t62 (.str [44,32]) fun g t63=>C3 M g (.func qam) [t0,t68,(.int .i64 0)] H1 fun g t69 H2=>Bn g .add t63 t69 fun g t70=>Bn g .add t70 (.str [41,59]) fun g t71=>GO3 g (BLK3 2 (SEQ3 (W M c (zt 56)) Q)) .normal ((7,t71)::(35,t35)::E) D H2) (fun g=>W M c (zt 33) g (BLK3 2 (SEQ3 (W M c (zt 56)) Q)) ((35,t35)::E) D H))) /\
 (∀ Q E D H,W M c (zt 56) true Q E D H =
  Lz E 7 fun g t7=>Bn g .add t7 (.str [10]) fun g t159=>GO3 g Q .normal ((7,t159)::E) D H) /\
 (∀ Q E D H,W M c (zt 33) true Q E D H =
  Lz E 35 fun g t35=>Cb g .eql t35 (.int .i64 16) (fun g=>Ly g E 7 fun g t7=>Bn g .add t7 (.str [105,102,32,40]) fun g t75=>Ly g E 0 fun g t0=>Ly g E 9 fun g t9=>Fl g 2 t9 H fun g t78=>Xl g t78 (.int .i64 0) H fun g t80=>B3 g ((Op.fieldAddr 2) [t9]) fun g t85=>B3 g (Op.load1 [t85] H) fun g t86=>B3 g ((Op.indexSl 1) [t86,(.int .i64 1)]) fun g t87=>B3 g (Op.load1 [t87] H) fun g t88=>Ly g E 2 fun g t2=>Bn g .add t2 (.str [32,32]) fun g t90=>C3 M g (.func qe2) [t0,t80] H fun g t81 H1=>CK3 g (Op.load1 [t85] H1) (some t86) fun g=>CK3 g (Op.load1 [t87] H1) (some t88) fun g=>Bn g .add t75 t81 fun g t82=>Bn g .add t82 (.str [41,32,123,10]) fun g t83=>C3 M g (.func wo) [t0,t88,t90] H1 fun g t91 H2=>Bn g .add t83 t91 fun g t92=>Bn g .add t92 t2 fun g t94=>Bn g .add t94 (.str [125]) fun g t95=>W M c (zt 38) g Q ((7,t95)::E) D H2) (fun g=>Ly g E 35 fun g t35_1=>Cb g .eql t35_1 (.int .i64 17) (fun g=>W M c (zt 46) g Q E D H) (fun g=>W M c (zt 47) g Q E D H))) /\
 (∀ Q E D H,W M c (zt 38) true Q E D H =
  Lz E 9 fun g t9=>Fl g 2 t9 H fun g t97=>B3 g (Op.lenSl [t97]) fun g t98=>Cb g .eql t98 (.int .i64 3) (fun g=>Ly g E 7 fun g t7=>Bn g .add t7 (.str [32,101,108,115,101,32,123,10]) fun g t101=>Ly g E 0 fun g t0=>Ly g E 9 fun g t9_1=>Fl g 2 t9_1 H fun g t104=>Xl g t104 (.int .i64 2) H fun g t106=>Ly g E 2 fun g t2=>Bn g .add t2 (.str [32,32]) fun g t108=>C3 M g (.func wo) [t0,t106,t108] H fun g t109 H1=>Bn g .add t101 t109 fun g t110=>Bn g .add t110 t2 fun g t112=>Bn g .add t112 (.str [125]) fun g t113=>GO3 g Q .normal ((7,t113)::E) D H1) (fun g=>GO3 g Q .normal E D H)) /\
 (∀ Q E D H,W M c (zt 46) true Q E D H =
  Lz E 7 fun g t7=>Bn g .add t7 (.str [119,104,105,108,101,32,40]) fun g t117=>Ly g E 0 fun g t0=>Ly g E 9 fun g t9=>Fl g 2 t9 H fun g t120=>Xl g t120 (.int .i64 0) H fun g t122=>B3 g ((Op.fieldAddr 2) [t9]) fun g t127=>B3 g (Op.load1 [t127] H) fun g t128=>B3 g ((Op.indexSl 1) [t128,(.int .i64 1)]) fun g t129=>B3 g (Op.load1 [t129] H) fun g t130=>Ly g E 2 fun g t2=>Bn g .add t2 (.str [32,32]) fun g t132=>C3 M g (.func qe2) [t0,t122] H fun g t123 H1=>CK3 g (Op.load1 [t127] H1) (some t128) fun g=>CK3 g (Op.load1 [t129] H1) (some t130) fun g=>Bn g .add t117 t123 fun g t124=>Bn g .add t124 (.str [41,32,123,10]) fun g t125=>C3 M g (.func wo) [t0,t130,t132] H1 fun g t133 H2=>Bn g .add t125 t133 fun g t134=>Bn g .add t134 t2 fun g t136=>Bn g .add t136 (.str [125]) fun g t137=>GO3 g Q .normal ((7,t137)::E) D H2) /\
 (∀ Q E D H,W M c (zt 47) true Q E D H =
  Lz E 35 fun g t35=>Cb g .eql t35 (.int .i64 18) (fun g=>Ly g E 7 fun g t7=>Bn g .add t7 (.str [97,116,111,109,105,99,32,123,10]) fun g t141=>Ly g E 0 fun g t0=>Ly g E 9 fun g t9=>Fl g 2 t9 H fun g t144=>Xl g t144 (.int .i64 0) H fun g t146=>Ly g E 2 fun g t2=>Bn g .add t2 (.str [32,32]) fun g t148=>C3 M g (.func wo) [t0,t146,t148] H fun g t149 H1=>Bn g .add t141 t149 fun g t150=>Bn g .add t150 t2 fun g t152=>Bn g .add t152 (.str [125]) fun g t153=>GO3 g Q .normal ((7,t153)::E) D H1) (fun g=>Ly g E 35 fun g t35_1=>Cb g .eql t35_1 (.int .i64 19) (fun g=>Ly g E 7 fun g t7=>Bn g .add t7 (.str [104,97,108,116,59]) fun g t157=>GO3 g Q .normal ((7,t157)::E) D H) (fun g=>GO3 g Q .normal E D H))):=by (repeat' apply And.intro)<;>(intro _ _ _ _;refine W_unf ?_;kernel_rfl)
theorem q2j:(cProg Tryd.prog).func wo=some qnw/\qnw.results=[.tmp 6]:=x9 (by kernel_rfl)
theorem q2k (h:W M ⟨none,wo⟩ (zt 0) true (FIN3 M [.tmp 6] Q) [(0,a0),(1,a1),(2,a2)] [] H):kx M wo [a0,a1,a2] H Q:=callf (by decide) q2j (ks:=qtl) (by kernel_rfl) h
def qmm:AFunc:=funcAt Tryd.prog qd5
def qq6:Kp:=⟨[0,2],false,[0,2,10,18,26,34]⟩
def yk (k:Nat):Kp × ACode:=(qq6,part qmm.body k)
theorem qfr (M:Mac) (c:Ctx):(∀ Q E D H,W M c (yk 0) true Q E D H =
 W M c (yk 2) true Q ((2,(.int .i64 0))::E) D H) /\
 (∀ Q E D H,W M c (yk 2) true Q E D H =
  Lz E 0 fun g t0=>Bn g .lss t0 (.int .i64 1) fun g t4=>JN (fun (k:Bool->AV->AV->AHeap->Prop)=>B3 g (wantV false (some t4)) fun g w=>IG3 g w (fun g=>Bn g .gtr t0 (.int .i64 20) fun g t7=>k g t7 t0 H) (fun g=>k g uu uu H)) (fun g t7_1 t6_1 H1=>B3 g (Op.pick [t4,(.bool true),t7_1]) fun g t8=>IF3 g t8 (fun g=>GO3 g (SEQ3 (W M c (yk 10)) Q) .ret ((2,(.int .i64 0))::E) D H1) (fun g=>Gt g M c (yk 10) Q E D H1))) /\
 (∀ Q E D H,W M c (yk 10) true Q E D H =
  Lz E 0 fun g t0=>Cb g .leq t0 (.int .i64 10) (fun g=>GO3 g (SEQ3 (W M c (yk 18)) Q) .ret ((2,(.int .i64 1))::E) D H) (fun g=>Gt g M c (yk 18) Q E D H)) /\
 (∀ Q E D H,W M c (yk 18) true Q E D H =
  Lz E 0 fun g t0=>Cb g .leq t0 (.int .i64 13) (fun g=>GO3 g (SEQ3 (W M c (yk 26)) Q) .ret ((2,(.int .i64 2))::E) D H) (fun g=>Gt g M c (yk 26) Q E D H)) /\
 (∀ Q E D H,W M c (yk 26) true Q E D H =
  Lz E 0 fun g t0=>Cb g .leq t0 (.int .i64 19) (fun g=>GO3 g (SEQ3 (W M c (yk 34)) Q) .ret ((2,(.int .i64 3))::E) D H) (fun g=>Gt g M c (yk 34) Q E D H)) /\
 (∀ Q E D H,W M c (yk 34) true Q E D H =
  GO3 true Q .ret ((2,(.int .i64 4))::E) D H):=by (repeat' apply And.intro)<;>(intro _ _ _ _;refine W_unf ?_;kernel_rfl)
theorem qzw:(cProg Tryd.prog).func qd5=some qmm/\qmm.results=[.tmp 2]:=x9 (by kernel_rfl)
theorem qzx (h:W M ⟨none,qd5⟩ (yk 0) true (FIN3 M [.tmp 2] Q) [(0,a0)] [] H):kx M qd5 [a0] H Q:=callf (by decide) qzw (ks:=qq6) (by kernel_rfl) h
def qnv:AFunc:=funcAt Tryd.prog qan
def qtj:Kp:=⟨[0,1,3,4,5,6,7,8,9],false,[0,4,12,14,20,26,32,40,45,51,57,63,69,75,81,88,89]⟩
def xj (k:Nat):Kp × ACode:=(qtj,part qnv.body k)
theorem qtk (M:Mac) (c:Ctx):(∀ Q E D H,W M c (xj 0) true Q E D H =
 Lz E 1 fun g t1=>A3 g qj (AV.cells t1) H fun g t3 H1=>Fl g 0 t3 H1 fun g t11=>Bn g .eql t11 (.int .i64 2) fun g t12=>JN (fun (k:Bool->AV->AV->AV->AHeap->Prop)=>B3 g (wantV false (some t12)) fun g w=>IG3 g w (fun g=>B3 g ((Op.fieldAddr 0) [t3]) fun g t14=>B3 g (Op.load1 [t14] H1) fun g t15=>Bn g .eql t15 (.int .i64 14) fun g t16=>k g t16 t15 t14 H1) (fun g=>k g uu uu uu H1)) (fun g t16_1 t15_1 t14_1 H2=>B3 g (Op.pick [t12,(.bool true),t16_1]) fun g t17=>W M c (xj 4) g Q ((5,t17)::(4,(.bool false))::(3,t3)::E) D H2)) /\
 (∀ Q E D H,W M c (xj 4) true Q E D H =
  Lz E 5 fun g t5=>JN (fun (k:Bool->AV->AV->AV->AHeap->Prop)=>B3 g (wantV true (some t5)) fun g w=>IG3 g w (fun g=>Ly g E 3 fun g t3=>B3 g ((Op.fieldAddr 1) [t3]) fun g t20=>B3 g (Op.load1 [t20] H) fun g t21=>Bn g .gtr t21 (.int .u64 7) fun g t22=>k g t22 t21 t20 H) (fun g=>k g uu uu uu H)) (fun g t22_1 t21_1 t20_1 H1=>B3 g (Op.pick [t5,t22_1,(.bool false)]) fun g t23=>JN (fun (k:Bool->AV->AV->AV->AHeap->Prop)=>B3 g (wantV false (some t23)) fun g w=>IG3 g w (fun g=>B3 g ((Op.un .not) [t5]) fun g t26=>k g t26 t26 t5 H1) (fun g=>k g uu uu uu H1)) (fun g t27_1 t26_1 t25_1 H2=>JN (fun (k:Bool->AV->AV->AV->AHeap->Prop)=>B3 g (wantV true (some t27_1)) fun g w=>IG3 g w (fun g=>Ly g E 3 fun g t3_1=>B3 g ((Op.fieldAddr 0) [t3_1]) fun g t28=>B3 g (Op.load1 [t28] H2) fun g t29=>Bn g .neq t29 (.int .i64 1) fun g t30=>k g t30 t29 t28 H2) (fun g=>k g uu uu uu H2)) (fun g t30_1 t29_1 t28_1 H3=>JN (fun (k:Bool->AV->AV->AHeap->Prop)=>B3 g (wantV false (some t23)) fun g w=>IG3 g w (fun g=>B3 g (Op.pick [t27_1,t30_1,(.bool false)]) fun g t31=>k g t31 t31 H3) (fun g=>k g uu uu H3)) (fun g t32_1 t31_1 H4=>JN (fun (k:Bool->AV->AV->AV->AHeap->Prop)=>B3 g (wantV true (some t32_1)) fun g w=>IG3 g w (fun g=>Ly g E 3 fun g t3_2=>B3 g ((Op.fieldAddr 1) [t3_2]) fun g t33=>B3 g (Op.load1 [t33] H4) fun g t34=>Bn g .neq t34 (.int .u64 0) fun g t35=>k g t35 t34 t33 H4) (fun g=>k g uu uu uu H4)) (fun g t35_1 t34_1 t33_1 H5=>JN (fun (k:Bool->AV->AHeap->Prop)=>B3 g (wantV false (some t23)) fun g w=>IG3 g w (fun g=>B3 g (Op.pick [t32_1,t35_1,(.bool false)]) fun g t36=>k g t36 H5) (fun g=>k g uu H5)) (fun g t36_1 H6=>B3 g (Op.pick [t23,(.bool true),t36_1]) fun g t37=>IF3 g t37 (fun g=>GO3 g (SEQ3 (W M c (xj 12)) Q) .ret ((4,(.bool false))::E) D H6) (fun g=>Gt g M c (xj 12) Q E D H6)))))))) /\
 (∀ Q E D H,W M c (xj 12) true Q E D H =
  W M c (xj 14) true Q ((6,(.int .i64 2))::E) D H) /\
 (∀ Q E D H,W M c (xj 14) true Q E D H =
  Lz E 3 fun g t3=>Fl g 0 t3 H fun g t39=>Bn g .leq t39 (.int .i64 2) fun g t40=>JN (fun (k:Bool->AV->AV->AV->AHeap->Prop)=>B3 g (wantV false (some t40)) fun g w=>IG3 g w (fun g=>B3 g ((Op.fieldAddr 0) [t3]) fun g t42=>B3 g (Op.load1 [t42] H) fun g t43=>Bn g .eql t43 (.int .i64 19) fun g t44=>k g t44 t43 t42 H) (fun g=>k g uu uu uu H)) (fun g t44_1 t43_1 t42_1 H1=>B3 g (Op.pick [t40,(.bool true),t44_1]) fun g t45=>IF3 g t45 (fun g=>Gt g M c (xj 20) Q ((6,(.int .i64 0))::E) D H1) (fun g=>Gt g M c (xj 20) Q E D H1))) /\
 (∀ Q E D H,W M c (xj 20) true Q E D H =
  Lz E 3 fun g t3=>Fl g 0 t3 H fun g t47=>Bn g .eql t47 (.int .i64 3) fun g t48=>JN (fun (k:Bool->AV->AV->AV->AHeap->Prop)=>B3 g (wantV false (some t48)) fun g w=>IG3 g w (fun g=>B3 g ((Op.fieldAddr 0) [t3]) fun g t50=>B3 g (Op.load1 [t50] H) fun g t51=>Bn g .eql t51 (.int .i64 14) fun g t52=>k g t52 t51 t50 H) (fun g=>k g uu uu uu H)) (fun g t52_1 t51_1 t50_1 H1=>B3 g (Op.pick [t48,(.bool true),t52_1]) fun g t53=>JN (fun (k:Bool->AV->AV->AV->AHeap->Prop)=>B3 g (wantV false (some t53)) fun g w=>IG3 g w (fun g=>B3 g ((Op.fieldAddr 0) [t3]) fun g t55=>B3 g (Op.load1 [t55] H1) fun g t56=>Bn g .eql t56 (.int .i64 18) fun g t57=>k g t57 t56 t55 H1) (fun g=>k g uu uu uu H1)) (fun g t57_1 t56_1 t55_1 H2=>B3 g (Op.pick [t53,(.bool true),t57_1]) fun g t58=>IF3 g t58 (fun g=>Gt g M c (xj 26) Q ((6,(.int .i64 1))::E) D H2) (fun g=>Gt g M c (xj 26) Q E D H2)))) /\
 (∀ Q E D H,W M c (xj 26) true Q E D H =
  Lz E 3 fun g t3=>Fl g 0 t3 H fun g t60=>Bn g .eql t60 (.int .i64 16) fun g t61=>JN (fun (k:Bool->AV->AV->AV->AV->AHeap->Prop)=>B3 g (wantV true (some t61)) fun g w=>IG3 g w (fun g=>B3 g ((Op.fieldAddr 2) [t3]) fun g t63=>B3 g (Op.load1 [t63] H) fun g t64=>B3 g (Op.lenSl [t64]) fun g t65=>Bn g .eql t65 (.int .i64 3) fun g t66=>k g t66 t65 t64 t63 H) (fun g=>k g uu uu uu uu H)) (fun g t66_1 t65_1 t64_1 t63_1 H1=>B3 g (Op.pick [t61,t66_1,(.bool false)]) fun g t67=>IF3 g t67 (fun g=>Gt g M c (xj 32) Q ((6,(.int .i64 3))::E) D H1) (fun g=>Gt g M c (xj 32) Q E D H1))) /\
 (∀ Q E D H,W M c (xj 32) true Q E D H =
  Lz E 3 fun g t3=>Fl g 0 t3 H fun g t69=>Bn g .neq t69 (.int .i64 20) fun g t70=>JN (fun (k:Bool->AV->AV->AV->AV->AV->AHeap->Prop)=>B3 g (wantV true (some t70)) fun g w=>IG3 g w (fun g=>B3 g ((Op.fieldAddr 2) [t3]) fun g t72=>B3 g (Op.load1 [t72] H) fun g t73=>B3 g (Op.lenSl [t73]) fun g t74=>Ly g E 6 fun g t6=>Bn g .neq t74 t6 fun g t76=>k g t76 t6 t74 t73 t72 H) (fun g=>k g uu uu uu uu uu H)) (fun g t76_1 t75_1 t74_1 t73_1 t72_1 H1=>B3 g (Op.pick [t70,t76_1,(.bool false)]) fun g t77=>IF3 g t77 (fun g=>GO3 g (SEQ3 (W M c (xj 40)) Q) .ret ((4,(.bool false))::E) D H1) (fun g=>Gt g M c (xj 40) Q E D H1))) /\
 (∀ Q E D H,W M c (xj 40) true Q E D H =
  LOOP3 (W M c (xj 45)) (BLK3 0 (SEQ3 (W M c (xj 89)) Q)) ((7,(.int .i64 0))::E) D H) /\
 (∀ Q E D H,W M c (xj 89) true Q E D H =
  GO3 true Q .ret ((4,(.bool true))::E) D H) /\
 (∀ Q E D H,W M c (xj 45) true Q E D H =
  Lz E 7 fun g t7=>Ly g E 3 fun g t3=>Fl g 2 t3 H fun g t80=>B3 g (Op.lenSl [t80]) fun g t81=>Cb g .lss t7 t81 (fun g=>Gt g M c (xj 51) Q E D H) (fun g=>GO3 g (SEQ3 (W M c (xj 51)) Q) (.exit 0) E D H)) /\
 (∀ Q E D H,W M c (xj 51) true Q E D H =
  Lz E 0 fun g t0=>Ly g E 3 fun g t3=>Fl g 2 t3 H fun g t87=>Ly g E 7 fun g t7=>Xl g t87 t7 H fun g t90=>B3 g ((Op.indexSl 3) [t0,t90]) fun g t91=>Fl g 0 t91 H fun g t93=>C3 M g (.func qd5) [t93] H fun g t94 H1=>W M c (xj 57) g (BLK3 1 (SEQ3 (W M c (xj 88)) Q)) ((9,(.int .i64 1))::(8,t94)::E) D H1) /\
 (∀ Q E D H,W M c (xj 88) true Q E D H =
  Lz E 7 fun g t7=>Bn g .add t7 (.int .i64 1) fun g t84=>GO3 g Q .normal ((7,t84)::E) D H) /\
 (∀ Q E D H,W M c (xj 57) true Q E D H =
  Lz E 3 fun g t3=>Fl g 0 t3 H fun g t96=>Bn g .eql t96 (.int .i64 16) fun g t97=>JN (fun (k:Bool->AV->AV->AV->AHeap->Prop)=>B3 g (wantV false (some t97)) fun g w=>IG3 g w (fun g=>B3 g ((Op.fieldAddr 0) [t3]) fun g t99=>B3 g (Op.load1 [t99] H) fun g t100=>Bn g .eql t100 (.int .i64 17) fun g t101=>k g t101 t100 t99 H) (fun g=>k g uu uu uu H)) (fun g t101_1 t100_1 t99_1 H1=>B3 g (Op.pick [t97,(.bool true),t101_1]) fun g t102=>IF3 g t102 (fun g=>W M c (xj 63) g (SEQ3 (W M c (xj 69)) Q) ((9,(.int .i64 4))::E) D H1) (fun g=>Gt g M c (xj 69) Q E D H1))) /\
 (∀ Q E D H,W M c (xj 69) true Q E D H =
  Lz E 3 fun g t3=>Fl g 0 t3 H fun g t106=>Cb g .eql t106 (.int .i64 18) (fun g=>Gt g M c (xj 75) Q ((9,(.int .i64 4))::E) D H) (fun g=>Gt g M c (xj 75) Q E D H)) /\
 (∀ Q E D H,W M c (xj 63) true Q E D H =
  Lz E 7 fun g t7=>Cb g .eql t7 (.int .i64 0) (fun g=>GO3 g Q .normal ((9,(.int .i64 2))::E) D H) (fun g=>GO3 g Q .normal E D H)) /\
 (∀ Q E D H,W M c (xj 75) true Q E D H =
  Lz E 3 fun g t3=>Fl g 0 t3 H fun g t109=>Cb g .eql t109 (.int .i64 20) (fun g=>Gt g M c (xj 81) Q ((9,(.int .i64 3))::E) D H) (fun g=>Gt g M c (xj 81) Q E D H)) /\
 (∀ Q E D H,W M c (xj 81) true Q E D H =
  Lz E 8 fun g t8=>Ly g E 9 fun g t9=>Cb g .neq t8 t9 (fun g=>GO3 g Q .ret ((4,(.bool false))::E) D H) (fun g=>GO3 g Q .normal E D H)):=by (repeat' apply And.intro)<;>(intro _ _ _ _;refine W_unf ?_;kernel_rfl)
theorem q2h:(cProg Tryd.prog).func qan=some qnv/\qnv.results=[.tmp 4]:=x9 (by kernel_rfl)
theorem q2i (h:W M ⟨none,qan⟩ (xj 0) true (FIN3 M [.tmp 4] Q) [(0,a0),(1,a1)] [] H):kx M qan [a0,a1] H Q:=callf (by decide) q2h (ks:=qtj) (by kernel_rfl) h
def qk0:AFunc:=funcAt Tryd.prog qdm
def qo9:Kp:=⟨[0,2],false,[0]⟩
def qpa (k:Nat):Kp × ACode:=(qo9,part qk0.body k)
theorem qxc (M:Mac) (c:Ctx):(∀ Q E D H,W M c (qpa 0) true Q E D H =
 Lz E 0 fun g t0=>Bn g .add (.int .u64 97) t0 fun g t4=>B3 g ((Op.wrap .u8) [t4]) fun g t5=>B32 g ((Op.buildSlice qb7 1 [(.int .u8 0)] [(0,1)]) [t5]) fun g o1 k1=>B3 g (Op.strOfBytes [(k1 H.next)] (H.alloc o1)) fun g t7=>GO3 g Q .ret ((2,t7)::(2,(.str []))::E) D (H.alloc o1)):=by intro _ _ _ _;refine W_unf ?_;kernel_rfl
theorem qxa:(cProg Tryd.prog).func qdm=some qk0/\qk0.results=[.tmp 2]:=x9 (by kernel_rfl)
theorem qxb (h:W M ⟨none,qdm⟩ (qpa 0) true (FIN3 M [.tmp 2] Q) [(0,a0)] [] H):kx M qdm [a0] H Q:=callf (by decide) qxa (ks:=qo9) (by kernel_rfl) h
def qnu:AFunc:=funcAt Tryd.prog qam
def qti:Kp:=⟨[0,1,2,6,7,8,9,10,11],false,[0,4,12,20,28,32,34,42]⟩
def kc (k:Nat):Kp × ACode:=(qti,part qnu.body k)
theorem qbu (M:Mac) (c:Ctx):(∀ Q E D H,W M c (kc 0) true Q E D H =
 Lz E 0 fun g t0=>Ly g E 1 fun g t1=>B3 g ((Op.indexSl 3) [t0,t1]) fun g t14=>B3 g ((Op.loadN 3) [t14] H) fun g t15=>A3 g qj [(.int .i64 0),(.int .u64 0),.nils] H fun g t7 H1=>B32 g ((Op.store 3) [t7,t15] H1) fun g u H2=>W M c (kc 4) g Q ((7,t7)::(6,(.str []))::E) D H2) /\
 (∀ Q E D H,W M c (kc 4) true Q E D H =
  Lz E 7 fun g t7=>Fl g 0 t7 H fun g t17=>Cb g .eql t17 (.int .i64 1) (fun g=>Ly g E 7 fun g t7_1=>Fl g 1 t7_1 H fun g t20=>C3 M g (.func qdl) [t20] H fun g t21 H1=>GO3 g (SEQ3 (W M c (kc 12)) Q) .ret ((6,t21)::E) D H1) (fun g=>Gt g M c (kc 12) Q E D H)) /\
 (∀ Q E D H,W M c (kc 12) true Q E D H =
  Lz E 7 fun g t7=>Fl g 0 t7 H fun g t23=>Cb g .eql t23 (.int .i64 2) (fun g=>Ly g E 7 fun g t7_1=>Fl g 1 t7_1 H fun g t26=>C3 M g (.func qdm) [t26] H fun g t27 H1=>GO3 g (SEQ3 (W M c (kc 20)) Q) .ret ((6,t27)::E) D H1) (fun g=>Gt g M c (kc 20) Q E D H)) /\
 (∀ Q E D H,W M c (kc 20) true Q E D H =
  Lz E 7 fun g t7=>Fl g 0 t7 H fun g t29=>Cb g .eql t29 (.int .i64 3) (fun g=>Ly g E 0 fun g t0=>Ly g E 7 fun g t7_1=>Fl g 2 t7_1 H fun g t33=>Xl g t33 (.int .i64 0) H fun g t35=>C3 M g (.func qam) [t0,t35,(.int .i64 0)] H fun g t36 H1=>Bn g .add (.str [108,111,97,100,40]) t36 fun g t37=>Bn g .add t37 (.str [41]) fun g t38=>GO3 g (SEQ3 (W M c (kc 28)) Q) .ret ((6,t38)::E) D H1) (fun g=>Gt g M c (kc 28) Q E D H)) /\
 (∀ Q E D H,W M c (kc 28) true Q E D H =
  Lz E 7 fun g t7=>Fl g 0 t7 H fun g t41=>C3 M g (.func qej) [t41] H fun g t42 H1=>B3 g ((Op.extract 0) [t42]) fun g t43=>B3 g ((Op.extract 1) [t42]) fun g t44=>Ly g E 0 fun g t0=>Ly g E 7 fun g t7_1=>Fl g 2 t7_1 H1 fun g t47=>Xl g t47 (.int .i64 0) H1 fun g t49=>C3 M g (.func qam) [t0,t49,t44] H1 fun g t51 H2=>W M c (kc 32) g Q ((10,t51)::(9,t44)::(8,t43)::E) D H2) /\
 (∀ Q E D H,W M c (kc 32) true Q E D H =
  Lz E 0 fun g t0=>Ly g E 7 fun g t7=>Fl g 2 t7 H fun g t54=>Xl g t54 (.int .i64 1) H fun g t56=>Ly g E 9 fun g t9=>Bn g .add t9 (.int .i64 1) fun g t58=>C3 M g (.func qam) [t0,t56,t58] H fun g t59 H1=>W M c (kc 34) g Q ((11,t59)::E) D H1) /\
 (∀ Q E D H,W M c (kc 34) true Q E D H =
  Lz E 9 fun g t9=>Ly g E 2 fun g t2=>Cb g .lss t9 t2 (fun g=>Ly g E 10 fun g t10=>Bn g .add (.str [40]) t10 fun g t64=>Bn g .add t64 (.str [32]) fun g t65=>Ly g E 8 fun g t8=>Bn g .add t65 t8 fun g t67=>Bn g .add t67 (.str [32]) fun g t68=>Ly g E 11 fun g t11=>Bn g .add t68 t11 fun g t70=>Bn g .add t70 (.str [41]) fun g t71=>GO3 g (SEQ3 (W M c (kc 42)) Q) .ret ((6,t71)::E) D H) (fun g=>Gt g M c (kc 42) Q E D H)) /\
 (∀ Q E D H,W M c (kc 42) true Q E D H =
  Lz E 10 fun g t10=>Bn g .add t10 (.str [32]) fun g t73=>Ly g E 8 fun g t8=>Bn g .add t73 t8 fun g t75=>Bn g .add t75 (.str [32]) fun g t76=>Ly g E 11 fun g t11=>Bn g .add t76 t11 fun g t78=>GO3 g Q .ret ((6,t78)::E) D H):=by (repeat' apply And.intro)<;>(intro _ _ _ _;refine W_unf ?_;kernel_rfl)
theorem q2g:(cProg Tryd.prog).func qam=some qnu/\qnu.results=[.tmp 6]:=x9 (by kernel_rfl)
theorem qkv (h:W M ⟨none,qam⟩ (kc 0) true (FIN3 M [.tmp 6] Q) [(0,a0),(1,a1),(2,a2)] [] H):kx M qam [a0,a1,a2] H Q:=callf (by decide) q2g (ks:=qti) (by kernel_rfl) h
def qns:AFunc:=funcAt Tryd.prog qe2
def qth:Kp:=⟨[0,1,4,5],false,[0,4]⟩
def qku (k:Nat):Kp × ACode:=(qth,part qns.body k)
theorem qnt (M:Mac) (c:Ctx):(∀ Q E D H,W M c (qku 0) true Q E D H =
 B32 true ((Op.buildSlice vn 3 [(.str [])] [(0,1),(1,1),(2,1)]) [(.str [32,61,61,32]),(.str [32,33,61,32]),(.str [32,60,32])]) fun g o1 k1=>W M c (qku 4) g Q ((5,(k1 H.next))::(4,(.str []))::E) D (H.alloc o1)) /\
 (∀ Q E D H,W M c (qku 4) true Q E D H =
  Lz E 0 fun g t0=>Ly g E 1 fun g t1=>B3 g ((Op.indexSl 3) [t0,t1]) fun g t10=>Fl g 2 t10 H fun g t12=>Xl g t12 (.int .i64 0) H fun g t14=>Ly g E 5 fun g t5=>B3 g ((Op.indexSl 3) [t0,t1]) fun g t19=>B3 g ((Op.fieldAddr 0) [t19]) fun g t20=>B3 g (Op.load1 [t20] H) fun g t21=>Bn g .sub t21 (.int .i64 11) fun g t22=>B3 g ((Op.indexSl 1) [t5,t22]) fun g t23=>B3 g (Op.load1 [t23] H) fun g t24=>B3 g ((Op.indexSl 3) [t0,t1]) fun g t29=>B3 g ((Op.fieldAddr 2) [t29]) fun g t30=>B3 g (Op.load1 [t30] H) fun g t31=>B3 g ((Op.indexSl 1) [t31,(.int .i64 1)]) fun g t32=>B3 g (Op.load1 [t32] H) fun g t33=>C3 M g (.func qam) [t0,t14,(.int .i64 0)] H fun g t15 H1=>CK3 g (Op.load1 [t20] H1) (some t21) fun g=>CK3 g (Op.load1 [t23] H1) (some t24) fun g=>CK3 g (Op.load1 [t30] H1) (some t31) fun g=>CK3 g (Op.load1 [t32] H1) (some t33) fun g=>Bn g .add t15 t24 fun g t25=>C3 M g (.func qam) [t0,t33,(.int .i64 0)] H1 fun g t34 H2=>CK3 g (Op.load1 [t20] H2) (some t21) fun g=>CK3 g (Op.load1 [t23] H2) (some t24) fun g=>Bn g .add t25 t34 fun g t35=>GO3 g Q .ret ((4,t35)::E) D H2):=by (repeat' apply And.intro)<;>(intro _ _ _ _;refine W_unf ?_;kernel_rfl)
theorem q2e:(cProg Tryd.prog).func qe2=some qns/\qns.results=[.tmp 4]:=x9 (by kernel_rfl)
theorem q2f (h:W M ⟨none,qe2⟩ (qku 0) true (FIN3 M [.tmp 4] Q) [(0,a0),(1,a1)] [] H):kx M qe2 [a0,a1] H Q:=callf (by decide) q2e (ks:=qth) (by kernel_rfl) h
def qkz:AFunc:=funcAt Tryd.prog qdl
def qo8:Kp:=⟨[0,2,3],false,[0,4,7,13,18,25]⟩
def y8 (k:Nat):Kp × ACode:=(qo8,part qkz.body k)
theorem qw9 (M:Mac) (c:Ctx):(∀ Q E D H,W M c (y8 0) true Q E D H =
 W M c (y8 4) true Q ((3,(.str []))::(2,(.str []))::E) D H) /\
 (∀ Q E D H,W M c (y8 4) true Q E D H =
  LOOP3 (W M c (y8 7)) (BLK3 0 (SEQ3 (W M c (y8 25)) Q)) E D H) /\
 (∀ Q E D H,W M c (y8 25) true Q E D H =
  Lz E 0 fun g t0=>Bn g .add (.int .u64 48) t0 fun g t24=>B3 g ((Op.wrap .u8) [t24]) fun g t25=>B32 g ((Op.buildSlice qb7 1 [(.int .u8 0)] [(0,1)]) [t25]) fun g o1 k1=>B3 g (Op.strOfBytes [(k1 H.next)] (H.alloc o1)) fun g t27=>Ly g E 3 fun g t3=>Bn g .add t27 t3 fun g t29=>GO3 g Q .ret ((2,t29)::E) D (H.alloc o1)) /\
 (∀ Q E D H,W M c (y8 7) true Q E D H =
  Lz E 0 fun g t0=>Bn g .gtr t0 (.int .u64 9) fun g t5=>JN (fun (k:Bool->AV->AV->AHeap->Prop)=>B3 g (wantV false (some t5)) fun g w=>IG3 g w (fun g=>Ly g E 3 fun g t3=>Bn g .eql t3 (.str []) fun g t8=>k g t8 t3 H) (fun g=>k g uu uu H)) (fun g t8_1 t7_1 H1=>B3 g (Op.pick [t5,(.bool true),t8_1]) fun g t9=>IF3 g t9 (fun g=>Gt g M c (y8 13) Q E D H1) (fun g=>GO3 g (SEQ3 (W M c (y8 13)) Q) (.exit 0) E D H1))) /\
 (∀ Q E D H,W M c (y8 13) true Q E D H =
  Lz E 0 fun g t0=>Bn g .rem t0 (.int .u64 10) fun g t11=>Bn g .add (.int .u64 48) t11 fun g t12=>B3 g ((Op.wrap .u8) [t12]) fun g t13=>B32 g ((Op.buildSlice qb7 1 [(.int .u8 0)] [(0,1)]) [t13]) fun g o1 k1=>B3 g (Op.strOfBytes [(k1 H.next)] (H.alloc o1)) fun g t15=>Ly g E 3 fun g t3=>Bn g .add t15 t3 fun g t17=>Ly g E 0 fun g t0_1=>Bn g .quo t0_1 (.int .u64 10) fun g t19=>W M c (y8 18) g (BLK3 1 Q) ((0,t19)::(3,t17)::E) D (H.alloc o1)) /\
 (∀ Q E D H,W M c (y8 18) true Q E D H =
  Lz E 0 fun g t0=>Cb g .eql t0 (.int .u64 0) (fun g=>Ly g E 3 fun g t3=>GO3 g Q .ret ((2,t3)::E) D H) (fun g=>GO3 g Q .normal E D H)):=by (repeat' apply And.intro)<;>(intro _ _ _ _;refine W_unf ?_;kernel_rfl)
theorem qw7:(cProg Tryd.prog).func qdl=some qkz/\qkz.results=[.tmp 2]:=x9 (by kernel_rfl)
theorem qw8 (h:W M ⟨none,qdl⟩ (y8 0) true (FIN3 M [.tmp 2] Q) [(0,a0)] [] H):kx M qdl [a0] H Q:=callf (by decide) qw7 (ks:=qo8) (by kernel_rfl) h
def qk1:AFunc:=funcAt Tryd.prog qej
def qpb:Kp:=⟨[0,2,3,4,5],false,[0,4,6,12]⟩
def qbo (k:Nat):Kp × ACode:=(qpb,part qk1.body k)
theorem qh1 (M:Mac) (c:Ctx):(∀ Q E D H,W M c (qbo 0) true Q E D H =
 B32 true ((Op.buildSlice vn 7 [(.str [])] [(0,1),(1,1),(2,1),(3,1),(4,1),(5,1),(6,1)]) [(.str [43]),(.str [45]),(.str [42]),(.str [38]),(.str [94]),(.str [60,60]),(.str [62,62])]) fun g o1 k1=>W M c (qbo 4) g Q ((4,(k1 H.next))::(3,(.int .i64 0))::(2,(.str []))::E) D (H.alloc o1)) /\
 (∀ Q E D H,W M c (qbo 4) true Q E D H =
  W M c (qbo 6) true Q ((5,(.int .i64 2))::E) D H) /\
 (∀ Q E D H,W M c (qbo 6) true Q E D H =
  Lz E 0 fun g t0=>Bn g .eql t0 (.int .i64 4) fun g t8=>JN (fun (k:Bool->AV->AV->AHeap->Prop)=>B3 g (wantV false (some t8)) fun g w=>IG3 g w (fun g=>Bn g .eql t0 (.int .i64 5) fun g t11=>k g t11 t0 H) (fun g=>k g uu uu H)) (fun g t11_1 t10_1 H1=>B3 g (Op.pick [t8,(.bool true),t11_1]) fun g t12=>JN (fun (k:Bool->AV->AV->AHeap->Prop)=>B3 g (wantV false (some t12)) fun g w=>IG3 g w (fun g=>Bn g .eql t0 (.int .i64 8) fun g t15=>k g t15 t0 H1) (fun g=>k g uu uu H1)) (fun g t15_1 t14_1 H2=>B3 g (Op.pick [t12,(.bool true),t15_1]) fun g t16=>IF3 g t16 (fun g=>Gt g M c (qbo 12) Q ((5,(.int .i64 1))::E) D H2) (fun g=>Gt g M c (qbo 12) Q E D H2)))) /\
 (∀ Q E D H,W M c (qbo 12) true Q E D H =
  Lz E 4 fun g t4=>Ly g E 0 fun g t0=>Bn g .sub t0 (.int .i64 4) fun g t19=>Xl g t4 t19 H fun g t21=>Ly g E 5 fun g t5=>GO3 g Q .ret ((3,t5)::(2,t21)::E) D H):=by (repeat' apply And.intro)<;>(intro _ _ _ _;refine W_unf ?_;kernel_rfl)
theorem qxd:(cProg Tryd.prog).func qej=some qk1/\qk1.results=[.tmp 2,.tmp 3]:=x9 (by kernel_rfl)
theorem qxe (h:W M ⟨none,qej⟩ (qbo 0) true (FIN3 M [.tmp 2,.tmp 3] Q) [(0,a0)] [] H):kx M qej [a0] H Q:=callf (by decide) qxd (ks:=qpb) (by kernel_rfl) h
end
end Go.Am
namespace Go.Am
abbrev qbe:Nat:=26
abbrev qcl:Nat:=53
abbrev qe1:Nat:=27
abbrev qbk:Nat:=55
abbrev qgi:Nat:=50
abbrev qb5:Nat:=87
abbrev vf:Nat:=119
abbrev j7:Nat:=54
abbrev qdk:Nat:=84
abbrev qd4:Nat:=86
abbrev qei:Nat:=52
abbrev jk:Nat:=56
abbrev qbr:Nat:=85
abbrev vv:Nat:=51
abbrev T__21:Nat:=39
abbrev vy:Nat:=42
abbrev ye:Nat:=103
abbrev kg:Nat:=129
abbrev kq:Nat:=100
abbrev jp:Nat:=38
noncomputable section
open Go.Proofs Go.Proofs.YtbimikjajohflaaDoor
variable {M:Mac} [MK M] {H:AHeap} {Q:AEnd->AHeap->Prop} {a0 a1 a2 a3 a4:AV}
def qnm:AFunc:=funcAt Tryd.prog qe1
def qtf:Kp:=⟨[0,1,2,3,5,7,8,9,10,11,12],false,[0,2,10,14,24]⟩
def qa0 (k:Nat):Kp × ACode:=(qtf,part qnm.body k)
theorem q1h (M:Mac) (c:Ctx):(∀ Q E D H,W M c (qa0 0) true Q E D H =
 Lz E 1 fun g t1=>A3 g T_int (AV.cells t1) H fun g t5 H1=>Ly g E 3 fun g t3=>A3 g T__21 (AV.cells t3) H1 fun g t7 H2=>W M c (qa0 2) g Q ((9,(.int .i64 0))::(8,(.int .u64 0))::(7,t7)::(5,t5)::E) D H2) /\
 (∀ Q E D H,W M c (qa0 2) true Q E D H =
  Lz E 0 fun g t0=>Ly g E 2 fun g t2=>C3 M g (.func qgi) [t0,t2,(.int .i64 0)] H fun g t15 H1=>B3 g ((Op.un .not) [t15]) fun g t16=>JN (fun (k:Bool->AV->AV->AHeap->Prop)=>B3 g (wantV false (some t16)) fun g w=>IG3 g w (fun g=>Ly g E 5 fun g t5=>B3 g (Op.load1 [t5] H1) fun g t18=>Bn g .lss t18 (.int .i64 0) fun g t19=>k g t19 t18 H1) (fun g=>k g uu uu H1)) (fun g t19_1 t18_1 H2=>B3 g (Op.pick [t16,(.bool true),t19_1]) fun g t20=>JN (fun (k:Bool->AV->AV->AV->AV->AHeap->Prop)=>B3 g (wantV false (some t20)) fun g w=>IG3 g w (fun g=>Ly g E 5 fun g t5_1=>B3 g (Op.load1 [t5_1] H2) fun g t22=>B3 g (Op.lenSl [t0]) fun g t24=>Bn g .geq t22 t24 fun g t25=>k g t25 t24 t0 t22 H2) (fun g=>k g uu uu uu uu H2)) (fun g t25_1 t24_1 t23_1 t22_1 H3=>B3 g (Op.pick [t20,(.bool true),t25_1]) fun g t26=>JN (fun (k:Bool->AV->AV->AV->AV->AV->AV->AHeap->Prop)=>B3 g (wantV false (some t26)) fun g w=>IG3 g w (fun g=>Ly g E 5 fun g t5_2=>B3 g (Op.load1 [t5_2] H3) fun g t29=>B3 g ((Op.indexSl 3) [t0,t29]) fun g t30=>B3 g ((Op.fieldAddr 0) [t30]) fun g t31=>B3 g (Op.load1 [t31] H3) fun g t32=>Bn g .gtr t32 (.int .i64 10) fun g t33=>k g t33 t32 t31 t30 t29 t0 H3) (fun g=>k g uu uu uu uu uu uu H3)) (fun g t33_1 t32_1 t31_1 t30_1 t29_1 t28_1 H4=>B3 g (Op.pick [t26,(.bool true),t33_1]) fun g t34=>IF3 g t34 (fun g=>GO3 g (SEQ3 (W M c (qa0 10)) Q) .ret ((9,(.int .i64 2))::(8,(.int .u64 0))::E) D H4) (fun g=>Gt g M c (qa0 10) Q E D H4))))) /\
 (∀ Q E D H,W M c (qa0 10) true Q E D H =
  Lz E 0 fun g t0=>Ly g E 2 fun g t2=>Ly g E 7 fun g t7=>B3 g ((Op.loadN 8) [t7] H) fun g t37=>B3 g ((Op.build [.nils,(.int .u64 0),(.int .u64 0),(.int .u64 0),(.int .u64 0),(.int .u64 0),(.int .u64 0),(.int .u64 0),(.int .u64 0),(.int .i64 0),(.int .i64 0),(.int .i64 0),(.int .i64 0)] [(0,1),(1,8)]) [t2,t37]) fun g t38=>B3 g ((Op.build [.nils,.nils,(.int .u64 0),(.int .u64 0),(.int .u64 0),(.int .u64 0),(.int .u64 0),(.int .u64 0),(.int .u64 0),(.int .u64 0),(.int .i64 0),(.int .i64 0),(.int .i64 0),(.int .i64 0),(.bool false),(.bool false)] [(0,1),(1,13)]) [t0,t38]) fun g t39=>A3 g ye (AV.cells t39) H fun g t40 H1=>A3 g kq [.nilp] H1 fun g t10 H2=>B32 g ((Op.store 1) [t10,t40] H2) fun g u H3=>A3 g jp [(.int .u64 0)] H3 fun g t11 H4=>B32 g ((Op.store 1) [t11,(.int .u64 0)] H4) fun g u_1 H5=>W M c (qa0 14) g Q ((11,t11)::(10,t10)::E) D H5) /\
 (∀ Q E D H,W M c (qa0 14) true Q E D H =
  Lz E 10 fun g t10=>B3 g (Op.load1 [t10] H) fun g t41=>Ly g E 5 fun g t5=>Ly g E 11 fun g t11=>B3 g ((Op.mkFunc qbk 0) [t10,t5,t11]) fun g t42=>C3 M g (.func qei) [t41,t42] H fun g t43 H1=>Cb g .neq t43 (.int .i64 0) (fun g=>GO3 g (SEQ3 (W M c (qa0 24)) Q) .ret ((9,t43)::(8,(.int .u64 0))::(12,t43)::E) D H1) (fun g=>Gt g M c (qa0 24) Q ((12,t43)::E) D H1)) /\
 (∀ Q E D H,W M c (qa0 24) true Q E D H =
  Lz E 11 fun g t11=>B3 g (Op.load1 [t11] H) fun g t47=>GO3 g Q .ret ((9,(.int .i64 0))::(8,t47)::E) D H):=by (repeat' apply And.intro)<;>(intro _ _ _ _;refine W_unf ?_;kernel_rfl)
theorem q1f:(cProg Tryd.prog).func qe1=some qnm/\qnm.results=[.tmp 8,.tmp 9]:=x9 (by kernel_rfl)
theorem q1g (h:W M ⟨none,qe1⟩ (qa0 0) true (FIN3 M [.tmp 8,.tmp 9] Q) [(0,a0),(1,a1),(2,a2),(3,a3)] [] H):kx M qe1 [a0,a1,a2,a3] H Q:=callf (by decide) q1f (ks:=qtf) (by kernel_rfl) h
def qps:AFunc:=funcAt Tryd.prog qbe
def qvq:Kp:=⟨[0,1,2,3,4,6,8,10,11,12,13],false,[0,2,10]⟩
def qe6 (k:Nat):Kp × ACode:=(qvq,part qps.body k)
theorem qpt (M:Mac) (c:Ctx):(∀ Q E D H,W M c (qe6 0) true Q E D H =
 Lz E 1 fun g t1=>A3 g T_int (AV.cells t1) H fun g t6 H1=>Ly g E 3 fun g t3=>A3 g T__21 (AV.cells t3) H1 fun g t8 H2=>A3 g vy [.nils,(.int .u64 0),(.int .u64 0),(.int .u64 0),(.int .u64 0),(.int .u64 0),(.int .u64 0),(.int .u64 0),(.int .u64 0),(.int .i64 0),(.int .i64 0),(.int .i64 0),(.int .i64 0)] H2 fun g t10 H3=>W M c (qe6 2) g Q ((11,(.int .i64 0))::(10,t10)::(8,t8)::(6,t6)::E) D H3) /\
 (∀ Q E D H,W M c (qe6 2) true Q E D H =
  Lz E 0 fun g t0=>Ly g E 2 fun g t2=>Ly g E 4 fun g t4=>C3 M g (.func qgi) [t0,t2,t4] H fun g t16 H1=>B3 g ((Op.un .not) [t16]) fun g t17=>JN (fun (k:Bool->AV->AV->AHeap->Prop)=>B3 g (wantV false (some t17)) fun g w=>IG3 g w (fun g=>Ly g E 6 fun g t6=>B3 g (Op.load1 [t6] H1) fun g t19=>Bn g .lss t19 (.int .i64 0) fun g t20=>k g t20 t19 H1) (fun g=>k g uu uu H1)) (fun g t20_1 t19_1 H2=>B3 g (Op.pick [t17,(.bool true),t20_1]) fun g t21=>JN (fun (k:Bool->AV->AV->AV->AV->AHeap->Prop)=>B3 g (wantV false (some t21)) fun g w=>IG3 g w (fun g=>Ly g E 6 fun g t6_1=>B3 g (Op.load1 [t6_1] H2) fun g t23=>B3 g (Op.lenSl [t0]) fun g t25=>Bn g .geq t23 t25 fun g t26=>k g t26 t25 t0 t23 H2) (fun g=>k g uu uu uu uu H2)) (fun g t26_1 t25_1 t24_1 t23_1 H3=>B3 g (Op.pick [t21,(.bool true),t26_1]) fun g t27=>JN (fun (k:Bool->AV->AV->AV->AV->AV->AV->AHeap->Prop)=>B3 g (wantV false (some t27)) fun g w=>IG3 g w (fun g=>Ly g E 6 fun g t6_2=>B3 g (Op.load1 [t6_2] H3) fun g t30=>B3 g ((Op.indexSl 3) [t0,t30]) fun g t31=>B3 g ((Op.fieldAddr 0) [t31]) fun g t32=>B3 g (Op.load1 [t32] H3) fun g t33=>Bn g .lss t33 (.int .i64 14) fun g t34=>k g t34 t33 t32 t31 t30 t0 H3) (fun g=>k g uu uu uu uu uu uu H3)) (fun g t34_1 t33_1 t32_1 t31_1 t30_1 t29_1 H4=>B3 g (Op.pick [t27,(.bool true),t34_1]) fun g t35=>IF3 g t35 (fun g=>B3 g ((Op.build [.nils,(.int .u64 0),(.int .u64 0),(.int .u64 0),(.int .u64 0),(.int .u64 0),(.int .u64 0),(.int .u64 0),(.int .u64 0),(.int .i64 0),(.int .i64 0),(.int .i64 0),(.int .i64 0)] []) []) fun g t36=>Ly g E 10 fun g t10=>B32 g ((Op.store 13) [t10,t36] H4) fun g u H5=>GO3 g (SEQ3 (W M c (qe6 10)) Q) .ret ((11,(.int .i64 2))::(13,t0)::E) D H5) (fun g=>Gt g M c (qe6 10) Q ((13,t0)::E) D H4))))) /\
 (∀ Q E D H,W M c (qe6 10) true Q E D H =
  Lz E 0 fun g t0=>Ly g E 2 fun g t2=>Ly g E 8 fun g t8=>B3 g ((Op.loadN 8) [t8] H) fun g t40=>Ly g E 4 fun g t4=>C3 M g (.func vv) [t2] H fun g t39 H1=>CK3 g ((Op.loadN 8) [t8] H1) (some t40) fun g=>B3 g ((Op.build [.nils,(.int .u64 0),(.int .u64 0),(.int .u64 0),(.int .u64 0),(.int .u64 0),(.int .u64 0),(.int .u64 0),(.int .u64 0),(.int .i64 0),(.int .i64 0),(.int .i64 0),(.int .i64 0)] [(0,1),(1,8),(10,1)]) [t39,t40,t4]) fun g t42=>B3 g ((Op.build [.nils,.nils,(.int .u64 0),(.int .u64 0),(.int .u64 0),(.int .u64 0),(.int .u64 0),(.int .u64 0),(.int .u64 0),(.int .u64 0),(.int .i64 0),(.int .i64 0),(.int .i64 0),(.int .i64 0),(.bool false),(.bool false)] [(0,1),(1,13)]) [t0,t42]) fun g t43=>A3 g ye (AV.cells t43) H1 fun g t44 H2=>A3 g kq [.nilp] H2 fun g t12 H3=>B32 g ((Op.store 1) [t12,t44] H3) fun g u H4=>B3 g (Op.load1 [t12] H4) fun g t45=>B3 g (Op.load1 [t12] H4) fun g t46=>Ly g E 6 fun g t6=>B3 g ((Op.mkFunc qcl 0) [t12,t6]) fun g t47=>C3 M g (.func qei) [t46,t47] H4 fun g t48 H5=>CK3 g (Op.load1 [t12] H5) (some t45) fun g=>B3 g (Op.nilCheck [t45]) fun g t49=>B3 g ((Op.fieldAddr 1) [t49]) fun g t50=>Fs g 12 t50 t48 H5 fun g u_1 H6=>B3 g (Op.load1 [t12] H6) fun g t52=>B3 g (Op.nilCheck [t52]) fun g t53=>B3 g ((Op.fieldAddr 1) [t53]) fun g t54=>B3 g ((Op.loadN 13) [t54] H6) fun g t55=>Ly g E 10 fun g t10=>B32 g ((Op.store 13) [t10,t55] H6) fun g u_2 H7=>GO3 g Q .ret ((11,(.int .i64 0))::(12,t12)::E) D H7):=by (repeat' apply And.intro)<;>(intro _ _ _ _;refine W_unf ?_;kernel_rfl)
theorem q3m:(cProg Tryd.prog).func qbe=some qps/\qps.results=[.cellN 13 10,.tmp 11]:=x9 (by kernel_rfl)
theorem q3n (h:W M ⟨none,qbe⟩ (qe6 0) true (FIN3 M [.cellN 13 10,.tmp 11] Q) [(0,a0),(1,a1),(2,a2),(3,a3),(4,a4)] [] H):kx M qbe [a0,a1,a2,a3,a4] H Q:=callf (by decide) q3m (ks:=qvq) (by kernel_rfl) h
def qsf:AFunc:=funcAt Tryd.prog qgi
def qxy:Kp:=⟨[0,1,2,6,8],false,[0,2,10]⟩
def qhu (k:Nat):Kp × ACode:=(qxy,part qsf.body k)
theorem q7d (M:Mac) (c:Ctx):(∀ Q E D H,W M c (qhu 0) true Q E D H =
 W M c (qhu 2) true Q ((6,(.bool false))::E) D H) /\
 (∀ Q E D H,W M c (qhu 2) true Q E D H =
  Lz E 1 fun g t1=>B3 g (Op.lenSl [t1]) fun g t10=>Bn g .gtr t10 (.int .i64 4096) fun g t11=>JN (fun (k:Bool->AV->AV->AHeap->Prop)=>B3 g (wantV false (some t11)) fun g w=>IG3 g w (fun g=>Ly g E 2 fun g t2=>Bn g .lss t2 (.int .i64 0) fun g t14=>k g t14 t2 H) (fun g=>k g uu uu H)) (fun g t14_1 t13_1 H1=>B3 g (Op.pick [t11,(.bool true),t14_1]) fun g t15=>JN (fun (k:Bool->AV->AV->AHeap->Prop)=>B3 g (wantV false (some t15)) fun g w=>IG3 g w (fun g=>Ly g E 2 fun g t2_1=>Bn g .gtr t2_1 (.int .i64 1048576) fun g t18=>k g t18 t2_1 H1) (fun g=>k g uu uu H1)) (fun g t18_1 t17_1 H2=>B3 g (Op.pick [t15,(.bool true),t18_1]) fun g t19=>IF3 g t19 (fun g=>GO3 g (SEQ3 (W M c (qhu 10)) Q) .ret ((6,(.bool false))::E) D H2) (fun g=>Gt g M c (qhu 10) Q E D H2)))) /\
 (∀ Q E D H,W M c (qhu 10) true Q E D H =
  Lz E 0 fun g t0=>C3 M g (.func qcp) [t0] H fun g t22 H1=>B3 g ((Op.extract 0) [t22]) fun g t23=>B3 g ((Op.extract 1) [t22]) fun g t24=>Bn g .eql t24 (.int .i64 0) fun g t26=>GO3 g Q .ret ((6,t26)::(8,t24)::E) D H1):=by (repeat' apply And.intro)<;>(intro _ _ _ _;refine W_unf ?_;kernel_rfl)
theorem q7b:(cProg Tryd.prog).func qgi=some qsf/\qsf.results=[.tmp 6]:=x9 (by kernel_rfl)
theorem q7c (h:W M ⟨none,qgi⟩ (qhu 0) true (FIN3 M [.tmp 6] Q) [(0,a0),(1,a1),(2,a2)] [] H):kx M qgi [a0,a1,a2] H Q:=callf (by decide) q7b (ks:=qxy) (by kernel_rfl) h
def qkx:AFunc:=funcAt Tryd.prog qbk
def qo2:Kp:=⟨[0,1,2],true,[0]⟩
def qo3 (k:Nat):Kp × ACode:=(qo2,part qkx.body k)
theorem qw0 (M:Mac) (c:Ctx):(∀ Q E D H,W M c (qo3 0) true Q E D H =
 Lz E 0 fun g t0=>B3 g (Op.load1 [t0] H) fun g t3=>Ly g E 1 fun g t1=>B3 g (Op.load1 [t1] H) fun g t4=>P3 M g (PX (some []) [4,3] Q E D) (.func jk) [t3,t4] H fun g t5 H1=>Ly g E 2 fun g t2=>B32 g ((Op.store 1) [t2,t5] H1) fun g u H2=>GO3 g Q .normal E D H2):=by intro _ _ _ _;refine W_unf ?_;kernel_rfl
theorem qwy:(cProg Tryd.prog).func qbk=some qkx/\qkx.results=[]:=x9 (by kernel_rfl)
theorem qwz (h:W M ⟨none,qbk⟩ (qo3 0) true (FIN3 M [] Q) [(0,a0),(1,a1),(2,a2)] [] H):kx M qbk [a0,a1,a2] H Q:=callf (by decide) qwy (ks:=qo2) (by kernel_rfl) h
def qe8:AFunc:=funcAt Tryd.prog vv
def qh9:Kp:=⟨[0,2],false,[0,2,10]⟩
def vz (k:Nat):Kp × ACode:=(qh9,part qe8.body k)
theorem qe9 (M:Mac) (c:Ctx):(∀ Q E D H,W M c (vz 0) true Q E D H =
 W M c (vz 2) true Q ((2,.nils)::E) D H) /\
 (∀ Q E D H,W M c (vz 2) true Q E D H =
  Lz E 0 fun g t0=>B3 g ((Op.eq .slice false) [t0,.nils] H) fun g t4=>IF3 g t4 (fun g=>GO3 g (SEQ3 (W M c (vz 10)) Q) .ret ((2,.nils)::E) D H) (fun g=>Gt g M c (vz 10) Q E D H)) /\
 (∀ Q E D H,W M c (vz 10) true Q E D H =
  B32 true ((Op.buildSlice jp 0 [(.int .u64 0)] []) []) fun g o1 k1=>Ly g E 0 fun g t0=>B32 g ((Op.append jp 1 8) [(k1 H.next),t0] (H.alloc o1)) fun g t7 H2=>GO3 g Q .ret ((2,t7)::E) D H2):=by (repeat' apply And.intro)<;>(intro _ _ _ _;refine W_unf ?_;kernel_rfl)
theorem qny:(cProg Tryd.prog).func vv=some qe8/\qe8.results=[.tmp 2]:=x9 (by kernel_rfl)
theorem qnz (h:W M ⟨none,vv⟩ (vz 0) true (FIN3 M [.tmp 2] Q) [(0,a0)] [] H):kx M vv [a0] H Q:=callf (by decide) qny (ks:=qh9) (by kernel_rfl) h
def ql8:AFunc:=funcAt Tryd.prog qcl
def qqt:Kp:=⟨[0,1],true,[0]⟩
def qqu (k:Nat):Kp × ACode:=(qqt,part ql8.body k)
theorem qy9 (M:Mac) (c:Ctx):(∀ Q E D H,W M c (qqu 0) true Q E D H =
 Lz E 0 fun g t0=>B3 g (Op.load1 [t0] H) fun g t2=>Ly g E 1 fun g t1=>B3 g (Op.load1 [t1] H) fun g t3=>P3 M g (PX (some []) [3,2] Q E D) (.func j7) [t2,t3] H fun g t4 H1=>GO3 g Q .normal E D H1):=by intro _ _ _ _;refine W_unf ?_;kernel_rfl
theorem qy7:(cProg Tryd.prog).func qcl=some ql8/\ql8.results=[]:=x9 (by kernel_rfl)
theorem qy8 (h:W M ⟨none,qcl⟩ (qqu 0) true (FIN3 M [] Q) [(0,a0),(1,a1)] [] H):kx M qcl [a0,a1] H Q:=callf (by decide) qy7 (ks:=qqt) (by kernel_rfl) h
def qij:AFunc:=funcAt Tryd.prog jk
def qmv:Kp:=⟨[0,1,4,5,6,7,16,61],true,[0,4,20,27,29,46,52,58,64,70,76,81,82,83,87,88,92,93,97,98,102,103,107,108]⟩
def qm (k:Nat):Kp × ACode:=(qmv,part qij.body k)
theorem jc (M:Mac) (c:Ctx):(∀ Q E D H,W M c (qm 0) true Q E D H =
 Lz E 0 fun g t0=>Nf g 0 t0 H fun g t11=>Ly g E 1 fun g t1=>B3 g ((Op.indexSl 3) [t11,t1]) fun g t13=>B3 g ((Op.loadN 3) [t13] H) fun g t14=>A3 g qj [(.int .i64 0),(.int .u64 0),.nils] H fun g t5 H1=>B32 g ((Op.store 3) [t5,t14] H1) fun g u H2=>W M c (qm 4) g Q ((5,t5)::(4,(.int .u64 0))::E) D H2) /\
 (∀ Q E D H,W M c (qm 4) true Q E D H =
  Lz E 5 fun g t5=>Fl g 0 t5 H fun g t16=>Cb g .eql t16 (.int .i64 1) (fun g=>Ly g E 5 fun g t5_1=>Fl g 1 t5_1 H fun g t20=>GO3 g (BLK3 0 (SEQ3 (W M c (qm 27)) Q)) .ret ((4,t20)::(16,t16)::E) D H) (fun g=>Cb g .eql t16 (.int .i64 2) (fun g=>Ly g E 0 fun g t0=>Ly g E 5 fun g t5_1=>Fl g 1 t5_1 H fun g t25=>B3 g (Op.nilCheck [t0]) fun g t26=>B3 g ((Op.fieldAddr 1) [t26]) fun g t27=>B3 g ((Op.fieldAddr 1) [t27]) fun g t28=>B3 g ((Op.indexArr 8 1) [t28,t25]) fun g t29=>B3 g (Op.load1 [t29] H) fun g t30=>GO3 g (BLK3 0 (SEQ3 (W M c (qm 27)) Q)) .ret ((4,t30)::(16,t16)::E) D H) (fun g=>W M c (qm 20) g (BLK3 0 (SEQ3 (W M c (qm 27)) Q)) ((16,t16)::E) D H))) /\
 (∀ Q E D H,W M c (qm 27) true Q E D H =
  Lz E 0 fun g t0=>Ly g E 5 fun g t5=>Fl g 2 t5 H fun g t50=>Xl g t50 (.int .i64 0) H fun g t52=>B3 g ((Op.fieldAddr 2) [t5]) fun g t55=>B3 g (Op.load1 [t55] H) fun g t56=>B3 g ((Op.indexSl 1) [t56,(.int .i64 1)]) fun g t57=>B3 g (Op.load1 [t57] H) fun g t58=>P3 M g (PX (some [48,49,50,51,52,53,54,55,56,57,58,59,6,7]) [58,57,56,55,54,52,51,50,49,48] Q E D) (.func jk) [t0,t52] H fun g t53 H1=>CK3 g (Op.load1 [t55] H1) (some t56) fun g=>CK3 g (Op.load1 [t57] H1) (some t58) fun g=>P3 M g (PX (some [48,49,50,51,52,53,54,55,56,57,58,59,6,7]) [53,58,57,56,55,54,52,51,50,49,48] Q E D) (.func jk) [t0,t58] H1 fun g t59 H2=>W M c (qm 29) g Q ((7,t59)::(6,t53)::E) D H2) /\
 (∀ Q E D H,W M c (qm 20) true Q E D H =
  Lz E 16 fun g t16=>Cb g .eql t16 (.int .i64 3) (fun g=>Ly g E 0 fun g t0=>B3 g (Op.nilCheck [t0]) fun g t34=>B3 g ((Op.fieldAddr 1) [t34]) fun g t35=>B3 g ((Op.fieldAddr 0) [t35]) fun g t36=>B3 g (Op.load1 [t36] H) fun g t37=>Ly g E 5 fun g t5=>Fl g 2 t5 H fun g t41=>Xl g t41 (.int .i64 0) H fun g t43=>P3 M g (PX (some [33,34,35,36,37,38,39,40,41,42,43,44,45,46,47,4]) [43,42,41,40,39,38,37,36,35,34,33] Q E D) (.func jk) [t0,t43] H fun g t44 H1=>CK3 g (Op.load1 [t36] H1) (some t37) fun g=>P3 M g (PX (some [33,34,35,36,37,38,39,40,41,42,43,44,45,46,47,4]) [44,43,42,41,40,39,38,37,36,35,34,33] Q E D) (.func qbr) [t0,t44] H1 fun g t45 H2=>CK3 g (Op.load1 [t36] H2) (some t37) fun g=>Xl g t37 t45 H2 fun g t47=>GO3 g Q .ret ((4,t47)::E) D H2) (fun g=>GO3 g Q .normal E D H)) /\
 (∀ Q E D H,W M c (qm 29) true Q E D H =
  Lz E 5 fun g t5=>Fl g 0 t5 H fun g t61=>W M c (qm 46) g (SEQ3 (W M c (qm 81)) (BLK3 2 (SEQ3 (W M c (qm 82)) (BLK3 3 (SEQ3 (W M c (qm 83)) (BLK3 4 (SEQ3 (W M c (qm 88)) (BLK3 5 (SEQ3 (W M c (qm 93)) (BLK3 6 (SEQ3 (W M c (qm 98)) (BLK3 7 (SEQ3 (W M c (qm 103)) (BLK3 1 (SEQ3 (W M c (qm 108)) Q))))))))))))))) ((61,t61)::E) D H) /\
 (∀ Q E D H,W M c (qm 108) true Q E D H =
  Lz E 6 fun g t6=>Ly g E 7 fun g t7=>Bn g .rem t7 (.int .u64 64) fun g t94=>Bn g .shr t6 t94 fun g t95=>GO3 g Q .ret ((4,t95)::E) D H) /\
 (∀ Q E D H,W M c (qm 103) true Q E D H =
  Lz E 6 fun g t6=>Ly g E 7 fun g t7=>Bn g .rem t7 (.int .u64 64) fun g t90=>Bn g .shl t6 t90 fun g t91=>GO3 g (SEQ3 (W M c (qm 107)) Q) .ret ((4,t91)::E) D H) /\
 (∀ Q E D H,W M c (qm 98) true Q E D H =
  Lz E 6 fun g t6=>Ly g E 7 fun g t7=>Bn g .xor t6 t7 fun g t87=>GO3 g (SEQ3 (W M c (qm 102)) Q) .ret ((4,t87)::E) D H) /\
 (∀ Q E D H,W M c (qm 93) true Q E D H =
  Lz E 6 fun g t6=>Ly g E 7 fun g t7=>Bn g .and t6 t7 fun g t84=>GO3 g (SEQ3 (W M c (qm 97)) Q) .ret ((4,t84)::E) D H) /\
 (∀ Q E D H,W M c (qm 88) true Q E D H =
  Lz E 6 fun g t6=>Ly g E 7 fun g t7=>Bn g .mul t6 t7 fun g t81=>GO3 g (SEQ3 (W M c (qm 92)) Q) .ret ((4,t81)::E) D H) /\
 (∀ Q E D H,W M c (qm 83) true Q E D H =
  Lz E 6 fun g t6=>Ly g E 7 fun g t7=>Bn g .add t6 t7 fun g t78=>GO3 g (SEQ3 (W M c (qm 87)) Q) .ret ((4,t78)::E) D H) /\
 (∀ Q E D H,W M c (qm 82) true Q E D H =
  Lz E 7 fun g t7=>B3 g ((Op.un .neg) [t7]) fun g t75=>GO3 g Q .normal ((7,t75)::E) D H) /\
 (∀ Q E D H,W M c (qm 81) true Q E D H =
  GO3 true Q (.exit 1) E D H) /\
 (∀ Q E D H,W M c (qm 46) true Q E D H =
  Lz E 61 fun g t61=>Cb g .eql t61 (.int .i64 5) (fun g=>GO3 g (SEQ3 (W M c (qm 52)) Q) (.exit 2) E D H) (fun g=>Gt g M c (qm 52) Q E D H)) /\
 (∀ Q E D H,W M c (qm 107) true Q E D H =
  GO3 true Q (.exit 1) E D H) /\
 (∀ Q E D H,W M c (qm 102) true Q E D H =
  GO3 true Q (.exit 1) E D H) /\
 (∀ Q E D H,W M c (qm 97) true Q E D H =
  GO3 true Q (.exit 1) E D H) /\
 (∀ Q E D H,W M c (qm 92) true Q E D H =
  GO3 true Q (.exit 1) E D H) /\
 (∀ Q E D H,W M c (qm 87) true Q E D H =
  GO3 true Q (.exit 1) E D H) /\
 (∀ Q E D H,W M c (qm 52) true Q E D H =
  Lz E 61 fun g t61=>Cb g .eql t61 (.int .i64 4) (fun g=>GO3 g (SEQ3 (W M c (qm 58)) Q) (.exit 3) E D H) (fun g=>Gt g M c (qm 58) Q E D H)) /\
 (∀ Q E D H,W M c (qm 58) true Q E D H =
  Lz E 61 fun g t61=>Cb g .eql t61 (.int .i64 6) (fun g=>GO3 g (SEQ3 (W M c (qm 64)) Q) (.exit 4) E D H) (fun g=>Gt g M c (qm 64) Q E D H)) /\
 (∀ Q E D H,W M c (qm 64) true Q E D H =
  Lz E 61 fun g t61=>Cb g .eql t61 (.int .i64 7) (fun g=>GO3 g (SEQ3 (W M c (qm 70)) Q) (.exit 5) E D H) (fun g=>Gt g M c (qm 70) Q E D H)) /\
 (∀ Q E D H,W M c (qm 70) true Q E D H =
  Lz E 61 fun g t61=>Cb g .eql t61 (.int .i64 8) (fun g=>GO3 g (SEQ3 (W M c (qm 76)) Q) (.exit 6) E D H) (fun g=>Gt g M c (qm 76) Q E D H)) /\
 (∀ Q E D H,W M c (qm 76) true Q E D H =
  Lz E 61 fun g t61=>Cb g .eql t61 (.int .i64 9) (fun g=>GO3 g Q (.exit 7) E D H) (fun g=>GO3 g Q .normal E D H)):=by (repeat' apply And.intro)<;>(intro _ _ _ _;refine W_unf ?_;kernel_rfl)
theorem qtz:(cProg Tryd.prog).func jk=some qij/\qij.results=[.tmp 4]:=x9 (by kernel_rfl)
theorem qf6 (h:W M ⟨none,jk⟩ (qm 0) true (FIN3 M [.tmp 4] Q) [(0,a0),(1,a1)] [] H):kx M jk [a0,a1] H Q:=callf (by decide) qtz (ks:=qmv) (by kernel_rfl) h
def ql9:AFunc:=funcAt Tryd.prog j7
def qqy:Kp:=⟨[0,1,4,6,7,8,27,31,32,33],true,[0,2,8,14,15,17,21,27,31,37,38,43,59,64,69,75,78,84,89,92,98]⟩
def qy (k:Nat):Kp × ACode:=(qqy,part ql9.body k)
theorem za (M:Mac) (c:Ctx):(∀ Q E D H,W M c (qy 0) true Q E D H =
 Lz E 0 fun g t0=>Nf g 0 t0 H fun g t12=>Ly g E 1 fun g t1=>B3 g ((Op.indexSl 3) [t12,t1]) fun g t14=>B3 g ((Op.loadN 3) [t14] H) fun g t15=>A3 g qj [(.int .i64 0),(.int .u64 0),.nils] H fun g t4 H1=>B32 g ((Op.store 3) [t4,t15] H1) fun g u H2=>W M c (qy 2) g Q ((4,t4)::E) D H2) /\
 (∀ Q E D H,W M c (qy 2) true Q E D H =
  Lz E 4 fun g t4=>Fl g 0 t4 H fun g t17=>Bn g .neq t17 (.int .i64 20) fun g t18=>JN (fun (k:Bool->AV->AV->AV->AHeap->Prop)=>B3 g (wantV true (some t18)) fun g w=>IG3 g w (fun g=>B3 g ((Op.fieldAddr 0) [t4]) fun g t20=>B3 g (Op.load1 [t20] H) fun g t21=>Bn g .neq t21 (.int .i64 17) fun g t22=>k g t22 t21 t20 H) (fun g=>k g uu uu uu H)) (fun g t22_1 t21_1 t20_1 H1=>B3 g (Op.pick [t18,t22_1,(.bool false)]) fun g t23=>IF3 g t23 (fun g=>Ly g E 0 fun g t0=>P3 M g (PX (some []) [24] (SEQ3 (W M c (qy 8)) Q) E D) (.func qdk) [t0] H1 fun g t25 H2=>Gt g M c (qy 8) Q E D H2) (fun g=>Gt g M c (qy 8) Q E D H1))) /\
 (∀ Q E D H,W M c (qy 8) true Q E D H =
  Lz E 4 fun g t4=>Fl g 0 t4 H fun g t27=>Cb g .eql t27 (.int .i64 20) (fun g=>W M c (qy 14) g (BLK3 0 Q) ((27,t27)::E) D H) (fun g=>Cb g .eql t27 (.int .i64 14) (fun g=>Ly g E 0 fun g t0=>Ly g E 4 fun g t4_1=>B3 g ((Op.fieldAddr 1) [t4_1]) fun g t48=>B3 g (Op.load1 [t48] H) fun g t49=>Fl g 2 t4_1 H fun g t52=>Xl g t52 (.int .i64 0) H fun g t54=>B3 g (Op.nilCheck [t0]) fun g t56=>B3 g ((Op.fieldAddr 1) [t56]) fun g t57=>B3 g ((Op.fieldAddr 1) [t57]) fun g t58=>P3 M g (PX (some [47,48,49,50,51,52,53,54,55,56,57,58,59]) [58,57,56,54,53,52,51,50,49,48,47] (BLK3 0 Q) ((27,t27)::E) D) (.func jk) [t0,t54] H fun g t55 H1=>CK3 g (Op.load1 [t48] H1) (some t49) fun g=>B3 g ((Op.indexArr 8 1) [t58,t49]) fun g t59=>B32 g ((Op.store 1) [t59,t55] H1) fun g u H2=>GO3 g (BLK3 0 Q) .normal ((27,t27)::E) D H2) (fun g=>W M c (qy 43) g (BLK3 0 Q) ((27,t27)::E) D H))) /\
 (∀ Q E D H,W M c (qy 14) true Q E D H =
  W M c (qy 15) true (SCP3 (qy 15).2 Q) E D H) /\
 (∀ Q E D H,W M c (qy 43) true Q E D H =
  Lz E 27 fun g t27=>Cb g .eql t27 (.int .i64 15) (fun g=>Ly g E 0 fun g t0=>Ly g E 4 fun g t4=>Fl g 2 t4 H fun g t64=>Xl g t64 (.int .i64 0) H fun g t66=>P3 M g (PX (some []) [66,65,64,63,62] Q E D) (.func jk) [t0,t66] H fun g t67 H1=>Ly g E 0 fun g t0_1=>Ly g E 4 fun g t4_1=>Fl g 2 t4_1 H1 fun g t70=>Xl g t70 (.int .i64 1) H1 fun g t72=>P3 M g (PX (some []) [72,71,70,69,68] Q ((7,t67)::E) D) (.func jk) [t0_1,t72] H1 fun g t73 H2=>Ly g E 0 fun g t0_2=>B3 g (Op.nilCheck [t0_2]) fun g t75=>B3 g ((Op.fieldAddr 1) [t75]) fun g t76=>B3 g ((Op.fieldAddr 0) [t76]) fun g t77=>B3 g (Op.load1 [t77] H2) fun g t78=>P3 M g (PX (some [74,75,76,77,78,79,80,81,82,83]) [82,80,79,78,77,76,75,74] Q ((8,t73)::(7,t67)::E) D) (.func qbr) [t0_2,t67] H2 fun g t81 H3=>CK3 g (Op.load1 [t77] H3) (some t78) fun g=>Xs g t78 t81 t73 H3 fun g u H4=>GO3 g Q .normal ((8,t73)::(7,t67)::E) D H4) (fun g=>Ly g E 27 fun g t27_1=>Cb g .eql t27_1 (.int .i64 16) (fun g=>Ly g E 0 fun g t0=>Ly g E 4 fun g t4=>Fl g 2 t4 H fun g t89=>Xl g t89 (.int .i64 0) H fun g t91=>P3 M g (PX (some []) [91,90,89,88,87] (BLK3 3 Q) E D) (.func qd4) [t0,t91] H fun g t92 H1=>IF3 g t92 (fun g=>Ly g E 0 fun g t0_1=>Ly g E 4 fun g t4_1=>Fl g 2 t4_1 H1 fun g t95=>Xl g t95 (.int .i64 1) H1 fun g t97=>P3 M g (PX (some []) [97,96,95,94,93] (BLK3 3 Q) E D) (.func j7) [t0_1,t97] H1 fun g t98 H2=>GO3 g (BLK3 3 Q) .normal E D H2) (fun g=>W M c (qy 59) g (BLK3 3 Q) E D H1)) (fun g=>W M c (qy 64) g Q E D H))) /\
 (∀ Q E D H,W M c (qy 15) true Q E D H =
  Gt true M c (qy 17) Q E D H) /\
 (∀ Q E D H,W M c (qy 59) true Q E D H =
  Lz E 4 fun g t4=>Fl g 2 t4 H fun g t101=>B3 g (Op.lenSl [t101]) fun g t102=>Cb g .eql t102 (.int .i64 3) (fun g=>Ly g E 0 fun g t0=>Ly g E 4 fun g t4_1=>Fl g 2 t4_1 H fun g t106=>Xl g t106 (.int .i64 2) H fun g t108=>P3 M g (PX (some []) [108,107,106,105,104] Q E D) (.func j7) [t0,t108] H fun g t109 H1=>GO3 g Q .normal E D H1) (fun g=>GO3 g Q .normal E D H)) /\
 (∀ Q E D H,W M c (qy 64) true Q E D H =
  Lz E 27 fun g t27=>Cb g .eql t27 (.int .i64 17) (fun g=>LOOP3 (W M c (qy 69)) (BLK3 4 Q) E D H) (fun g=>Ly g E 27 fun g t27_1=>Cb g .eql t27_1 (.int .i64 18) (fun g=>Ly g E 0 fun g t0=>Ly g E 4 fun g t4=>Fl g 2 t4 H fun g t136=>Xl g t136 (.int .i64 0) H fun g t138=>P3 M g (PX (some []) [138,137,136,135,134] Q E D) (.func qb5) [t0,t138] H fun g t139 H1=>GO3 g Q .normal E D H1) (fun g=>W M c (qy 89) g Q E D H))) /\
 (∀ Q E D H,W M c (qy 17) true Q E D H =
  Lz E 4 fun g t4=>Fl g 2 t4 H fun g t31=>B3 g (Op.lenSl [t31]) fun g t32=>LOOP3 (W M c (qy 21)) (BLK3 1 Q) ((33,(.int .i64 0))::(32,t32)::(31,t31)::E) D H) /\
 (∀ Q E D H,W M c (qy 69) true Q E D H =
  Lz E 0 fun g t0=>Nf g 15 t0 H fun g t115=>B3 g ((Op.un .not) [t115]) fun g t116=>IF3 g t116 (fun g=>Gt g M c (qy 75) Q E D H) (fun g=>GO3 g (SEQ3 (W M c (qy 75)) Q) (.exit 4) E D H)) /\
 (∀ Q E D H,W M c (qy 89) true Q E D H =
  Lz E 27 fun g t27=>Cb g .eql t27 (.int .i64 19) (fun g=>W M c (qy 92) g Q E D H) (fun g=>GO3 g Q .normal E D H)) /\
 (∀ Q E D H,W M c (qy 21) true Q E D H =
  Lz E 33 fun g t33=>Ly g E 32 fun g t32=>Cb g .lss t33 t32 (fun g=>Gt g M c (qy 27) Q E D H) (fun g=>GO3 g (SEQ3 (W M c (qy 27)) Q) (.exit 1) E D H)) /\
 (∀ Q E D H,W M c (qy 75) true Q E D H =
  Lz E 0 fun g t0=>P3 M g (PX (some []) [117] (BLK3 5 Q) E D) (.func qdk) [t0] H fun g t118 H1=>W M c (qy 78) g (BLK3 5 Q) E D H1) /\
 (∀ Q E D H,W M c (qy 92) true Q E D H =
  Lz E 0 fun g t0=>Nf g 14 t0 H fun g t145=>IF3 g t145 (fun g=>B3 g ((Op.build [(.int .i64 0)] [(0,1)]) [(.int .i64 111)]) fun g t146=>B3 g ((Op.mkIface kg) [t146]) fun g t147=>PANICK [t147] H (PX (some []) [147,146] (SEQ3 (W M c (qy 98)) Q) E D)) (fun g=>Gt g M c (qy 98) Q E D H)) /\
 (∀ Q E D H,W M c (qy 27) true Q E D H =
  Lz E 31 fun g t31=>Ly g E 33 fun g t33=>Xl g t31 t33 H fun g t36=>W M c (qy 31) g (BLK3 2 (SEQ3 (W M c (qy 38)) Q)) ((6,t36)::E) D H) /\
 (∀ Q E D H,W M c (qy 78) true Q E D H =
  Lz E 0 fun g t0=>Ly g E 4 fun g t4=>Fl g 2 t4 H fun g t121=>Xl g t121 (.int .i64 0) H fun g t123=>P3 M g (PX (some []) [123,122,121,120,119] (SEQ3 (W M c (qy 84)) Q) E D) (.func qd4) [t0,t123] H fun g t124 H1=>B3 g ((Op.un .not) [t124]) fun g t125=>IF3 g t125 (fun g=>GO3 g (SEQ3 (W M c (qy 84)) Q) .ret E D H1) (fun g=>Gt g M c (qy 84) Q E D H1)) /\
 (∀ Q E D H,W M c (qy 98) true Q E D H =
  Lz E 0 fun g t0=>Ns g 15 t0 (.bool true) H fun g u H1=>GO3 g Q .normal E D H1) /\
 (∀ Q E D H,W M c (qy 38) true Q E D H =
  Lz E 33 fun g t33=>Bn g .add t33 (.int .i64 1) fun g t44=>GO3 g Q .normal ((33,t44)::E) D H) /\
 (∀ Q E D H,W M c (qy 31) true Q E D H =
  Lz E 0 fun g t0=>Nf g 15 t0 H fun g t40=>IF3 g t40 (fun g=>GO3 g (SEQ3 (W M c (qy 37)) Q) (.exit 1) E D H) (fun g=>Gt g M c (qy 37) Q E D H)) /\
 (∀ Q E D H,W M c (qy 84) true Q E D H =
  Lz E 0 fun g t0=>Ly g E 4 fun g t4=>Fl g 2 t4 H fun g t128=>Xl g t128 (.int .i64 1) H fun g t130=>P3 M g (PX (some []) [130,129,128,127,126] Q E D) (.func j7) [t0,t130] H fun g t131 H1=>GO3 g Q .normal E D H1) /\
 (∀ Q E D H,W M c (qy 37) true Q E D H =
  Lz E 0 fun g t0=>Ly g E 6 fun g t6=>P3 M g (PX (some []) [42,41] Q E D) (.func j7) [t0,t6] H fun g t43 H1=>GO3 g Q .normal E D H1):=by (repeat' apply And.intro)<;>(intro _ _ _ _;refine W_unf ?_;kernel_rfl)
theorem qza:(cProg Tryd.prog).func j7=some ql9/\ql9.results=[]:=x9 (by kernel_rfl)
theorem qma (h:W M ⟨none,j7⟩ (qy 0) true (FIN3 M [] Q) [(0,a0),(1,a1)] [] H):kx M j7 [a0,a1] H Q:=callf (by decide) qza (ks:=qqy) (by kernel_rfl) h
def qj0:AFunc:=funcAt Tryd.prog qbr
def qno:Kp:=⟨[0,1,4],true,[0,2,8]⟩
def qc2 (k:Nat):Kp × ACode:=(qno,part qj0.body k)
theorem qnp (M:Mac) (c:Ctx):(∀ Q E D H,W M c (qc2 0) true Q E D H =
 W M c (qc2 2) true Q ((4,(.int .i64 0))::E) D H) /\
 (∀ Q E D H,W M c (qc2 2) true Q E D H =
  Lz E 1 fun g t1=>Ly g E 0 fun g t0=>B3 g (Op.nilCheck [t0]) fun g t7=>B3 g ((Op.fieldAddr 1) [t7]) fun g t8=>Fl g 0 t8 H fun g t10=>B3 g (Op.lenSl [t10]) fun g t11=>B3 g ((Op.wrap .u64) [t11]) fun g t12=>Cb g .geq t1 t12 (fun g=>B3 g ((Op.build [(.int .i64 0)] [(0,1)]) [(.int .i64 111)]) fun g t14=>B3 g ((Op.mkIface kg) [t14]) fun g t15=>PANICK [t15] H (PX (some []) [15,14] (SEQ3 (W M c (qc2 8)) Q) E D)) (fun g=>Gt g M c (qc2 8) Q E D H)) /\
 (∀ Q E D H,W M c (qc2 8) true Q E D H =
  Lz E 1 fun g t1=>B3 g ((Op.wrap .i64) [t1]) fun g t17=>GO3 g Q .ret ((4,t17)::E) D H):=by (repeat' apply And.intro)<;>(intro _ _ _ _;refine W_unf ?_;kernel_rfl)
theorem qvs:(cProg Tryd.prog).func qbr=some qj0/\qj0.results=[.tmp 4]:=x9 (by kernel_rfl)
theorem qvt (h:W M ⟨none,qbr⟩ (qc2 0) true (FIN3 M [.tmp 4] Q) [(0,a0),(1,a1)] [] H):kx M qbr [a0,a1] H Q:=callf (by decide) qvs (ks:=qno) (by kernel_rfl) h
def qky:AFunc:=funcAt Tryd.prog qdk
def qo4:Kp:=⟨[0],true,[0,6]⟩
def qf1 (k:Nat):Kp × ACode:=(qo4,part qky.body k)
theorem qo5 (M:Mac) (c:Ctx):(∀ Q E D H,W M c (qf1 0) true Q E D H =
 Lz E 0 fun g t0=>B3 g (Op.nilCheck [t0]) fun g t3=>B3 g ((Op.fieldAddr 1) [t3]) fun g t4=>Fl g 10 t4 H fun g t6=>Cb g .eql t6 (.int .i64 0) (fun g=>B3 g ((Op.build [(.int .i64 0)] [(0,1)]) [(.int .i64 190)]) fun g t8=>B3 g ((Op.mkIface kg) [t8]) fun g t9=>PANICK [t9] H (PX (some []) [9,8] (SEQ3 (W M c (qf1 6)) Q) E D)) (fun g=>Gt g M c (qf1 6) Q E D H)) /\
 (∀ Q E D H,W M c (qf1 6) true Q E D H =
  Lz E 0 fun g t0=>B3 g (Op.nilCheck [t0]) fun g t11=>B3 g ((Op.fieldAddr 1) [t11]) fun g t12=>Fl g 10 t12 H fun g t14=>Bn g .sub t14 (.int .i64 1) fun g t15=>B3 g (Op.nilCheck [t0]) fun g t16=>B3 g ((Op.fieldAddr 1) [t16]) fun g t17=>Fs g 10 t17 t15 H fun g u H1=>GO3 g Q .normal E D H1):=by (repeat' apply And.intro)<;>(intro _ _ _ _;refine W_unf ?_;kernel_rfl)
theorem qw1:(cProg Tryd.prog).func qdk=some qky/\qky.results=[]:=x9 (by kernel_rfl)
theorem qw2 (h:W M ⟨none,qdk⟩ (qf1 0) true (FIN3 M [] Q) [(0,a0)] [] H):kx M qdk [a0] H Q:=callf (by decide) qw1 (ks:=qo4) (by kernel_rfl) h
def qmb:AFunc:=funcAt Tryd.prog qd4
def qqz:Kp:=⟨[0,1,4,5,6,7,28],true,[0,4,6,23]⟩
def qbn (k:Nat):Kp × ACode:=(qqz,part qmb.body k)
theorem qea (M:Mac) (c:Ctx):(∀ Q E D H,W M c (qbn 0) true Q E D H =
 Lz E 0 fun g t0=>Nf g 0 t0 H fun g t11=>Ly g E 1 fun g t1=>B3 g ((Op.indexSl 3) [t11,t1]) fun g t13=>B3 g ((Op.loadN 3) [t13] H) fun g t14=>A3 g qj [(.int .i64 0),(.int .u64 0),.nils] H fun g t5 H1=>B32 g ((Op.store 3) [t5,t14] H1) fun g u H2=>W M c (qbn 4) g Q ((5,t5)::(4,(.bool false))::E) D H2) /\
 (∀ Q E D H,W M c (qbn 4) true Q E D H =
  Lz E 0 fun g t0=>Ly g E 5 fun g t5=>Fl g 2 t5 H fun g t17=>Xl g t17 (.int .i64 0) H fun g t19=>B3 g ((Op.fieldAddr 2) [t5]) fun g t22=>B3 g (Op.load1 [t22] H) fun g t23=>B3 g ((Op.indexSl 1) [t23,(.int .i64 1)]) fun g t24=>B3 g (Op.load1 [t24] H) fun g t25=>P3 M g (PX (some [15,16,17,18,19,20,21,22,23,24,25,26,6,7]) [25,24,23,22,21,19,18,17,16,15] Q E D) (.func jk) [t0,t19] H fun g t20 H1=>CK3 g (Op.load1 [t22] H1) (some t23) fun g=>CK3 g (Op.load1 [t24] H1) (some t25) fun g=>P3 M g (PX (some [15,16,17,18,19,20,21,22,23,24,25,26,6,7]) [20,25,24,23,22,21,19,18,17,16,15] Q E D) (.func jk) [t0,t25] H1 fun g t26 H2=>W M c (qbn 6) g Q ((7,t26)::(6,t20)::E) D H2) /\
 (∀ Q E D H,W M c (qbn 6) true Q E D H =
  Lz E 5 fun g t5=>Fl g 0 t5 H fun g t28=>Cb g .eql t28 (.int .i64 11) (fun g=>Ly g E 6 fun g t6=>Ly g E 7 fun g t7=>Bn g .eql t6 t7 fun g t33=>GO3 g (BLK3 0 (SEQ3 (W M c (qbn 23)) Q)) .ret ((4,t33)::(28,t28)::E) D H) (fun g=>Cb g .eql t28 (.int .i64 12) (fun g=>Ly g E 6 fun g t6=>Ly g E 7 fun g t7=>Bn g .neq t6 t7 fun g t38=>GO3 g (BLK3 0 (SEQ3 (W M c (qbn 23)) Q)) .ret ((4,t38)::(28,t28)::E) D H) (fun g=>GO3 g (BLK3 0 (SEQ3 (W M c (qbn 23)) Q)) .normal ((28,t28)::E) D H))) /\
 (∀ Q E D H,W M c (qbn 23) true Q E D H =
  Lz E 6 fun g t6=>Ly g E 7 fun g t7=>Bn g .lss t6 t7 fun g t41=>GO3 g Q .ret ((4,t41)::E) D H):=by (repeat' apply And.intro)<;>(intro _ _ _ _;refine W_unf ?_;kernel_rfl)
theorem qzb:(cProg Tryd.prog).func qd4=some qmb/\qmb.results=[.tmp 4]:=x9 (by kernel_rfl)
theorem qzc (h:W M ⟨none,qd4⟩ (qbn 0) true (FIN3 M [.tmp 4] Q) [(0,a0),(1,a1)] [] H):kx M qd4 [a0,a1] H Q:=callf (by decide) qzb (ks:=qqz) (by kernel_rfl) h
def qih:AFunc:=funcAt Tryd.prog qb5
def qmu:Kp:=⟨[0,1,2,3,4,5,6],true,[0,4,8,10,18]⟩
def yz (k:Nat):Kp × ACode:=(qmu,part qih.body k)
theorem qty (M:Mac) (c:Ctx):(∀ Q E D H,W M c (yz 0) true Q E D H =
 Lz E 0 fun g t0=>A3 g kq (AV.cells t0) H fun g t2 H1=>Ly g E 1 fun g t1=>A3 g T_int (AV.cells t1) H1 fun g t3 H2=>B3 g (Op.load1 [t2] H2) fun g t7=>B3 g (Op.nilCheck [t7]) fun g t8=>B3 g ((Op.fieldAddr 1) [t8]) fun g t9=>Fl g 0 t9 H2 fun g t11=>B3 g (Op.load1 [t2] H2) fun g t13=>B3 g (Op.nilCheck [t13]) fun g t14=>B3 g ((Op.fieldAddr 1) [t14]) fun g t15=>B3 g ((Op.fieldAddr 1) [t15]) fun g t16=>B3 g ((Op.loadN 8) [t16] H2) fun g t17=>P3 M g (PX none [17,16,15,14,13,11,10,9,8,7] Q ((3,t3)::(2,t2)::E) D) (.func vv) [t11] H2 fun g t12 H3=>CK3 g (Op.load1 [t2] H3) (some t13) fun g=>CK3 g ((Op.loadN 8) [t16] H3) (some t17) fun g=>A3 g T__21 [(.int .u64 0),(.int .u64 0),(.int .u64 0),(.int .u64 0),(.int .u64 0),(.int .u64 0),(.int .u64 0),(.int .u64 0)] H3 fun g t5 H4=>B32 g ((Op.store 8) [t5,t17] H4) fun g u H5=>W M c (yz 4) g Q ((4,t12)::(5,t5)::(3,t3)::(2,t2)::E) D H5) /\
 (∀ Q E D H,W M c (yz 4) true Q E D H =
  Lz E 2 fun g t2=>B3 g (Op.load1 [t2] H) fun g t18=>Ns g 14 t18 (.bool true) H fun g u H1=>Ly g E 2 fun g t2_1=>B3 g (Op.load1 [t2_1] H1) fun g t21=>Ly g E 3 fun g t3=>B3 g ((Op.mkFunc vf 0) [t2_1,t3]) fun g t22=>P3 M g (PX (some []) [22,21] Q E D) (.func qei) [t21,t22] H1 fun g t23 H2=>W M c (yz 8) g Q ((6,t23)::E) D H2) /\
 (∀ Q E D H,W M c (yz 8) true Q E D H =
  Lz E 2 fun g t2=>B3 g (Op.load1 [t2] H) fun g t24=>Ns g 14 t24 (.bool false) H fun g u H1=>W M c (yz 10) g Q E D H1) /\
 (∀ Q E D H,W M c (yz 10) true Q E D H =
  Lz E 6 fun g t6=>Cb g .neq t6 (.int .i64 0) (fun g=>Ly g E 2 fun g t2=>B3 g (Op.load1 [t2] H) fun g t29=>B3 g (Op.load1 [t2] H) fun g t30=>Ly g E 4 fun g t4=>Ly g E 5 fun g t5=>B3 g ((Op.loadN 8) [t5] H) fun g t32=>B3 g (Op.nilCheck [t29]) fun g t33=>B3 g ((Op.fieldAddr 1) [t33]) fun g t34=>Fs g 0 t34 t4 H fun g u H1=>CK3 g (Op.load1 [t2] H1) (some t30) fun g=>CK3 g ((Op.loadN 8) [t5] H1) (some t32) fun g=>B3 g (Op.nilCheck [t30]) fun g t36=>B3 g ((Op.fieldAddr 1) [t36]) fun g t37=>B3 g ((Op.fieldAddr 1) [t37]) fun g t38=>B32 g ((Op.store 8) [t38,t32] H1) fun g u_1 H2=>Ly g E 6 fun g t6_1=>B3 g ((Op.build [(.int .i64 0)] [(0,1)]) [t6_1]) fun g t40=>B3 g ((Op.mkIface kg) [t40]) fun g t41=>PANICK [t41] H2 (PX (some []) [41,40,39] (SEQ3 (W M c (yz 18)) Q) E D)) (fun g=>Gt g M c (yz 18) Q E D H)) /\
 (∀ Q E D H,W M c (yz 18) true Q E D H =
  Lz E 2 fun g t2=>B3 g (Op.load1 [t2] H) fun g t42=>B3 g (Op.nilCheck [t42]) fun g t43=>B3 g ((Op.fieldAddr 1) [t43]) fun g t44=>Fl g 11 t44 H fun g t46=>Bn g .add t46 (.int .i64 1) fun g t47=>B3 g (Op.nilCheck [t42]) fun g t48=>B3 g ((Op.fieldAddr 1) [t48]) fun g t49=>Fs g 11 t49 t47 H fun g u H1=>GO3 g Q .normal E D H1):=by (repeat' apply And.intro)<;>(intro _ _ _ _;refine W_unf ?_;kernel_rfl)
theorem qtw:(cProg Tryd.prog).func qb5=some qih/\qih.results=[]:=x9 (by kernel_rfl)
theorem qtx (h:W M ⟨none,qb5⟩ (yz 0) true (FIN3 M [] Q) [(0,a0),(1,a1)] [] H):kx M qb5 [a0,a1] H Q:=callf (by decide) qtw (ks:=qmu) (by kernel_rfl) h
def qgz:AFunc:=funcAt Tryd.prog vf
def qkr:Kp:=⟨[0,1],true,[0]⟩
def qks (k:Nat):Kp × ACode:=(qkr,part qgz.body k)
theorem qqx (M:Mac) (c:Ctx):(∀ Q E D H,W M c (qks 0) true Q E D H =
 Lz E 0 fun g t0=>B3 g (Op.load1 [t0] H) fun g t2=>Ly g E 1 fun g t1=>B3 g (Op.load1 [t1] H) fun g t3=>P3 M g (PX (some []) [3,2] Q E D) (.func j7) [t2,t3] H fun g t4 H1=>GO3 g Q .normal E D H1):=by intro _ _ _ _;refine W_unf ?_;kernel_rfl
theorem qqv:(cProg Tryd.prog).func vf=some qgz/\qgz.results=[]:=x9 (by kernel_rfl)
theorem qqw (h:W M ⟨none,vf⟩ (qks 0) true (FIN3 M [] Q) [(0,a0),(1,a1)] [] H):kx M vf [a0,a1] H Q:=callf (by decide) qqv (ks:=qkr) (by kernel_rfl) h
end
end Go.Am
namespace Go.Am
abbrev qd3:Nat:=21
abbrev qd6:Nat:=24
noncomputable section
open Go.Proofs Go.Proofs.YtbimikjajohflaaDoor
variable {M:Mac} [MK M] {H:AHeap} {Q:AEnd->AHeap->Prop} {a0 a1 a2 a3 a4:AV}
def ql7:AFunc:=funcAt Tryd.prog qd3
def qqs:Kp:=⟨[0,1,2,6,7,8],false,[0,4,9,15,18,19,27]⟩
def yi (k:Nat):Kp × ACode:=(qqs,part ql7.body k)
theorem qy3 (M:Mac) (c:Ctx):(∀ Q E D H,W M c (yi 0) true Q E D H =
 W M c (yi 4) true Q ((7,(.int .i64 0))::(6,(.int .i64 0))::E) D H) /\
 (∀ Q E D H,W M c (yi 4) true Q E D H =
  LOOP3 (W M c (yi 9)) (BLK3 0 (SEQ3 (W M c (yi 19)) Q)) ((8,(.int .i64 0))::E) D H) /\
 (∀ Q E D H,W M c (yi 19) true Q E D H =
  Lz E 7 fun g t7=>Bn g .gtr t7 (.int .i64 1000) fun g t25=>JN (fun (k:Bool->AV->AV->AV->AHeap->Prop)=>B3 g (wantV false (some t25)) fun g w=>IG3 g w (fun g=>Ly g E 1 fun g t1=>B3 g (Op.lenSl [t1]) fun g t28=>Bn g .gtr t28 (.int .i64 5000) fun g t29=>k g t29 t28 t1 H) (fun g=>k g uu uu uu H)) (fun g t29_1 t28_1 t27_1 H1=>B3 g (Op.pick [t25,(.bool true),t29_1]) fun g t30=>JN (fun (k:Bool->AV->AV->AV->AHeap->Prop)=>B3 g (wantV false (some t30)) fun g w=>IG3 g w (fun g=>Ly g E 2 fun g t2=>Bn g .gtr t2 (.int .i64 2000) fun g t33=>k g t33 t33 t2 H1) (fun g=>k g uu uu uu H1)) (fun g t34_1 t33_1 t32_1 H2=>JN (fun (k:Bool->AV->AV->AHeap->Prop)=>B3 g (wantV true (some t34_1)) fun g w=>IG3 g w (fun g=>Ly g E 2 fun g t2_1=>Bn g .leq t2_1 (.int .i64 1048576) fun g t36=>k g t36 t2_1 H2) (fun g=>k g uu uu H2)) (fun g t36_1 t35_1 H3=>JN (fun (k:Bool->AV->AHeap->Prop)=>B3 g (wantV false (some t30)) fun g w=>IG3 g w (fun g=>B3 g (Op.pick [t34_1,t36_1,(.bool false)]) fun g t37=>k g t37 H3) (fun g=>k g uu H3)) (fun g t37_1 H4=>B3 g (Op.pick [t30,(.bool true),t37_1]) fun g t38=>IF3 g t38 (fun g=>GO3 g (SEQ3 (W M c (yi 27)) Q) .ret ((6,(.int .i64 1))::E) D H4) (fun g=>Gt g M c (yi 27) Q E D H4)))))) /\
 (∀ Q E D H,W M c (yi 9) true Q E D H =
  Lz E 8 fun g t8=>Ly g E 0 fun g t0=>B3 g (Op.lenSl [t0]) fun g t11=>Cb g .lss t8 t11 (fun g=>Gt g M c (yi 15) Q E D H) (fun g=>GO3 g (SEQ3 (W M c (yi 15)) Q) (.exit 0) E D H)) /\
 (∀ Q E D H,W M c (yi 27) true Q E D H =
  GO3 true Q .ret ((6,(.int .i64 0))::E) D H) /\
 (∀ Q E D H,W M c (yi 15) true Q E D H =
  Lz E 7 fun g t7=>Bn g .add t7 (.int .i64 1) fun g t16=>Ly g E 0 fun g t0=>Ly g E 8 fun g t8=>B3 g ((Op.indexSl 3) [t0,t8]) fun g t19=>Fl g 2 t19 H fun g t21=>B3 g (Op.lenSl [t21]) fun g t22=>Bn g .add t16 t22 fun g t23=>GO3 g (BLK3 1 (SEQ3 (W M c (yi 18)) Q)) .normal ((7,t23)::E) D H) /\
 (∀ Q E D H,W M c (yi 18) true Q E D H =
  Lz E 8 fun g t8=>Bn g .add t8 (.int .i64 1) fun g t14=>GO3 g Q .normal ((8,t14)::E) D H):=by (repeat' apply And.intro)<;>(intro _ _ _ _;refine W_unf ?_;kernel_rfl)
theorem qy1:(cProg Tryd.prog).func qd3=some ql7/\ql7.results=[.tmp 6]:=x9 (by kernel_rfl)
theorem qy2 (h:W M ⟨none,qd3⟩ (yi 0) true (FIN3 M [.tmp 6] Q) [(0,a0),(1,a1),(2,a2)] [] H):kx M qd3 [a0,a1,a2] H Q:=callf (by decide) qy1 (ks:=qqs) (by kernel_rfl) h
def qmo:AFunc:=funcAt Tryd.prog qd6
def qq8:Kp:=⟨[0,1,4,5],false,[0,2,10,15,21,30,31]⟩
def kw (k:Nat):Kp × ACode:=(qq8,part qmo.body k)
theorem qz1 (M:Mac) (c:Ctx):(∀ Q E D H,W M c (kw 0) true Q E D H =
 W M c (kw 2) true Q ((4,(.bool false))::E) D H) /\
 (∀ Q E D H,W M c (kw 2) true Q E D H =
  Lz E 0 fun g t0=>B3 g (Op.lenSl [t0]) fun g t7=>Ly g E 1 fun g t1=>B3 g (Op.lenSl [t1]) fun g t9=>Cb g .neq t7 t9 (fun g=>GO3 g (SEQ3 (W M c (kw 10)) Q) .ret ((4,(.bool false))::E) D H) (fun g=>Gt g M c (kw 10) Q E D H)) /\
 (∀ Q E D H,W M c (kw 10) true Q E D H =
  LOOP3 (W M c (kw 15)) (BLK3 0 (SEQ3 (W M c (kw 31)) Q)) ((5,(.int .i64 0))::E) D H) /\
 (∀ Q E D H,W M c (kw 31) true Q E D H =
  GO3 true Q .ret ((4,(.bool true))::E) D H) /\
 (∀ Q E D H,W M c (kw 15) true Q E D H =
  Lz E 5 fun g t5=>Ly g E 0 fun g t0=>B3 g (Op.lenSl [t0]) fun g t13=>Cb g .lss t5 t13 (fun g=>Gt g M c (kw 21) Q E D H) (fun g=>GO3 g (SEQ3 (W M c (kw 21)) Q) (.exit 0) E D H)) /\
 (∀ Q E D H,W M c (kw 21) true Q E D H =
  Lz E 0 fun g t0=>Ly g E 5 fun g t5=>Xl g t0 t5 H fun g t20=>Ly g E 1 fun g t1=>Xl g t1 t5 H fun g t24=>Cb g .neq t20 t24 (fun g=>GO3 g (BLK3 1 (SEQ3 (W M c (kw 30)) Q)) .ret ((4,(.bool false))::E) D H) (fun g=>GO3 g (BLK3 1 (SEQ3 (W M c (kw 30)) Q)) .normal E D H)) /\
 (∀ Q E D H,W M c (kw 30) true Q E D H =
  Lz E 5 fun g t5=>Bn g .add t5 (.int .i64 1) fun g t16=>GO3 g Q .normal ((5,t16)::E) D H):=by (repeat' apply And.intro)<;>(intro _ _ _ _;refine W_unf ?_;kernel_rfl)
theorem qzz:(cProg Tryd.prog).func qd6=some qmo/\qmo.results=[.tmp 4]:=x9 (by kernel_rfl)
theorem qz0 (h:W M ⟨none,qd6⟩ (kw 0) true (FIN3 M [.tmp 4] Q) [(0,a0),(1,a1)] [] H):kx M qd6 [a0,a1] H Q:=callf (by decide) qzz (ks:=qq8) (by kernel_rfl) h
end
end Go.Am
namespace Go.Am
abbrev qcr:Nat:=8
abbrev yd:Nat:=49
abbrev qf9:Nat:=28
abbrev qbf:Nat:=23
abbrev qgj:Nat:=25
abbrev qb6:Nat:=80
abbrev qbg:Nat:=81
abbrev yw:Nat:=29
abbrev qgk:Nat:=82
abbrev qz:Nat:=46
noncomputable section
open Go.Proofs Go.Proofs.YtbimikjajohflaaDoor
variable {M:Mac} [MK M] {H:AHeap} {Q:AEnd->AHeap->Prop} {a0 a1 a2 a3 a4:AV}
def qhr:AFunc:=funcAt Tryd.prog qcr
def qlg:Kp:=⟨[0,1,2,3,4,8,10,11,12,13,14,15,16,17,18,19,20,22],false,[0,2,10,14,22,26,34,38,40,48]⟩
def xx (k:Nat):Kp × ACode:=(qlg,part qhr.body k)
theorem qr6 (M:Mac) (c:Ctx):(∀ Q E D H,W M c (xx 0) true Q E D H =
 Lz E 3 fun g t3=>A3 g T__21 (AV.cells t3) H fun g t8 H1=>W M c (xx 2) g Q ((10,(.bool false))::(8,t8)::E) D H1) /\
 (∀ Q E D H,W M c (xx 2) true Q E D H =
  Lz E 0 fun g t0=>Ly g E 2 fun g t2=>Ly g E 4 fun g t4=>C3 M g (.func qd3) [t0,t2,t4] H fun g t26 H1=>Cb g .gtr t26 (.int .i64 0) (fun g=>GO3 g (SEQ3 (W M c (xx 10)) Q) .ret ((10,(.bool true))::E) D H1) (fun g=>Gt g M c (xx 10) Q E D H1)) /\
 (∀ Q E D H,W M c (xx 10) true Q E D H =
  Lz E 0 fun g t0=>Ly g E 1 fun g t1=>Ly g E 2 fun g t2=>Ly g E 8 fun g t8=>B3 g ((Op.loadN 8) [t8] H) fun g t32=>Ly g E 4 fun g t4=>C3 M g (.func qbe) [t0,t1,t2,t32,t4] H fun g t34 H1=>B3 g ((Op.extract 0) [t34]) fun g t35=>B3 g ((Op.extract 1) [t34]) fun g t36=>A3 g vy [.nils,(.int .u64 0),(.int .u64 0),(.int .u64 0),(.int .u64 0),(.int .u64 0),(.int .u64 0),(.int .u64 0),(.int .u64 0),(.int .i64 0),(.int .i64 0),(.int .i64 0),(.int .i64 0)] H1 fun g t11 H2=>B32 g ((Op.store 13) [t11,t35] H2) fun g u H3=>Ly g E 0 fun g t0_1=>Ly g E 1 fun g t1_1=>Ly g E 2 fun g t2_1=>Ly g E 8 fun g t8_1=>B3 g ((Op.loadN 8) [t8_1] H3) fun g t41=>Ly g E 4 fun g t4_1=>C3 M g (.func qbf) [t0_1,t1_1,t2_1,t41,t4_1] H3 fun g t43 H4=>B3 g ((Op.extract 0) [t43]) fun g t44=>B3 g ((Op.extract 1) [t43]) fun g t45=>A3 g qz [.nils,(.int .u64 0),(.int .u64 0),(.int .u64 0),(.int .u64 0),(.int .u64 0),(.int .u64 0),(.int .u64 0),(.int .u64 0),(.int .i64 0),(.int .i64 0),(.bool false),(.int .i64 0)] H4 fun g t13 H5=>B32 g ((Op.store 13) [t13,t44] H5) fun g u_1 H6=>W M c (xx 14) g Q ((14,t45)::(13,t13)::(12,t36)::(11,t11)::E) D H6) /\
 (∀ Q E D H,W M c (xx 14) true Q E D H =
  Lz E 12 fun g t12=>Ly g E 14 fun g t14=>Bn g .neq t12 t14 fun g t48=>JN (fun (k:Bool->AV->AV->AV->AV->AHeap->Prop)=>B3 g (wantV false (some t48)) fun g w=>IG3 g w (fun g=>Ly g E 11 fun g t11=>B3 g ((Op.loadN 13) [t11] H) fun g t50=>Ly g E 13 fun g t13=>B3 g ((Op.loadN 13) [t13] H) fun g t51=>C3 M g (.func qgj) [t50,t51] H fun g t52 H1=>B3 g ((Op.un .not) [t52]) fun g t53=>k g t53 t52 t51 t50 H1) (fun g=>k g uu uu uu uu H)) (fun g t53_1 t52_1 t51_1 t50_1 H2=>B3 g (Op.pick [t48,(.bool true),t53_1]) fun g t54=>IF3 g t54 (fun g=>GO3 g (SEQ3 (W M c (xx 22)) Q) .ret ((10,(.bool false))::E) D H2) (fun g=>Gt g M c (xx 22) Q E D H2))) /\
 (∀ Q E D H,W M c (xx 22) true Q E D H =
  Lz E 0 fun g t0=>Ly g E 1 fun g t1=>Ly g E 2 fun g t2=>Ly g E 8 fun g t8=>B3 g ((Op.loadN 8) [t8] H) fun g t59=>C3 M g (.func qe1) [t0,t1,t2,t59] H fun g t60 H1=>B3 g ((Op.extract 0) [t60]) fun g t61=>B3 g ((Op.extract 1) [t60]) fun g t62=>Ly g E 0 fun g t0_1=>Ly g E 2 fun g t2_1=>C3 M g (.func qf9) [t0_1,t2_1,(.int .i64 0)] H1 fun g t65 H2=>W M c (xx 26) g Q ((17,t65)::(16,t62)::(15,t61)::E) D H2) /\
 (∀ Q E D H,W M c (xx 26) true Q E D H =
  Lz E 17 fun g t17=>B3 g ((Op.un .not) [t17]) fun g t67=>JN (fun (k:Bool->AV->AV->AHeap->Prop)=>B3 g (wantV false (some t67)) fun g w=>IG3 g w (fun g=>Ly g E 1 fun g t1=>Bn g .lss t1 (.int .i64 0) fun g t70=>k g t70 t1 H) (fun g=>k g uu uu H)) (fun g t70_1 t69_1 H1=>B3 g (Op.pick [t67,(.bool true),t70_1]) fun g t71=>JN (fun (k:Bool->AV->AV->AV->AV->AHeap->Prop)=>B3 g (wantV false (some t71)) fun g w=>IG3 g w (fun g=>Ly g E 1 fun g t1_1=>Ly g E 0 fun g t0=>B3 g (Op.lenSl [t0]) fun g t75=>Bn g .geq t1_1 t75 fun g t76=>k g t76 t75 t0 t1_1 H1) (fun g=>k g uu uu uu uu H1)) (fun g t76_1 t75_1 t74_1 t73_1 H2=>B3 g (Op.pick [t71,(.bool true),t76_1]) fun g t77=>JN (fun (k:Bool->AV->AV->AV->AV->AV->AV->AHeap->Prop)=>B3 g (wantV false (some t77)) fun g w=>IG3 g w (fun g=>Ly g E 0 fun g t0_1=>Ly g E 1 fun g t1_2=>B3 g ((Op.indexSl 3) [t0_1,t1_2]) fun g t81=>B3 g ((Op.fieldAddr 0) [t81]) fun g t82=>B3 g (Op.load1 [t82] H2) fun g t83=>Bn g .gtr t83 (.int .i64 10) fun g t84=>k g t84 t83 t82 t81 t1_2 t0_1 H2) (fun g=>k g uu uu uu uu uu uu H2)) (fun g t84_1 t83_1 t82_1 t81_1 t80_1 t79_1 H3=>B3 g (Op.pick [t77,(.bool true),t84_1]) fun g t85=>IF3 g t85 (fun g=>Ly g E 16 fun g t16=>Bn g .eql t16 (.int .i64 2) fun g t87=>JN (fun (k:Bool->AV->AV->AHeap->Prop)=>B3 g (wantV true (some t87)) fun g w=>IG3 g w (fun g=>Ly g E 15 fun g t15=>Bn g .eql t15 (.int .u64 0) fun g t90=>k g t90 t15 H3) (fun g=>k g uu uu H3)) (fun g t90_1 t89_1 H4=>B3 g (Op.pick [t87,t90_1,(.bool false)]) fun g t91=>GO3 g (SEQ3 (W M c (xx 34)) Q) .ret ((10,t91)::E) D H4)) (fun g=>Gt g M c (xx 34) Q E D H3))))) /\
 (∀ Q E D H,W M c (xx 34) true Q E D H =
  Lz E 2 fun g t2=>Ly g E 8 fun g t8=>B3 g ((Op.loadN 8) [t8] H) fun g t93=>B3 g ((Op.build [.nils,(.int .u64 0),(.int .u64 0),(.int .u64 0),(.int .u64 0),(.int .u64 0),(.int .u64 0),(.int .u64 0),(.int .u64 0),(.int .i64 0),(.int .i64 0),(.bool false),(.int .i64 0)] [(0,1),(1,8)]) [t2,t93]) fun g t94=>A3 g qz (AV.cells t94) H fun g t95 H1=>Ly g E 0 fun g t0=>Ly g E 1 fun g t1=>C3 M g (.func yw) [t0,t1,t95] H1 fun g t100 H2=>B3 g ((Op.extract 0) [t100]) fun g t101=>B3 g ((Op.extract 1) [t100]) fun g t102=>W M c (xx 38) g Q ((20,t102)::(19,t101)::(18,t95)::E) D H2) /\
 (∀ Q E D H,W M c (xx 38) true Q E D H =
  Lz E 0 fun g t0=>C3 M g (.func yh) [t0] H fun g t105 H1=>B3 g ((Op.extract 0) [t105]) fun g t106=>B3 g ((Op.extract 1) [t105]) fun g t107=>W M c (xx 40) g Q ((22,t107)::E) D H1) /\
 (∀ Q E D H,W M c (xx 40) true Q E D H =
  Lz E 20 fun g t20=>B3 g ((Op.un .not) [t20]) fun g t109=>IF3 g t109 (fun g=>Ly g E 16 fun g t16=>Bn g .eql t16 (.int .i64 111) fun g t111=>JN (fun (k:Bool->AV->AV->AHeap->Prop)=>B3 g (wantV true (some t111)) fun g w=>IG3 g w (fun g=>Ly g E 15 fun g t15=>Bn g .eql t15 (.int .u64 0) fun g t114=>k g t114 t15 H) (fun g=>k g uu uu H)) (fun g t114_1 t113_1 H1=>B3 g (Op.pick [t111,t114_1,(.bool false)]) fun g t115=>JN (fun (k:Bool->AV->AV->AHeap->Prop)=>B3 g (wantV true (some t115)) fun g w=>IG3 g w (fun g=>Ly g E 22 fun g t22=>Bn g .eql t22 (.int .i64 0) fun g t118=>k g t118 t22 H1) (fun g=>k g uu uu H1)) (fun g t118_1 t117_1 H2=>B3 g (Op.pick [t115,t118_1,(.bool false)]) fun g t119=>GO3 g (SEQ3 (W M c (xx 48)) Q) .ret ((10,t119)::E) D H2))) (fun g=>Gt g M c (xx 48) Q E D H)) /\
 (∀ Q E D H,W M c (xx 48) true Q E D H =
  Lz E 16 fun g t16=>Bn g .eql t16 (.int .i64 0) fun g t121=>JN (fun (k:Bool->AV->AV->AV->AHeap->Prop)=>B3 g (wantV true (some t121)) fun g w=>IG3 g w (fun g=>Ly g E 15 fun g t15=>Ly g E 19 fun g t19=>Bn g .eql t15 t19 fun g t125=>k g t125 t19 t15 H) (fun g=>k g uu uu uu H)) (fun g t125_1 t124_1 t123_1 H1=>B3 g (Op.pick [t121,t125_1,(.bool false)]) fun g t126=>JN (fun (k:Bool->AV->AV->AHeap->Prop)=>B3 g (wantV true (some t126)) fun g w=>IG3 g w (fun g=>Ly g E 22 fun g t22=>Bn g .eql t22 (.int .i64 0) fun g t129=>k g t129 t22 H1) (fun g=>k g uu uu H1)) (fun g t129_1 t128_1 H2=>B3 g (Op.pick [t126,t129_1,(.bool false)]) fun g t130=>GO3 g Q .ret ((10,t130)::E) D H2))):=by (repeat' apply And.intro)<;>(intro _ _ _ _;refine W_unf ?_;kernel_rfl)
theorem qr4:(cProg Tryd.prog).func qcr=some qhr/\qhr.results=[.tmp 10]:=x9 (by kernel_rfl)
theorem qr5 (h:W M ⟨none,qcr⟩ (xx 0) true (FIN3 M [.tmp 10] Q) [(0,a0),(1,a1),(2,a2),(3,a3),(4,a4)] [] H):kx M qcr [a0,a1,a2,a3,a4] H Q:=callf (by decide) qr4 (ks:=qlg) (by kernel_rfl) h
def qpw:AFunc:=funcAt Tryd.prog qbf
def qwl:Kp:=⟨[0,1,2,3,4,8,10,11,12,13],false,[0,4,12]⟩
def qe7 (k:Nat):Kp × ACode:=(qwl,part qpw.body k)
theorem qpx (M:Mac) (c:Ctx):(∀ Q E D H,W M c (qe7 0) true Q E D H =
 Lz E 3 fun g t3=>A3 g T__21 (AV.cells t3) H fun g t8 H1=>A3 g qz [.nils,(.int .u64 0),(.int .u64 0),(.int .u64 0),(.int .u64 0),(.int .u64 0),(.int .u64 0),(.int .u64 0),(.int .u64 0),(.int .i64 0),(.int .i64 0),(.bool false),(.int .i64 0)] H1 fun g t10 H2=>Ly g E 0 fun g t0=>Ly g E 2 fun g t2=>Ly g E 4 fun g t4=>C3 M g (.func qf9) [t0,t2,t4] H2 fun g t17 H3=>W M c (qe7 4) g Q ((12,t17)::(11,(.int .i64 0))::(10,t10)::(8,t8)::E) D H3) /\
 (∀ Q E D H,W M c (qe7 4) true Q E D H =
  Lz E 12 fun g t12=>B3 g ((Op.un .not) [t12]) fun g t19=>JN (fun (k:Bool->AV->AV->AHeap->Prop)=>B3 g (wantV false (some t19)) fun g w=>IG3 g w (fun g=>Ly g E 1 fun g t1=>Bn g .lss t1 (.int .i64 0) fun g t22=>k g t22 t1 H) (fun g=>k g uu uu H)) (fun g t22_1 t21_1 H1=>B3 g (Op.pick [t19,(.bool true),t22_1]) fun g t23=>JN (fun (k:Bool->AV->AV->AV->AV->AHeap->Prop)=>B3 g (wantV false (some t23)) fun g w=>IG3 g w (fun g=>Ly g E 1 fun g t1_1=>Ly g E 0 fun g t0=>B3 g (Op.lenSl [t0]) fun g t27=>Bn g .geq t1_1 t27 fun g t28=>k g t28 t27 t0 t1_1 H1) (fun g=>k g uu uu uu uu H1)) (fun g t28_1 t27_1 t26_1 t25_1 H2=>B3 g (Op.pick [t23,(.bool true),t28_1]) fun g t29=>JN (fun (k:Bool->AV->AV->AV->AV->AV->AV->AHeap->Prop)=>B3 g (wantV false (some t29)) fun g w=>IG3 g w (fun g=>Ly g E 0 fun g t0_1=>Ly g E 1 fun g t1_2=>B3 g ((Op.indexSl 3) [t0_1,t1_2]) fun g t33=>B3 g ((Op.fieldAddr 0) [t33]) fun g t34=>B3 g (Op.load1 [t34] H2) fun g t35=>Bn g .lss t35 (.int .i64 14) fun g t36=>k g t36 t35 t34 t33 t1_2 t0_1 H2) (fun g=>k g uu uu uu uu uu uu H2)) (fun g t36_1 t35_1 t34_1 t33_1 t32_1 t31_1 H3=>B3 g (Op.pick [t29,(.bool true),t36_1]) fun g t37=>IF3 g t37 (fun g=>B3 g ((Op.build [.nils,(.int .u64 0),(.int .u64 0),(.int .u64 0),(.int .u64 0),(.int .u64 0),(.int .u64 0),(.int .u64 0),(.int .u64 0),(.int .i64 0),(.int .i64 0),(.bool false),(.int .i64 0)] []) []) fun g t38=>Ly g E 10 fun g t10=>B32 g ((Op.store 13) [t10,t38] H3) fun g u H4=>GO3 g (SEQ3 (W M c (qe7 12)) Q) .ret ((11,(.int .i64 2))::E) D H4) (fun g=>Gt g M c (qe7 12) Q E D H3))))) /\
 (∀ Q E D H,W M c (qe7 12) true Q E D H =
  Lz E 2 fun g t2=>Ly g E 8 fun g t8=>B3 g ((Op.loadN 8) [t8] H) fun g t42=>Ly g E 4 fun g t4=>B32 g ((Op.buildSlice jp 0 [(.int .u64 0)] []) []) fun g o1 k1=>B32 g ((Op.append jp 1 8) [(k1 H.next),t2] (H.alloc o1)) fun g t41 H2=>CK3 g ((Op.loadN 8) [t8] H2) (some t42) fun g=>B3 g ((Op.build [.nils,(.int .u64 0),(.int .u64 0),(.int .u64 0),(.int .u64 0),(.int .u64 0),(.int .u64 0),(.int .u64 0),(.int .u64 0),(.int .i64 0),(.int .i64 0),(.bool false),(.int .i64 0)] [(0,1),(1,8),(9,1)]) [t41,t42,t4]) fun g t44=>A3 g qz [.nils,(.int .u64 0),(.int .u64 0),(.int .u64 0),(.int .u64 0),(.int .u64 0),(.int .u64 0),(.int .u64 0),(.int .u64 0),(.int .i64 0),(.int .i64 0),(.bool false),(.int .i64 0)] H2 fun g t13 H3=>B32 g ((Op.store 13) [t13,t44] H3) fun g u H4=>Ly g E 0 fun g t0=>Ly g E 1 fun g t1=>C3 M g (.func yd) [t0,t1,t13,(.bool false)] H4 fun g t47 H5=>B3 g ((Op.loadN 13) [t13] H5) fun g t48=>Ly g E 10 fun g t10=>B32 g ((Op.store 13) [t10,t48] H5) fun g u_1 H6=>GO3 g Q .ret ((11,(.int .i64 0))::(13,t13)::E) D H6):=by (repeat' apply And.intro)<;>(intro _ _ _ _;refine W_unf ?_;kernel_rfl)
theorem q4a:(cProg Tryd.prog).func qbf=some qpw/\qpw.results=[.cellN 13 10,.tmp 11]:=x9 (by kernel_rfl)
theorem q4b (h:W M ⟨none,qbf⟩ (qe7 0) true (FIN3 M [.cellN 13 10,.tmp 11] Q) [(0,a0),(1,a1),(2,a2),(3,a3),(4,a4)] [] H):kx M qbf [a0,a1,a2,a3,a4] H Q:=callf (by decide) q4a (ks:=qwl) (by kernel_rfl) h
def qnx:AFunc:=funcAt Tryd.prog qgj
def qtn:Kp:=⟨[0,1,2,3,4],false,[0]⟩
def qto (k:Nat):Kp × ACode:=(qtn,part qnx.body k)
theorem qtp (M:Mac) (c:Ctx):(∀ Q E D H,W M c (qto 0) true Q E D H =
 Lz E 0 fun g t0=>A3 g vy (AV.cells t0) H fun g t2 H1=>Ly g E 1 fun g t1=>A3 g qz (AV.cells t1) H1 fun g t3 H2=>Fl g 0 t2 H2 fun g t6=>Fl g 0 t3 H2 fun g t8=>C3 M g (.func qd6) [t6,t8] H2 fun g t9 H3=>JN (fun (k:Bool->AV->AV->AV->AV->AV->AHeap->Prop)=>B3 g (wantV true (some t9)) fun g w=>IG3 g w (fun g=>B3 g ((Op.fieldAddr 1) [t2]) fun g t11=>B3 g ((Op.loadN 8) [t11] H3) fun g t12=>B3 g ((Op.fieldAddr 1) [t3]) fun g t13=>B3 g ((Op.loadN 8) [t13] H3) fun g t14=>B3 g ((Op.eq (.agg (.part 0 none .int (.part 1 none .int (.part 2 none .int (.part 3 none .int (.part 4 none .int (.part 5 none .int (.part 6 none .int (.part 7 none .int .nil))))))))) false) [t12,t14] H3) fun g t15=>k g t15 t14 t13 t12 t11 H3) (fun g=>k g uu uu uu uu uu H3)) (fun g t15_1 t14_1 t13_1 t12_1 t11_1 H4=>B3 g (Op.pick [t9,t15_1,(.bool false)]) fun g t16=>JN (fun (k:Bool->AV->AV->AV->AHeap->Prop)=>B3 g (wantV true (some t16)) fun g w=>IG3 g w (fun g=>B3 g ((Op.fieldAddr 9) [t2]) fun g t18=>B3 g (Op.load1 [t18] H4) fun g t19=>Bn g .eql t19 (.int .i64 0) fun g t20=>k g t20 t19 t18 H4) (fun g=>k g uu uu uu H4)) (fun g t20_1 t19_1 t18_1 H5=>B3 g (Op.pick [t16,t20_1,(.bool false)]) fun g t21=>JN (fun (k:Bool->AV->AV->AV->AV->AV->AHeap->Prop)=>B3 g (wantV true (some t21)) fun g w=>IG3 g w (fun g=>B3 g ((Op.fieldAddr 10) [t2]) fun g t23=>B3 g (Op.load1 [t23] H5) fun g t24=>B3 g ((Op.fieldAddr 9) [t3]) fun g t25=>B3 g (Op.load1 [t25] H5) fun g t26=>Bn g .eql t24 t26 fun g t27=>k g t27 t26 t25 t24 t23 H5) (fun g=>k g uu uu uu uu uu H5)) (fun g t27_1 t26_1 t25_1 t24_1 t23_1 H6=>B3 g (Op.pick [t21,t27_1,(.bool false)]) fun g t28=>JN (fun (k:Bool->AV->AV->AV->AV->AV->AHeap->Prop)=>B3 g (wantV true (some t28)) fun g w=>IG3 g w (fun g=>B3 g ((Op.fieldAddr 11) [t2]) fun g t30=>B3 g (Op.load1 [t30] H6) fun g t31=>B3 g ((Op.fieldAddr 10) [t3]) fun g t32=>B3 g (Op.load1 [t32] H6) fun g t33=>Bn g .eql t31 t33 fun g t34=>k g t34 t33 t32 t31 t30 H6) (fun g=>k g uu uu uu uu uu H6)) (fun g t34_1 t33_1 t32_1 t31_1 t30_1 H7=>B3 g (Op.pick [t28,t34_1,(.bool false)]) fun g t35=>JN (fun (k:Bool->AV->AV->AV->AV->AV->AHeap->Prop)=>B3 g (wantV true (some t35)) fun g w=>IG3 g w (fun g=>B3 g ((Op.fieldAddr 12) [t2]) fun g t37=>B3 g (Op.load1 [t37] H7) fun g t38=>B3 g ((Op.fieldAddr 12) [t3]) fun g t39=>B3 g (Op.load1 [t39] H7) fun g t40=>Bn g .eql t38 t40 fun g t41=>k g t41 t40 t39 t38 t37 H7) (fun g=>k g uu uu uu uu uu H7)) (fun g t41_1 t40_1 t39_1 t38_1 t37_1 H8=>B3 g (Op.pick [t35,t41_1,(.bool false)]) fun g t42=>GO3 g Q .ret ((4,t42)::(4,(.bool false))::(3,t3)::(2,t2)::E) D H8)))))):=by intro _ _ _ _;refine W_unf ?_;kernel_rfl
theorem q2l:(cProg Tryd.prog).func qgj=some qnx/\qnx.results=[.tmp 4]:=x9 (by kernel_rfl)
theorem q2m (h:W M ⟨none,qgj⟩ (qto 0) true (FIN3 M [.tmp 4] Q) [(0,a0),(1,a1)] [] H):kx M qgj [a0,a1] H Q:=callf (by decide) q2l (ks:=qtn) (by kernel_rfl) h
def qpv:AFunc:=funcAt Tryd.prog qf9
def qwj:Kp:=⟨[0,1,2,6,8],false,[0]⟩
def qwk (k:Nat):Kp × ACode:=(qwj,part qpv.body k)
theorem qhv (M:Mac) (c:Ctx):(∀ Q E D H,W M c (qwk 0) true Q E D H =
 Lz E 0 fun g t0=>C3 M g (.func yh) [t0] H fun g t11 H1=>B3 g ((Op.extract 0) [t11]) fun g t12=>B3 g ((Op.extract 1) [t11]) fun g t13=>Bn g .eql t13 (.int .i64 0) fun g t15=>JN (fun (k:Bool->AV->AV->AV->AHeap->Prop)=>B3 g (wantV true (some t15)) fun g w=>IG3 g w (fun g=>Ly g E 1 fun g t1=>B3 g (Op.lenSl [t1]) fun g t18=>Bn g .leq t18 (.int .i64 4096) fun g t19=>k g t19 t18 t1 H1) (fun g=>k g uu uu uu H1)) (fun g t19_1 t18_1 t17_1 H2=>B3 g (Op.pick [t15,t19_1,(.bool false)]) fun g t20=>JN (fun (k:Bool->AV->AV->AHeap->Prop)=>B3 g (wantV true (some t20)) fun g w=>IG3 g w (fun g=>Ly g E 2 fun g t2=>Bn g .geq t2 (.int .i64 0) fun g t23=>k g t23 t2 H2) (fun g=>k g uu uu H2)) (fun g t23_1 t22_1 H3=>B3 g (Op.pick [t20,t23_1,(.bool false)]) fun g t24=>JN (fun (k:Bool->AV->AV->AHeap->Prop)=>B3 g (wantV true (some t24)) fun g w=>IG3 g w (fun g=>Ly g E 2 fun g t2_1=>Bn g .leq t2_1 (.int .i64 1048576) fun g t27=>k g t27 t2_1 H3) (fun g=>k g uu uu H3)) (fun g t27_1 t26_1 H4=>B3 g (Op.pick [t24,t27_1,(.bool false)]) fun g t28=>GO3 g Q .ret ((6,t28)::(8,t13)::(6,(.bool false))::E) D H4)))):=by intro _ _ _ _;refine W_unf ?_;kernel_rfl
theorem q38:(cProg Tryd.prog).func qf9=some qpv/\qpv.results=[.tmp 6]:=x9 (by kernel_rfl)
theorem q39 (h:W M ⟨none,qf9⟩ (qwk 0) true (FIN3 M [.tmp 6] Q) [(0,a0),(1,a1),(2,a2)] [] H):kx M qf9 [a0,a1,a2] H Q:=callf (by decide) q38 (ks:=qwj) (by kernel_rfl) h
def qmn:AFunc:=funcAt Tryd.prog yw
def qq7:Kp:=⟨[0,1,2,6,7,8,9,10,11,12,13,82],false,[0,4,12,20,22,26,34,38,40,48,64,76,83,88,94,101,102]⟩
def xk (k:Nat):Kp × ACode:=(qq7,part qmn.body k)
theorem qeb (M:Mac) (c:Ctx):(∀ Q E D H,W M c (xk 0) true Q E D H =
 Lz E 0 fun g t0=>Ly g E 1 fun g t1=>B3 g ((Op.indexSl 3) [t0,t1]) fun g t16=>B3 g ((Op.loadN 3) [t16] H) fun g t17=>A3 g qj [(.int .i64 0),(.int .u64 0),.nils] H fun g t8 H1=>B32 g ((Op.store 3) [t8,t17] H1) fun g u H2=>W M c (xk 4) g Q ((8,t8)::(7,(.bool false))::(6,(.int .u64 0))::E) D H2) /\
 (∀ Q E D H,W M c (xk 4) true Q E D H =
  Lz E 8 fun g t8=>Fl g 0 t8 H fun g t19=>Cb g .eql t19 (.int .i64 1) (fun g=>Ly g E 8 fun g t8_1=>Fl g 1 t8_1 H fun g t22=>GO3 g (SEQ3 (W M c (xk 12)) Q) .ret ((7,(.bool true))::(6,t22)::E) D H) (fun g=>Gt g M c (xk 12) Q E D H)) /\
 (∀ Q E D H,W M c (xk 12) true Q E D H =
  Lz E 8 fun g t8=>Fl g 0 t8 H fun g t24=>Cb g .eql t24 (.int .i64 2) (fun g=>Ly g E 2 fun g t2=>Ly g E 8 fun g t8_1=>Fl g 1 t8_1 H fun g t28=>B3 g (Op.nilCheck [t2]) fun g t29=>B3 g ((Op.fieldAddr 1) [t29]) fun g t30=>B3 g ((Op.indexArr 8 1) [t30,t28]) fun g t31=>B3 g (Op.load1 [t31] H) fun g t32=>GO3 g (SEQ3 (W M c (xk 20)) Q) .ret ((7,(.bool true))::(6,t32)::E) D H) (fun g=>Gt g M c (xk 20) Q E D H)) /\
 (∀ Q E D H,W M c (xk 20) true Q E D H =
  Lz E 0 fun g t0=>Ly g E 8 fun g t8=>Fl g 2 t8 H fun g t36=>Xl g t36 (.int .i64 0) H fun g t38=>Ly g E 2 fun g t2=>C3 M g (.func yw) [t0,t38,t2] H fun g t40 H1=>B3 g ((Op.extract 0) [t40]) fun g t41=>B3 g ((Op.extract 1) [t40]) fun g t42=>W M c (xk 22) g Q ((10,t42)::(9,t41)::E) D H1) /\
 (∀ Q E D H,W M c (xk 22) true Q E D H =
  Lz E 8 fun g t8=>Fl g 0 t8 H fun g t44=>Cb g .eql t44 (.int .i64 3) (fun g=>W M c (xk 26) g (SEQ3 (W M c (xk 38)) Q) E D H) (fun g=>Gt g M c (xk 38) Q E D H)) /\
 (∀ Q E D H,W M c (xk 38) true Q E D H =
  Lz E 0 fun g t0=>Ly g E 8 fun g t8=>Fl g 2 t8 H fun g t68=>Xl g t68 (.int .i64 1) H fun g t70=>Ly g E 2 fun g t2=>C3 M g (.func yw) [t0,t70,t2] H fun g t72 H1=>B3 g ((Op.extract 0) [t72]) fun g t73=>B3 g ((Op.extract 1) [t72]) fun g t74=>W M c (xk 40) g Q ((12,t74)::(11,t73)::E) D H1) /\
 (∀ Q E D H,W M c (xk 26) true Q E D H =
  Lz E 10 fun g t10=>B3 g ((Op.un .not) [t10]) fun g t47=>JN (fun (k:Bool->AV->AV->AV->AV->AV->AV->AV->AV->AHeap->Prop)=>B3 g (wantV false (some t47)) fun g w=>IG3 g w (fun g=>Ly g E 9 fun g t9=>Ly g E 2 fun g t2=>B3 g (Op.nilCheck [t2]) fun g t51=>B3 g ((Op.fieldAddr 0) [t51]) fun g t52=>B3 g (Op.load1 [t52] H) fun g t53=>B3 g (Op.lenSl [t53]) fun g t54=>B3 g ((Op.wrap .u64) [t54]) fun g t55=>Bn g .geq t9 t55 fun g t56=>k g t56 t55 t54 t53 t52 t51 t2 t9 H) (fun g=>k g uu uu uu uu uu uu uu uu H)) (fun g t56_1 t55_1 t54_1 t53_1 t52_1 t51_1 t50_1 t49_1 H1=>B3 g (Op.pick [t47,(.bool true),t56_1]) fun g t57=>IF3 g t57 (fun g=>GO3 g (SEQ3 (W M c (xk 34)) Q) .ret ((7,(.bool false))::(6,(.int .u64 0))::E) D H1) (fun g=>Gt g M c (xk 34) Q E D H1))) /\
 (∀ Q E D H,W M c (xk 40) true Q E D H =
  Lz E 10 fun g t10=>B3 g ((Op.un .not) [t10]) fun g t76=>JN (fun (k:Bool->AV->AV->AHeap->Prop)=>B3 g (wantV false (some t76)) fun g w=>IG3 g w (fun g=>Ly g E 12 fun g t12=>B3 g ((Op.un .not) [t12]) fun g t79=>k g t79 t12 H) (fun g=>k g uu uu H)) (fun g t79_1 t78_1 H1=>B3 g (Op.pick [t76,(.bool true),t79_1]) fun g t80=>IF3 g t80 (fun g=>GO3 g (SEQ3 (W M c (xk 48)) Q) .ret ((7,(.bool false))::(6,(.int .u64 0))::E) D H1) (fun g=>Gt g M c (xk 48) Q E D H1))) /\
 (∀ Q E D H,W M c (xk 34) true Q E D H =
  Lz E 2 fun g t2=>Nf g 0 t2 H fun g t61=>Ly g E 9 fun g t9=>Xl g t61 t9 H fun g t64=>GO3 g Q .ret ((7,(.bool true))::(6,t64)::E) D H) /\
 (∀ Q E D H,W M c (xk 48) true Q E D H =
  Lz E 8 fun g t8=>Fl g 0 t8 H fun g t82=>Cb g .eql t82 (.int .i64 4) (fun g=>Ly g E 9 fun g t9=>Ly g E 11 fun g t11=>Bn g .add t9 t11 fun g t87=>GO3 g (BLK3 0 (SEQ3 (W M c (xk 83)) Q)) .ret ((7,(.bool true))::(6,t87)::(82,t82)::E) D H) (fun g=>Cb g .eql t82 (.int .i64 5) (fun g=>Ly g E 9 fun g t9=>Ly g E 11 fun g t11=>Bn g .sub t9 t11 fun g t92=>GO3 g (BLK3 0 (SEQ3 (W M c (xk 83)) Q)) .ret ((7,(.bool true))::(6,t92)::(82,t82)::E) D H) (fun g=>W M c (xk 64) g (BLK3 0 (SEQ3 (W M c (xk 83)) Q)) ((82,t82)::E) D H))) /\
 (∀ Q E D H,W M c (xk 83) true Q E D H =
  LOOP3 (W M c (xk 88)) (BLK3 1 (SEQ3 (W M c (xk 102)) Q)) ((13,(.int .u64 0))::E) D H) /\
 (∀ Q E D H,W M c (xk 64) true Q E D H =
  Lz E 82 fun g t82=>Cb g .eql t82 (.int .i64 6) (fun g=>Ly g E 9 fun g t9=>Ly g E 11 fun g t11=>Bn g .mul t9 t11 fun g t97=>GO3 g Q .ret ((7,(.bool true))::(6,t97)::E) D H) (fun g=>Ly g E 82 fun g t82_1=>Cb g .eql t82_1 (.int .i64 7) (fun g=>Ly g E 9 fun g t9=>Ly g E 11 fun g t11=>Bn g .and t9 t11 fun g t102=>GO3 g Q .ret ((7,(.bool true))::(6,t102)::E) D H) (fun g=>W M c (xk 76) g Q E D H))) /\
 (∀ Q E D H,W M c (xk 102) true Q E D H =
  Lz E 9 fun g t9=>GO3 g Q .ret ((7,(.bool true))::(6,t9)::E) D H) /\
 (∀ Q E D H,W M c (xk 88) true Q E D H =
  Lz E 13 fun g t13=>Ly g E 11 fun g t11=>Bn g .rem t11 (.int .u64 64) fun g t110=>Cb g .lss t13 t110 (fun g=>Gt g M c (xk 94) Q E D H) (fun g=>GO3 g (SEQ3 (W M c (xk 94)) Q) (.exit 1) E D H)) /\
 (∀ Q E D H,W M c (xk 76) true Q E D H =
  Lz E 82 fun g t82=>Cb g .eql t82 (.int .i64 8) (fun g=>Ly g E 9 fun g t9=>Ly g E 11 fun g t11=>Bn g .xor t9 t11 fun g t107=>GO3 g Q .ret ((7,(.bool true))::(6,t107)::E) D H) (fun g=>GO3 g Q .normal E D H)) /\
 (∀ Q E D H,W M c (xk 94) true Q E D H =
  Lz E 8 fun g t8=>Fl g 0 t8 H fun g t115=>Cb g .eql t115 (.int .i64 9) (fun g=>Ly g E 9 fun g t9=>Bn g .mul t9 (.int .u64 2) fun g t118=>GO3 g (BLK3 2 (SEQ3 (W M c (xk 101)) Q)) .normal ((9,t118)::E) D H) (fun g=>Ly g E 9 fun g t9=>Bn g .quo t9 (.int .u64 2) fun g t120=>GO3 g (BLK3 2 (SEQ3 (W M c (xk 101)) Q)) .normal ((9,t120)::E) D H)) /\
 (∀ Q E D H,W M c (xk 101) true Q E D H =
  Lz E 13 fun g t13=>Bn g .add t13 (.int .u64 1) fun g t113=>GO3 g Q .normal ((13,t113)::E) D H):=by (repeat' apply And.intro)<;>(intro _ _ _ _;refine W_unf ?_;kernel_rfl)
theorem qzy:(cProg Tryd.prog).func yw=some qmn/\qmn.results=[.tmp 6,.tmp 7]:=x9 (by kernel_rfl)
theorem qi8 (h:W M ⟨none,yw⟩ (xk 0) true (FIN3 M [.tmp 6,.tmp 7] Q) [(0,a0),(1,a1),(2,a2)] [] H):kx M yw [a0,a1,a2] H Q:=callf (by decide) qzy (ks:=qq7) (by kernel_rfl) h
def qsp:AFunc:=funcAt Tryd.prog yd
def qx4:Kp:=⟨[0,1,2,3,8,9,10,11,12,13,14,15,16,17,18,19,89],false,[0,2,6,11,17,20,21,23,27,30,36,39,45,47,53,59,60,62,64,70,78,86,90,95,100,106,112,120,124,133]⟩
def xb (k:Nat):Kp × ACode:=(qx4,part qsp.body k)
theorem qfs (M:Mac) (c:Ctx):(∀ Q E D H,W M c (xb 0) true Q E D H =
 Lz E 0 fun g t0=>Ly g E 1 fun g t1=>B3 g ((Op.indexSl 3) [t0,t1]) fun g t22=>B3 g ((Op.loadN 3) [t22] H) fun g t23=>A3 g qj [(.int .i64 0),(.int .u64 0),.nils] H fun g t8 H1=>B32 g ((Op.store 3) [t8,t23] H1) fun g u H2=>W M c (xb 2) g Q ((8,t8)::E) D H2) /\
 (∀ Q E D H,W M c (xb 2) true Q E D H =
  Lz E 8 fun g t8=>Fl g 0 t8 H fun g t25=>Cb g .eql t25 (.int .i64 20) (fun g=>W M c (xb 6) g (SEQ3 (W M c (xb 23)) Q) E D H) (fun g=>Gt g M c (xb 23) Q E D H)) /\
 (∀ Q E D H,W M c (xb 23) true Q E D H =
  Lz E 8 fun g t8=>Fl g 0 t8 H fun g t48=>Cb g .eql t48 (.int .i64 17) (fun g=>W M c (xb 27) g (SEQ3 (W M c (xb 62)) Q) E D H) (fun g=>Gt g M c (xb 62) Q E D H)) /\
 (∀ Q E D H,W M c (xb 6) true Q E D H =
  LOOP3 (W M c (xb 11)) (BLK3 0 (SEQ3 (W M c (xb 21)) Q)) ((9,(.int .i64 0))::E) D H) /\
 (∀ Q E D H,W M c (xb 62) true Q E D H =
  Lz E 2 fun g t2=>C3 M g (.func qbg) [t2] H fun g t82 H1=>W M c (xb 64) g Q E D H1) /\
 (∀ Q E D H,W M c (xb 27) true Q E D H =
  LOOP3 (W M c (xb 30)) (BLK3 2 (SEQ3 (W M c (xb 60)) Q)) E D H) /\
 (∀ Q E D H,W M c (xb 21) true Q E D H =
  GO3 true Q .ret E D H) /\
 (∀ Q E D H,W M c (xb 11) true Q E D H =
  Lz E 9 fun g t9=>Ly g E 8 fun g t8=>Fl g 2 t8 H fun g t29=>B3 g (Op.lenSl [t29]) fun g t30=>Bn g .lss t9 t30 fun g t31=>JN (fun (k:Bool->AV->AV->AHeap->Prop)=>B3 g (wantV true (some t31)) fun g w=>IG3 g w (fun g=>Ly g E 2 fun g t2=>C3 M g (.func qb6) [t2] H fun g t34 H1=>k g t34 t2 H1) (fun g=>k g uu uu H)) (fun g t34_1 t33_1 H2=>B3 g (Op.pick [t31,t34_1,(.bool false)]) fun g t35=>IF3 g t35 (fun g=>Gt g M c (xb 17) Q E D H2) (fun g=>GO3 g (SEQ3 (W M c (xb 17)) Q) (.exit 0) E D H2))) /\
 (∀ Q E D H,W M c (xb 64) true Q E D H =
  Lz E 2 fun g t2=>Nf g 12 t2 H fun g t86=>Cb g .neq t86 (.int .i64 0) (fun g=>GO3 g (SEQ3 (W M c (xb 70)) Q) .ret E D H) (fun g=>Gt g M c (xb 70) Q E D H)) /\
 (∀ Q E D H,W M c (xb 60) true Q E D H =
  GO3 true Q .ret E D H) /\
 (∀ Q E D H,W M c (xb 30) true Q E D H =
  Lz E 2 fun g t2=>C3 M g (.func qb6) [t2] H fun g t51 H1=>IF3 g t51 (fun g=>Gt g M c (xb 36) Q E D H1) (fun g=>GO3 g (SEQ3 (W M c (xb 36)) Q) (.exit 2) E D H1)) /\
 (∀ Q E D H,W M c (xb 17) true Q E D H =
  Lz E 0 fun g t0=>Ly g E 8 fun g t8=>Fl g 2 t8 H fun g t40=>Ly g E 9 fun g t9=>Xl g t40 t9 H fun g t43=>Ly g E 2 fun g t2=>Ly g E 3 fun g t3=>C3 M g (.func yd) [t0,t43,t2,t3] H fun g t46 H1=>GO3 g (BLK3 1 (SEQ3 (W M c (xb 20)) Q)) .normal E D H1) /\
 (∀ Q E D H,W M c (xb 70) true Q E D H =
  Lz E 8 fun g t8=>Fl g 0 t8 H fun g t89=>Cb g .eql t89 (.int .i64 14) (fun g=>Ly g E 0 fun g t0=>Ly g E 8 fun g t8_1=>Fl g 2 t8_1 H fun g t95=>Xl g t95 (.int .i64 0) H fun g t97=>Ly g E 2 fun g t2=>C3 M g (.func yw) [t0,t97,t2] H fun g t99 H1=>B3 g ((Op.extract 0) [t99]) fun g t100=>B3 g ((Op.extract 1) [t99]) fun g t101=>W M c (xb 78) g (BLK3 4 Q) ((12,t101)::(11,t100)::(89,t89)::E) D H1) (fun g=>Cb g .eql t89 (.int .i64 15) (fun g=>W M c (xb 86) g (BLK3 4 Q) ((89,t89)::E) D H) (fun g=>W M c (xb 95) g (BLK3 4 Q) ((89,t89)::E) D H))) /\
 (∀ Q E D H,W M c (xb 36) true Q E D H =
  Lz E 2 fun g t2=>C3 M g (.func qbg) [t2] H fun g t53 H1=>W M c (xb 39) g (BLK3 3 Q) E D H1) /\
 (∀ Q E D H,W M c (xb 20) true Q E D H =
  Lz E 9 fun g t9=>Bn g .add t9 (.int .i64 1) fun g t37=>GO3 g Q .normal ((9,t37)::E) D H) /\
 (∀ Q E D H,W M c (xb 78) true Q E D H =
  Lz E 12 fun g t12=>IF3 g t12 (fun g=>Ly g E 2 fun g t2=>Ly g E 8 fun g t8=>Fl g 1 t8 H fun g t105=>Ly g E 11 fun g t11=>B3 g (Op.nilCheck [t2]) fun g t107=>B3 g ((Op.fieldAddr 1) [t107]) fun g t108=>B3 g ((Op.indexArr 8 1) [t108,t105]) fun g t109=>B32 g ((Op.store 1) [t109,t11] H) fun g u H1=>GO3 g Q .normal E D H1) (fun g=>Ly g E 2 fun g t2=>Ns g 12 t2 (.int .i64 111) H fun g u H1=>GO3 g Q .normal E D H1)) /\
 (∀ Q E D H,W M c (xb 86) true Q E D H =
  Lz E 0 fun g t0=>Ly g E 8 fun g t8=>Fl g 2 t8 H fun g t118=>Xl g t118 (.int .i64 0) H fun g t120=>Ly g E 2 fun g t2=>C3 M g (.func yw) [t0,t120,t2] H fun g t122 H1=>B3 g ((Op.extract 0) [t122]) fun g t123=>B3 g ((Op.extract 1) [t122]) fun g t124=>Ly g E 0 fun g t0_1=>Ly g E 8 fun g t8_1=>Fl g 2 t8_1 H1 fun g t128=>Xl g t128 (.int .i64 1) H1 fun g t130=>Ly g E 2 fun g t2_1=>C3 M g (.func yw) [t0_1,t130,t2_1] H1 fun g t132 H2=>B3 g ((Op.extract 0) [t132]) fun g t133=>B3 g ((Op.extract 1) [t132]) fun g t134=>W M c (xb 90) g Q ((16,t134)::(15,t133)::(14,t124)::(13,t123)::E) D H2) /\
 (∀ Q E D H,W M c (xb 95) true Q E D H =
  Lz E 89 fun g t89=>Cb g .eql t89 (.int .i64 16) (fun g=>Ly g E 0 fun g t0=>Ly g E 8 fun g t8=>Fl g 2 t8 H fun g t163=>Xl g t163 (.int .i64 0) H fun g t165=>Ly g E 2 fun g t2=>C3 M g (.func qgk) [t0,t165,t2] H fun g t167 H1=>W M c (xb 100) g Q ((17,t167)::E) D H1) (fun g=>Ly g E 89 fun g t89_1=>Cb g .eql t89_1 (.int .i64 18) (fun g=>W M c (xb 120) g Q E D H) (fun g=>W M c (xb 133) g Q E D H))) /\
 (∀ Q E D H,W M c (xb 39) true Q E D H =
  Lz E 2 fun g t2=>Nf g 12 t2 H fun g t57=>Cb g .neq t57 (.int .i64 0) (fun g=>GO3 g (SEQ3 (W M c (xb 45)) Q) .ret E D H) (fun g=>Gt g M c (xb 45) Q E D H)) /\
 (∀ Q E D H,W M c (xb 90) true Q E D H =
  Lz E 14 fun g t14=>JN (fun (k:Bool->AV->AHeap->Prop)=>B3 g (wantV true (some t14)) fun g w=>IG3 g w (fun g=>Ly g E 16 fun g t16=>k g t16 H) (fun g=>k g uu H)) (fun g t137_1 H1=>B3 g (Op.pick [t14,t137_1,(.bool false)]) fun g t138=>JN (fun (k:Bool->AV->AV->AV->AV->AV->AV->AV->AV->AHeap->Prop)=>B3 g (wantV true (some t138)) fun g w=>IG3 g w (fun g=>Ly g E 13 fun g t13=>Ly g E 2 fun g t2=>B3 g (Op.nilCheck [t2]) fun g t142=>B3 g ((Op.fieldAddr 0) [t142]) fun g t143=>B3 g (Op.load1 [t143] H1) fun g t144=>B3 g (Op.lenSl [t144]) fun g t145=>B3 g ((Op.wrap .u64) [t145]) fun g t146=>Bn g .lss t13 t146 fun g t147=>k g t147 t146 t145 t144 t143 t142 t2 t13 H1) (fun g=>k g uu uu uu uu uu uu uu uu H1)) (fun g t147_1 t146_1 t145_1 t144_1 t143_1 t142_1 t141_1 t140_1 H2=>B3 g (Op.pick [t138,t147_1,(.bool false)]) fun g t148=>IF3 g t148 (fun g=>Ly g E 2 fun g t2_1=>Nf g 0 t2_1 H2 fun g t152=>Ly g E 13 fun g t13_1=>Ly g E 15 fun g t15=>Xs g t152 t13_1 t15 H2 fun g u H3=>GO3 g Q .normal E D H3) (fun g=>Ly g E 2 fun g t2_1=>Ns g 12 t2_1 (.int .i64 111) H2 fun g u H3=>GO3 g Q .normal E D H3)))) /\
 (∀ Q E D H,W M c (xb 100) true Q E D H =
  Lz E 17 fun g t17=>Cb g .lss t17 (.int .i64 0) (fun g=>Ly g E 2 fun g t2=>Ns g 12 t2 (.int .i64 111) H fun g u H1=>Gt g M c (xb 106) Q E D H1) (fun g=>Gt g M c (xb 106) Q E D H)) /\
 (∀ Q E D H,W M c (xb 120) true Q E D H =
  B32 true ((Op.buildSlice jp 0 [(.int .u64 0)] []) []) fun g o1 k1=>Ly g E 2 fun g t2=>Nf g 0 t2 (H.alloc o1) fun g t205=>B32 g ((Op.append jp 1 8) [(k1 H.next),t205] (H.alloc o1)) fun g t206 H2=>Ly g E 2 fun g t2_1=>B3 g (Op.nilCheck [t2_1]) fun g t208=>B3 g ((Op.fieldAddr 1) [t208]) fun g t209=>B3 g ((Op.loadN 8) [t209] H2) fun g t210=>A3 g T__21 [(.int .u64 0),(.int .u64 0),(.int .u64 0),(.int .u64 0),(.int .u64 0),(.int .u64 0),(.int .u64 0),(.int .u64 0)] H2 fun g t19 H3=>B32 g ((Op.store 8) [t19,t210] H3) fun g u H4=>W M c (xb 124) g Q ((19,t19)::(18,t206)::E) D H4) /\
 (∀ Q E D H,W M c (xb 133) true Q E D H =
  Lz E 89 fun g t89=>Cb g .eql t89 (.int .i64 19) (fun g=>Ly g E 3 fun g t3=>IF3 g t3 (fun g=>Ly g E 2 fun g t2=>Ns g 12 t2 (.int .i64 111) H fun g u H1=>GO3 g Q .normal E D H1) (fun g=>Ly g E 2 fun g t2=>Ns g 11 t2 (.bool true) H fun g u H1=>GO3 g Q .normal E D H1)) (fun g=>GO3 g Q .normal E D H)) /\
 (∀ Q E D H,W M c (xb 45) true Q E D H =
  Lz E 0 fun g t0=>Ly g E 8 fun g t8=>Fl g 2 t8 H fun g t61=>Xl g t61 (.int .i64 0) H fun g t63=>Ly g E 2 fun g t2=>C3 M g (.func qgk) [t0,t63,t2] H fun g t65 H1=>W M c (xb 47) g Q ((10,t65)::E) D H1) /\
 (∀ Q E D H,W M c (xb 106) true Q E D H =
  Lz E 17 fun g t17=>Cb g .eql t17 (.int .i64 1) (fun g=>Ly g E 0 fun g t0=>Ly g E 8 fun g t8=>Fl g 2 t8 H fun g t177=>Xl g t177 (.int .i64 1) H fun g t179=>Ly g E 2 fun g t2=>Ly g E 3 fun g t3=>C3 M g (.func yd) [t0,t179,t2,t3] H fun g t182 H1=>Gt g M c (xb 112) Q E D H1) (fun g=>Gt g M c (xb 112) Q E D H)) /\
 (∀ Q E D H,W M c (xb 124) true Q E D H =
  Lz E 0 fun g t0=>Ly g E 8 fun g t8=>Fl g 2 t8 H fun g t213=>Xl g t213 (.int .i64 0) H fun g t215=>Ly g E 2 fun g t2=>C3 M g (.func yd) [t0,t215,t2,(.bool true)] H fun g t217 H1=>Ly g E 2 fun g t2_1=>Nf g 12 t2_1 H1 fun g t221=>Cb g .neq t221 (.int .i64 0) (fun g=>Ly g E 2 fun g t2_2=>Ly g E 18 fun g t18=>Ns g 0 t2_2 t18 H1 fun g u H2=>Ly g E 2 fun g t2_3=>Ly g E 19 fun g t19=>B3 g ((Op.loadN 8) [t19] H2) fun g t228=>B3 g (Op.nilCheck [t2_3]) fun g t229=>B3 g ((Op.fieldAddr 1) [t229]) fun g t230=>B32 g ((Op.store 8) [t230,t228] H2) fun g u_1 H3=>GO3 g Q .normal E D H3) (fun g=>Ly g E 2 fun g t2_2=>Nf g 10 t2_2 H1 fun g t234=>Bn g .add t234 (.int .i64 1) fun g t235=>Ns g 10 t2_2 t235 H1 fun g u H2=>GO3 g Q .normal E D H2)) /\
 (∀ Q E D H,W M c (xb 47) true Q E D H =
  Lz E 10 fun g t10=>Cb g .lss t10 (.int .i64 0) (fun g=>Ly g E 2 fun g t2=>Ns g 12 t2 (.int .i64 111) H fun g u H1=>Gt g M c (xb 53) Q E D H1) (fun g=>Gt g M c (xb 53) Q E D H)) /\
 (∀ Q E D H,W M c (xb 112) true Q E D H =
  Lz E 17 fun g t17=>Bn g .eql t17 (.int .i64 0) fun g t184=>JN (fun (k:Bool->AV->AV->AV->AV->AHeap->Prop)=>B3 g (wantV true (some t184)) fun g w=>IG3 g w (fun g=>Ly g E 8 fun g t8=>B3 g ((Op.fieldAddr 2) [t8]) fun g t186=>B3 g (Op.load1 [t186] H) fun g t187=>B3 g (Op.lenSl [t187]) fun g t188=>Bn g .eql t188 (.int .i64 3) fun g t189=>k g t189 t188 t187 t186 H) (fun g=>k g uu uu uu uu H)) (fun g t189_1 t188_1 t187_1 t186_1 H1=>B3 g (Op.pick [t184,t189_1,(.bool false)]) fun g t190=>IF3 g t190 (fun g=>Ly g E 0 fun g t0=>Ly g E 8 fun g t8_1=>Fl g 2 t8_1 H1 fun g t193=>Xl g t193 (.int .i64 2) H1 fun g t195=>Ly g E 2 fun g t2=>Ly g E 3 fun g t3=>C3 M g (.func yd) [t0,t195,t2,t3] H1 fun g t198 H2=>GO3 g Q .normal E D H2) (fun g=>GO3 g Q .normal E D H1))) /\
 (∀ Q E D H,W M c (xb 53) true Q E D H =
  Lz E 10 fun g t10=>Cb g .neq t10 (.int .i64 1) (fun g=>GO3 g (SEQ3 (W M c (xb 59)) Q) .ret E D H) (fun g=>Gt g M c (xb 59) Q E D H)) /\
 (∀ Q E D H,W M c (xb 59) true Q E D H =
  Lz E 0 fun g t0=>Ly g E 8 fun g t8=>Fl g 2 t8 H fun g t75=>Xl g t75 (.int .i64 1) H fun g t77=>Ly g E 2 fun g t2=>Ly g E 3 fun g t3=>C3 M g (.func yd) [t0,t77,t2,t3] H fun g t80 H1=>GO3 g Q .normal E D H1):=by (repeat' apply And.intro)<;>(intro _ _ _ _;refine W_unf ?_;kernel_rfl)
theorem q7n:(cProg Tryd.prog).func yd=some qsp/\qsp.results=[]:=x9 (by kernel_rfl)
theorem qsq (h:W M ⟨none,yd⟩ (xb 0) true (FIN3 M [] Q) [(0,a0),(1,a1),(2,a2),(3,a3)] [] H):kx M yd [a0,a1,a2,a3] H Q:=callf (by decide) q7n (ks:=qx4) (by kernel_rfl) h
def qik:AFunc:=funcAt Tryd.prog qb6
def qmw:Kp:=⟨[0,2],false,[0]⟩
def qmx (k:Nat):Kp × ACode:=(qmw,part qik.body k)
theorem qmy (M:Mac) (c:Ctx):(∀ Q E D H,W M c (qmx 0) true Q E D H =
 Lz E 0 fun g t0=>Nf g 11 t0 H fun g t6=>B3 g ((Op.un .not) [t6]) fun g t7=>JN (fun (k:Bool->AV->AV->AV->AV->AV->AHeap->Prop)=>B3 g (wantV true (some t7)) fun g w=>IG3 g w (fun g=>B3 g (Op.nilCheck [t0]) fun g t10=>B3 g ((Op.fieldAddr 12) [t10]) fun g t11=>B3 g (Op.load1 [t11] H) fun g t12=>Bn g .eql t12 (.int .i64 0) fun g t13=>k g t13 t12 t11 t10 t0 H) (fun g=>k g uu uu uu uu uu H)) (fun g t13_1 t12_1 t11_1 t10_1 t9_1 H1=>B3 g (Op.pick [t7,t13_1,(.bool false)]) fun g t14=>GO3 g Q .ret ((2,t14)::(2,(.bool false))::E) D H1)):=by intro _ _ _ _;refine W_unf ?_;kernel_rfl
theorem qt2:(cProg Tryd.prog).func qb6=some qik/\qik.results=[.tmp 2]:=x9 (by kernel_rfl)
theorem qt3 (h:W M ⟨none,qb6⟩ (qmx 0) true (FIN3 M [.tmp 2] Q) [(0,a0)] [] H):kx M qb6 [a0] H Q:=callf (by decide) qt2 (ks:=qmw) (by kernel_rfl) h
def qhw:AFunc:=funcAt Tryd.prog qbg
def qlt:Kp:=⟨[0],false,[0]⟩
def qlu (k:Nat):Kp × ACode:=(qlt,part qhw.body k)
theorem qlv (M:Mac) (c:Ctx):(∀ Q E D H,W M c (qlu 0) true Q E D H =
 Lz E 0 fun g t0=>Nf g 9 t0 H fun g t5=>Cb g .eql t5 (.int .i64 0) (fun g=>Ly g E 0 fun g t0_1=>Ns g 12 t0_1 (.int .i64 190) H fun g u H1=>GO3 g Q .normal E D H1) (fun g=>Ly g E 0 fun g t0_1=>Nf g 9 t0_1 H fun g t13=>Bn g .sub t13 (.int .i64 1) fun g t14=>Ns g 9 t0_1 t14 H fun g u H1=>GO3 g Q .normal E D H1)):=by intro _ _ _ _;refine W_unf ?_;kernel_rfl
theorem qsr:(cProg Tryd.prog).func qbg=some qhw/\qhw.results=[]:=x9 (by kernel_rfl)
theorem qss (h:W M ⟨none,qbg⟩ (qlu 0) true (FIN3 M [] Q) [(0,a0)] [] H):kx M qbg [a0] H Q:=callf (by decide) qsr (ks:=qlt) (by kernel_rfl) h
def qst:AFunc:=funcAt Tryd.prog qgk
def qx5:Kp:=⟨[0,1,2,6,7,8,9,10,11],false,[0,4,8,16,24]⟩
def qdb (k:Nat):Kp × ACode:=(qx5,part qst.body k)
theorem q7q (M:Mac) (c:Ctx):(∀ Q E D H,W M c (qdb 0) true Q E D H =
 Lz E 0 fun g t0=>Ly g E 1 fun g t1=>B3 g ((Op.indexSl 3) [t0,t1]) fun g t14=>B3 g ((Op.loadN 3) [t14] H) fun g t15=>A3 g qj [(.int .i64 0),(.int .u64 0),.nils] H fun g t7 H1=>B32 g ((Op.store 3) [t7,t15] H1) fun g u H2=>W M c (qdb 4) g Q ((7,t7)::(6,(.int .i64 0))::E) D H2) /\
 (∀ Q E D H,W M c (qdb 4) true Q E D H =
  Lz E 0 fun g t0=>Ly g E 7 fun g t7=>Fl g 2 t7 H fun g t19=>Xl g t19 (.int .i64 0) H fun g t21=>Ly g E 2 fun g t2=>C3 M g (.func yw) [t0,t21,t2] H fun g t23 H1=>B3 g ((Op.extract 0) [t23]) fun g t24=>B3 g ((Op.extract 1) [t23]) fun g t25=>Ly g E 0 fun g t0_1=>Ly g E 7 fun g t7_1=>Fl g 2 t7_1 H1 fun g t29=>Xl g t29 (.int .i64 1) H1 fun g t31=>Ly g E 2 fun g t2_1=>C3 M g (.func yw) [t0_1,t31,t2_1] H1 fun g t33 H2=>B3 g ((Op.extract 0) [t33]) fun g t34=>B3 g ((Op.extract 1) [t33]) fun g t35=>W M c (qdb 8) g Q ((11,t35)::(10,t34)::(9,t25)::(8,t24)::E) D H2) /\
 (∀ Q E D H,W M c (qdb 8) true Q E D H =
  Lz E 9 fun g t9=>B3 g ((Op.un .not) [t9]) fun g t37=>JN (fun (k:Bool->AV->AV->AHeap->Prop)=>B3 g (wantV false (some t37)) fun g w=>IG3 g w (fun g=>Ly g E 11 fun g t11=>B3 g ((Op.un .not) [t11]) fun g t40=>k g t40 t11 H) (fun g=>k g uu uu H)) (fun g t40_1 t39_1 H1=>B3 g (Op.pick [t37,(.bool true),t40_1]) fun g t41=>IF3 g t41 (fun g=>GO3 g (SEQ3 (W M c (qdb 16)) Q) .ret ((6,(.int .i64 (-1)))::E) D H1) (fun g=>Gt g M c (qdb 16) Q E D H1))) /\
 (∀ Q E D H,W M c (qdb 16) true Q E D H =
  Lz E 7 fun g t7=>Fl g 0 t7 H fun g t43=>Bn g .eql t43 (.int .i64 11) fun g t44=>JN (fun (k:Bool->AV->AV->AV->AHeap->Prop)=>B3 g (wantV true (some t44)) fun g w=>IG3 g w (fun g=>Ly g E 8 fun g t8=>Ly g E 10 fun g t10=>Bn g .eql t8 t10 fun g t48=>k g t48 t10 t8 H) (fun g=>k g uu uu uu H)) (fun g t48_1 t47_1 t46_1 H1=>B3 g (Op.pick [t44,t48_1,(.bool false)]) fun g t49=>JN (fun (k:Bool->AV->AV->AV->AV->AHeap->Prop)=>B3 g (wantV false (some t49)) fun g w=>IG3 g w (fun g=>B3 g ((Op.fieldAddr 0) [t7]) fun g t51=>B3 g (Op.load1 [t51] H1) fun g t52=>Bn g .eql t52 (.int .i64 12) fun g t53=>k g t53 t53 t52 t51 H1) (fun g=>k g uu uu uu uu H1)) (fun g t54_1 t53_1 t52_1 t51_1 H2=>JN (fun (k:Bool->AV->AV->AV->AHeap->Prop)=>B3 g (wantV true (some t54_1)) fun g w=>IG3 g w (fun g=>Ly g E 8 fun g t8_1=>Ly g E 10 fun g t10_1=>Bn g .neq t8_1 t10_1 fun g t57=>k g t57 t10_1 t8_1 H2) (fun g=>k g uu uu uu H2)) (fun g t57_1 t56_1 t55_1 H3=>JN (fun (k:Bool->AV->AHeap->Prop)=>B3 g (wantV false (some t49)) fun g w=>IG3 g w (fun g=>B3 g (Op.pick [t54_1,t57_1,(.bool false)]) fun g t58=>k g t58 H3) (fun g=>k g uu H3)) (fun g t58_1 H4=>B3 g (Op.pick [t49,(.bool true),t58_1]) fun g t59=>JN (fun (k:Bool->AV->AV->AV->AV->AHeap->Prop)=>B3 g (wantV false (some t59)) fun g w=>IG3 g w (fun g=>B3 g ((Op.fieldAddr 0) [t7]) fun g t61=>B3 g (Op.load1 [t61] H4) fun g t62=>Bn g .eql t62 (.int .i64 13) fun g t63=>k g t63 t63 t62 t61 H4) (fun g=>k g uu uu uu uu H4)) (fun g t64_1 t63_1 t62_1 t61_1 H5=>JN (fun (k:Bool->AV->AV->AV->AHeap->Prop)=>B3 g (wantV true (some t64_1)) fun g w=>IG3 g w (fun g=>Ly g E 8 fun g t8_2=>Ly g E 10 fun g t10_2=>Bn g .lss t8_2 t10_2 fun g t67=>k g t67 t10_2 t8_2 H5) (fun g=>k g uu uu uu H5)) (fun g t67_1 t66_1 t65_1 H6=>JN (fun (k:Bool->AV->AHeap->Prop)=>B3 g (wantV false (some t59)) fun g w=>IG3 g w (fun g=>B3 g (Op.pick [t64_1,t67_1,(.bool false)]) fun g t68=>k g t68 H6) (fun g=>k g uu H6)) (fun g t68_1 H7=>B3 g (Op.pick [t59,(.bool true),t68_1]) fun g t69=>IF3 g t69 (fun g=>GO3 g (SEQ3 (W M c (qdb 24)) Q) .ret ((6,(.int .i64 1))::E) D H7) (fun g=>Gt g M c (qdb 24) Q E D H7))))))))) /\
 (∀ Q E D H,W M c (qdb 24) true Q E D H =
  GO3 true Q .ret ((6,(.int .i64 0))::E) D H):=by (repeat' apply And.intro)<;>(intro _ _ _ _;refine W_unf ?_;kernel_rfl)
theorem q7o:(cProg Tryd.prog).func qgk=some qst/\qst.results=[.tmp 6]:=x9 (by kernel_rfl)
theorem q7p (h:W M ⟨none,qgk⟩ (qdb 0) true (FIN3 M [.tmp 6] Q) [(0,a0),(1,a1),(2,a2)] [] H):kx M qgk [a0,a1,a2] H Q:=callf (by decide) q7o (ks:=qx5) (by kernel_rfl) h
end
end Go.Am
namespace Go.Am
abbrev qaf:Nat:=83
abbrev jj:Nat:=25
noncomputable section
variable (AP:Mac)
def qdi:List AStep:=[⟨false,none,none,[.tmp 4,.const (.int .i64 0)],.eff (Op.store 1),(some [])⟩]
def qg4:ACode:=.seq (.region qdi) .ret
def qdh:List AStep:=[⟨false,(some 6),none,[.tmp 1],.pure Op.move,(some [])⟩,
 ⟨false,(some 7),none,[.tmp 6],.callV,(some [])⟩]
def qg3:ACode:=.seq (.region qdh) qg4
def qdg:List AStep:=[⟨false,(some 5),none,[.tmp 4],.pure (Op.mkFunc qaf 0),(some [])⟩,
 ⟨false,none,none,[.tmp 5],.defer,(some [])⟩]
def qg2:ACode:=.seq (.region qdg) qg3
def qdf:List AStep:=[⟨false,(some 4),none,[],.alloc (Op.alloc jj [(.int .i64 0)]),(some [])⟩]
def qnn:ACode:=.seq (.region qdf) qg2
def qo6:AFunc:=⟨[.cell1 4],qnn,[]⟩
theorem qlr (ctx:Ctx) (tm:T AV) (dfs:List ADef) (up:Option Chain) (H:AHeap) (Q:Post) :
 WP AP ctx qg4 ⟨tm,dfs,up,H⟩ Q =
 (GS AP dirty ctx qdi ⟨tm,dfs,up,H⟩ (SEQ (WP AP ctx .ret) Q)):=Gxrseq AP ctx _ _ qdi .ret
theorem qiu (ctx:Ctx) (tm:T AV) (dfs:List ADef) (up:Option Chain) (H:AHeap) (Q:Post) :
 GS AP true ctx qdi ⟨tm,dfs,up,H⟩ Q =
 (LK dirty (tm.get 4) fun g ti4=>BI2 g ((Op.store 1) [ti4,(.int .i64 0)] H) fun g t_u H1 =>
 GO g Q .normal ⟨tm,dfs,up,H1⟩):=qb8 (l:=qdi) (by kernel_rfl)
theorem qlq (ctx:Ctx) (tm:T AV) (dfs:List ADef) (up:Option Chain) (H:AHeap) (Q:Post) :
 WP AP ctx qg3 ⟨tm,dfs,up,H⟩ Q =
 (GS AP dirty ctx qdh ⟨tm,dfs,up,H⟩ (SEQ (WP AP ctx qg4) Q)):=Gxrseq AP ctx _ _ qdh qg4
theorem qit (ctx:Ctx) (tm:T AV) (dfs:List ADef) (up:Option Chain) (H:AHeap) (Q:Post) :
 GS AP true ctx qdh ⟨tm,dfs,up,H⟩ Q =
 (LK dirty (tm.get 1) fun g ti1=>BI g (Op.move [ti1]) fun g t6=>VI g [t6] fun g f vs=>CA AP g f vs H (fun g t7 H1 =>
 GO g Q .normal ⟨(setsE [(7,t7),(6,t6)] tm),dfs,up,H1⟩) (PAN (some []) (setsE [(6,t6)] tm) dfs up Q)):=qb8 (l:=qdh) (by kernel_rfl)
theorem qlp (ctx:Ctx) (tm:T AV) (dfs:List ADef) (up:Option Chain) (H:AHeap) (Q:Post) :
 WP AP ctx qg2 ⟨tm,dfs,up,H⟩ Q =
 (GS AP dirty ctx qdg ⟨tm,dfs,up,H⟩ (SEQ (WP AP ctx qg3) Q)):=Gxrseq AP ctx _ _ qdg qg3
theorem qis (ctx:Ctx) (tm:T AV) (dfs:List ADef) (up:Option Chain) (H:AHeap) (Q:Post) :
 GS AP true ctx qdg ⟨tm,dfs,up,H⟩ Q =
 (LK dirty (tm.get 4) fun g ti4=>BI g ((Op.mkFunc qaf 0) [ti4]) fun g t5=>DF g ctx [t5] dfs fun g dfs1=>GO g Q .normal ⟨(setsE [(5,t5)] tm),dfs1,up,H⟩):=qb8 (l:=qdg) (by kernel_rfl)
theorem qlo (ctx:Ctx) (tm:T AV) (dfs:List ADef) (up:Option Chain) (H:AHeap) (Q:Post) :
 WP AP ctx qnn ⟨tm,dfs,up,H⟩ Q =
 (GS AP dirty ctx qdf ⟨tm,dfs,up,H⟩ (SEQ (WP AP ctx qg2) Q)):=Gxrseq AP ctx _ _ qdf qg2
theorem qir (ctx:Ctx) (tm:T AV) (dfs:List ADef) (up:Option Chain) (H:AHeap) (Q:Post) :
 GS AP true ctx qdf ⟨tm,dfs,up,H⟩ Q =
 (BI2 dirty ((Op.alloc jj [(.int .i64 0)]) []) fun g o1 mk1=>GO g Q .normal ⟨(setsE [(4,(mk1 H.next))] tm),dfs,up,(H.alloc o1)⟩):=qb8 (l:=qdf) (by kernel_rfl)
def qcg:List AStep:=[⟨false,(some 1),none,[.tmp 4],.pure Op.move,(some [])⟩]
def qfm:ACode:=.region qcg
def qcj:List AStep:=[⟨false,(some 10),none,[.tmp 2],.pure (Op.fieldAddr 0),(some [])⟩,
 ⟨false,(some 11),none,[.tmp 10],.read Op.load1,(some [])⟩,
 ⟨false,none,none,[.tmp 0,.tmp 11],.eff (Op.store 1),(some [])⟩]
def qfq:ACode:=.region qcj
def qci:List AStep:=[⟨false,(some 2),none,[],.alloc (Op.alloc kg [(.int .i64 0)]),(some [])⟩,
 ⟨false,none,none,[.tmp 2,.tmp 9],.eff (Op.store 1),(some [])⟩]
def qfp:ACode:=.seq (.region qci) qfq
def qbt:List AStep:=[⟨false,(some 5),none,[.tmp 3],.pure Op.move,(some [])⟩,
 ⟨false,none,none,[.tmp 5],.panic,(some [])⟩]
def qew:ACode:=.region qbt
def qbs:List AStep:=[⟨false,(some 3),none,[.tmp 4],.pure Op.move,(some [])⟩]
def qev:ACode:=.seq (.region qbs) qew
def qfo:ACode:=.cond (.tmp 8) qfp qev
def qch:List AStep:=[⟨false,(some 7),none,[.tmp 4],.pure (Op.typeAssert kg true (.agg [(.int .i64 0)])),(some [])⟩,
 ⟨false,(some 8),none,[.tmp 7],.pure (Op.extract 1),(some [])⟩,
 ⟨false,(some 9),none,[.tmp 7],.pure (Op.extract 0),(some [])⟩]
def qfn:ACode:=.seq (.region qch) qfo
def qfl:ACode:=.cond (.tmp 6) qfm qfn
def qcf:List AStep:=[⟨false,(some 6),none,[.tmp 4,.const .nili],.read (Op.eq .iface false),(some [])⟩]
def qfk:ACode:=.seq (.region qcf) qfl
def qfj:ACode:=.block 0 qfk
def qce:List AStep:=[⟨false,(some 4),none,[],.recover,(some [])⟩]
def qln:ACode:=.seq (.region qce) qfj
def qii:AFunc:=⟨[],qln,[]⟩
theorem qjv (ctx:Ctx) (tm:T AV) (dfs:List ADef) (up:Option Chain) (H:AHeap) (Q:Post) :
 WP AP ctx qfm ⟨tm,dfs,up,H⟩ Q =
 (GS AP dirty ctx qcg ⟨tm,dfs,up,H⟩ Q):=qyh AP ctx _ _ qcg
theorem qhd (ctx:Ctx) (tm:T AV) (dfs:List ADef) (up:Option Chain) (H:AHeap) (Q:Post) :
 GS AP true ctx qcg ⟨tm,dfs,up,H⟩ Q =
 (LK dirty (tm.get 4) fun g ti4=>BI g (Op.move [ti4]) fun g t1=>GO g Q .normal ⟨(setsE [(1,t1)] tm),dfs,up,H⟩):=qb8 (l:=qcg) (by kernel_rfl)
theorem qjz (ctx:Ctx) (tm:T AV) (dfs:List ADef) (up:Option Chain) (H:AHeap) (Q:Post) :
 WP AP ctx qfq ⟨tm,dfs,up,H⟩ Q =
 (GS AP dirty ctx qcj ⟨tm,dfs,up,H⟩ Q):=qyh AP ctx _ _ qcj
theorem qhg (ctx:Ctx) (tm:T AV) (dfs:List ADef) (up:Option Chain) (H:AHeap) (Q:Post) :
 GS AP true ctx qcj ⟨tm,dfs,up,H⟩ Q =
 (LK dirty (tm.get 2) fun g ti2=>BI g ((Op.fieldAddr 0) [ti2]) fun g t10=>BI g (Op.load1 [t10] H) fun g t11=>LK g (tm.get 0) fun g ti0=>BI2 g ((Op.store 1) [ti0,t11] H) fun g t_u H1 =>
 GO g Q .normal ⟨(setsE [(11,t11),(10,t10)] tm),dfs,up,H1⟩):=qb8 (l:=qcj) (by kernel_rfl)
theorem qjy (ctx:Ctx) (tm:T AV) (dfs:List ADef) (up:Option Chain) (H:AHeap) (Q:Post) :
 WP AP ctx qfp ⟨tm,dfs,up,H⟩ Q =
 (GS AP dirty ctx qci ⟨tm,dfs,up,H⟩ (SEQ (WP AP ctx qfq) Q)):=Gxrseq AP ctx _ _ qci qfq
theorem qhf (ctx:Ctx) (tm:T AV) (dfs:List ADef) (up:Option Chain) (H:AHeap) (Q:Post) :
 GS AP true ctx qci ⟨tm,dfs,up,H⟩ Q =
 (BI2 dirty ((Op.alloc kg [(.int .i64 0)]) []) fun g o1 mk1=>LK g (tm.get 9) fun g ti9=>BI2 g ((Op.store 1) [(mk1 H.next),ti9] (H.alloc o1)) fun g t_u H2 =>
 GO g Q .normal ⟨(setsE [(2,(mk1 H.next))] tm),dfs,up,H2⟩):=qb8 (l:=qci) (by kernel_rfl)
theorem qiq (ctx:Ctx) (tm:T AV) (dfs:List ADef) (up:Option Chain) (H:AHeap) (Q:Post) :
 WP AP ctx qew ⟨tm,dfs,up,H⟩ Q =
 (GS AP dirty ctx qbt ⟨tm,dfs,up,H⟩ Q):=qyh AP ctx _ _ qbt
theorem qg1 (ctx:Ctx) (tm:T AV) (dfs:List ADef) (up:Option Chain) (H:AHeap) (Q:Post) :
 GS AP true ctx qbt ⟨tm,dfs,up,H⟩ Q =
 (LK dirty (tm.get 3) fun g ti3=>BI g (Op.move [ti3]) fun g t5=>PANICK [t5] H (PAN (some []) (setsE [(5,t5)] tm) dfs up Q)):=qb8 (l:=qbt) (by kernel_rfl)
theorem qip (ctx:Ctx) (tm:T AV) (dfs:List ADef) (up:Option Chain) (H:AHeap) (Q:Post) :
 WP AP ctx qev ⟨tm,dfs,up,H⟩ Q =
 (GS AP dirty ctx qbs ⟨tm,dfs,up,H⟩ (SEQ (WP AP ctx qew) Q)):=Gxrseq AP ctx _ _ qbs qew
theorem qg0 (ctx:Ctx) (tm:T AV) (dfs:List ADef) (up:Option Chain) (H:AHeap) (Q:Post) :
 GS AP true ctx qbs ⟨tm,dfs,up,H⟩ Q =
 (LK dirty (tm.get 4) fun g ti4=>BI g (Op.move [ti4]) fun g t3=>GO g Q .normal ⟨(setsE [(3,t3)] tm),dfs,up,H⟩):=qb8 (l:=qbs) (by kernel_rfl)
theorem qjx (ctx:Ctx) (tm:T AV) (dfs:List ADef) (up:Option Chain) (H:AHeap) (Q:Post) :
 WP AP ctx qfo ⟨tm,dfs,up,H⟩ Q =
 (BI dirty (tm.get 8) fun g v=>BI g (asBool v) fun g q=>IG g q (fun g=>GW AP g ctx qfp ⟨tm,dfs,up,H⟩ Q) (fun g=>GW AP g ctx qev ⟨tm,dfs,up,H⟩ Q)):=Gxcond AP ctx _ _ 8 qfp qev
theorem qjw (ctx:Ctx) (tm:T AV) (dfs:List ADef) (up:Option Chain) (H:AHeap) (Q:Post) :
 WP AP ctx qfn ⟨tm,dfs,up,H⟩ Q =
 (GS AP dirty ctx qch ⟨tm,dfs,up,H⟩ (SEQ (WP AP ctx qfo) Q)):=Gxrseq AP ctx _ _ qch qfo
theorem qhe (ctx:Ctx) (tm:T AV) (dfs:List ADef) (up:Option Chain) (H:AHeap) (Q:Post) :
 GS AP true ctx qch ⟨tm,dfs,up,H⟩ Q =
 (LK dirty (tm.get 4) fun g ti4=>BI g ((Op.typeAssert kg true (.agg [(.int .i64 0)])) [ti4]) fun g t7=>BI g ((Op.extract 1) [t7]) fun g t8=>BI g ((Op.extract 0) [t7]) fun g t9 =>
 GO g Q .normal ⟨(setsE [(9,t9),(8,t8),(7,t7)] tm),dfs,up,H⟩):=qb8 (l:=qch) (by kernel_rfl)
theorem qju (ctx:Ctx) (tm:T AV) (dfs:List ADef) (up:Option Chain) (H:AHeap) (Q:Post) :
 WP AP ctx qfl ⟨tm,dfs,up,H⟩ Q =
 (BI dirty (tm.get 6) fun g v=>BI g (asBool v) fun g q=>IG g q (fun g=>GW AP g ctx qfm ⟨tm,dfs,up,H⟩ Q) (fun g=>GW AP g ctx qfn ⟨tm,dfs,up,H⟩ Q)):=Gxcond AP ctx _ _ 6 qfm qfn
theorem qjt (ctx:Ctx) (tm:T AV) (dfs:List ADef) (up:Option Chain) (H:AHeap) (Q:Post) :
 WP AP ctx qfk ⟨tm,dfs,up,H⟩ Q =
 (GS AP dirty ctx qcf ⟨tm,dfs,up,H⟩ (SEQ (WP AP ctx qfl) Q)):=Gxrseq AP ctx _ _ qcf qfl
theorem qhc (ctx:Ctx) (tm:T AV) (dfs:List ADef) (up:Option Chain) (H:AHeap) (Q:Post) :
 GS AP true ctx qcf ⟨tm,dfs,up,H⟩ Q =
 (LK dirty (tm.get 4) fun g ti4=>BI g ((Op.eq .iface false) [ti4,.nili] H) fun g t6=>GO g Q .normal ⟨(setsE [(6,t6)] tm),dfs,up,H⟩):=qb8 (l:=qcf) (by kernel_rfl)
theorem qjs (ctx:Ctx) (tm:T AV) (dfs:List ADef) (up:Option Chain) (H:AHeap) (Q:Post) :
 WP AP ctx qfj ⟨tm,dfs,up,H⟩ Q =
 (WP AP ctx qfk ⟨tm,dfs,up,H⟩ (BLK 0 Q)):=WP_block AP ctx _ _ 0 qfk
theorem qjr (ctx:Ctx) (tm:T AV) (dfs:List ADef) (up:Option Chain) (H:AHeap) (Q:Post) :
 WP AP ctx qln ⟨tm,dfs,up,H⟩ Q =
 (GS AP dirty ctx qce ⟨tm,dfs,up,H⟩ (SEQ (WP AP ctx qfj) Q)):=Gxrseq AP ctx _ _ qce qfj
theorem qhb (ctx:Ctx) (tm:T AV) (dfs:List ADef) (up:Option Chain) (H:AHeap) (Q:Post) :
 GS AP true ctx qce ⟨tm,dfs,up,H⟩ Q =
 (RC dirty ctx up fun g t4 up1=>GO g Q .normal ⟨(setsE [(4,t4)] tm),dfs,up1,H⟩):=qb8 (l:=qce) (by kernel_rfl)
end
open Go.Proofs Go.Proofs.YtbimikjajohflaaDoor
theorem qvr:(cProg Tryd.prog).func qei=some qo6:=by kernel_rfl
theorem qlm:(cProg Tryd.prog).func qaf=some qii:=by kernel_rfl
end Go.Am
