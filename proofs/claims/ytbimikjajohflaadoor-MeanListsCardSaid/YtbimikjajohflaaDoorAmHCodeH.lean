/- CodeH: CodeS CodeLA CodeLB CodeMA CodeMF CodeML CodeMT. -/
import Derived.Test.YtbimikjajohflaaDoorAmHB4
import Derived.Test.YtbimikjajohflaaDoorAmHB1
import Derived.KernelRfl
import Derived.Test.YtbimikjajohflaaDoorRows
set_option linter.unusedVariables false
set_option maxRecDepth 100000
namespace Go.Am
abbrev xo:Nat:=136
abbrev xr:Nat:=147
abbrev xe:Nat:=141
abbrev qdo:Nat:=142
abbrev xu:Nat:=145
abbrev xv:Nat:=140
abbrev zf:Nat:=139
abbrev qlg:Nat:=30
abbrev jl:Nat:=146
abbrev z4:Nat:=127
abbrev zm:Nat:=97
abbrev x6:Nat:=98
abbrev xm:Nat:=42
abbrev xb:Nat:=94
abbrev xl:Nat:=122
abbrev z8:Nat:=126
abbrev q1e:Nat:=167
abbrev yw:Nat:=9
abbrev qbt:Nat:=5
abbrev xj:Nat:=1
def q1s:List UInt8:=[115,116,114,105,110,103,115,46,66,117,105,108,100,101,114,46,71,114,111,119,58,32,110,101,103,97,116,105,118,101,32,99,111,117,110,116]
def qp1:List UInt8:=[48,49,50,51,52,53,54,55,56,57,97,98,99,100,101,102,103,104,105,106,107,108,109,110,111,112,113,114,115,116,117,118,119,120,121,122]
def ja:List UInt8:=[48,48,48,49,48,50,48,51,48,52,48,53,48,54,48,55,48,56,48,57,49,48,49,49,49,50,49,51,49,52,49,53,49,54,49,55,49,56,49,57,50,48,50,49,50,50,50,51,50,52,50,53,50,54,50,55,50,56,50,57,51,48,51,49,51,50,51,51,51,52,51,53,51,54,51,55,51,56,51,57,52,48,52,49,52,50,52,51,52,52,52,53,52,54,52,55,52,56,52,57,53,48,53,49,53,50,53,51,53,52,53,53,53,54,53,55,53,56,53,57,54,48,54,49,54,50,54,51,54,52,54,53,54,54,54,55,54,56,54,57,55,48,55,49,55,50,55,51,55,52,55,53,55,54,55,55,55,56,55,57,56,48,56,49,56,50,56,51,56,52,56,53,56,54,56,55,56,56,56,57,57,48,57,49,57,50,57,51,57,52,57,53,57,54,57,55,57,56,57,57]
def ql3:List UInt8:=[0,1,2,2,3,3,3,3,4,4,4,4,4,4,4,4,5,5,5,5,5,5,5,5,5,5,5,5,5,5,5,5,6,6,6,6,6,6,6,6,6,6,6,6,6,6,6,6,6,6,6,6,6,6,6,6,6,6,6,6,6,6,6,6,7,7,7,7,7,7,7,7,7,7,7,7,7,7,7,7,7,7,7,7,7,7,7,7,7,7,7,7,7,7,7,7,7,7,7,7,7,7,7,7,7,7,7,7,7,7,7,7,7,7,7,7,7,7,7,7,7,7,7,7,7,7,7,7,8,8,8,8,8,8,8,8,8,8,8,8,8,8,8,8,8,8,8,8,8,8,8,8,8,8,8,8,8,8,8,8,8,8,8,8,8,8,8,8,8,8,8,8,8,8,8,8,8,8,8,8,8,8,8,8,8,8,8,8,8,8,8,8,8,8,8,8,8,8,8,8,8,8,8,8,8,8,8,8,8,8,8,8,8,8,8,8,8,8,8,8,8,8,8,8,8,8,8,8,8,8,8,8,8,8,8,8,8,8,8,8,8,8,8,8,8,8,8,8,8,8,8,8,8,8,8,8]
noncomputable section
open Go.Proofs Go.Proofs.YtbimikjajohflaaDoor
class MK (M:Mac):Prop where
 ok:∀ n,memN n [20,30] = false -> M.func n = (cProg Tryd.prog).func n
theorem MK.at {M:Mac} [h:MK M] {n:Nat} {F:AFunc} (hn:memN n [20,30] = false) (hF:(cProg Tryd.prog).func n = some F):M.func n = some F:=(h.ok n hn).trans hF
def vj:AFunc:=funcAt Tryd.prog z4
def qd5:Kp:=⟨[0,1,4],false,[0]⟩
def qdz (k:Nat):Kp × ACode:=(qd5,part vj.body k)
theorem qd4 (M:Mac) (c:Ctx):(∀ Q E D H,W M c (qdz 0) true Q E D H =
 LK true (lk E 0) fun g t0=>LK g (lk E 1) fun g t1=>C3 M g (.func xo) [t0,t1] H fun g t7 H1=>GO3 g Q .ret ((4,t7)::(4,(.str []))::E) D H1):=by intro _ _ _ _; refine W_unf ?_; kernel_rfl
theorem qd0:(cProg Tryd.prog).func z4 = some vj /\ vj.results = [.tmp 4]:=xf (by kernel_rfl)
theorem qim {M:Mac} [MK M]:M.func z4 = some vj:=MK.at (by decide) qd0.1
theorem qjv {M:Mac} [MK M] {a0 a1:AV} {H:AHeap} {Q:AEnd -> AHeap -> Prop} (h:W M ⟨none,z4⟩ (qdz 0) true (FIN3 M [.tmp 4] Q) [(0,a0),(1,a1)] [] H):CALLE M z4 [a0,a1] H Q :=
 calle qim (ks:=qd5) (by kernel_rfl) (by rw [qd0.2]; exact h)
def yp:AFunc:=funcAt Tryd.prog zm
def qc1:Kp:=⟨[0,1],false,[0,2,8]⟩
def z7 (k:Nat):Kp × ACode:=(qc1,part yp.body k)
theorem yq (M:Mac) (c:Ctx):(∀ Q E D H,W M c (z7 0) true Q E D H =
 LK true (lk E 0) fun g t0=>C3 M g (.func xl) [t0] H fun g t5 H1=>W M c (z7 2) g Q E D H1) /\
 (∀ Q E D H,W M c (z7 2) true Q E D H =
  LK true (lk E 1) fun g t1=>B3 g ((Op.bin .lss) [t1,(.int .i64 0)]) fun g t7=>IF3 g t7 (fun g=>B3 g ((Op.mkIface yw) [(.str q1s)]) fun g t8=>False) (fun g=>GO3 g (SEQ3 (W M c (z7 8)) Q) .normal E D H)) /\
 (∀ Q E D H,W M c (z7 8) true Q E D H =
  LK true (lk E 0) fun g t0=>B3 g (Op.nilCheck [t0]) fun g t10=>B3 g ((Op.fieldAddr 1) [t10]) fun g t11=>B3 g (Op.load1 [t11] H) fun g t12=>B3 g (Op.cap [t12]) fun g t13=>B3 g (Op.nilCheck [t0]) fun g t15=>B3 g ((Op.fieldAddr 1) [t15]) fun g t16=>B3 g (Op.load1 [t16] H) fun g t17=>B3 g (Op.lenSl [t17]) fun g t18=>B3 g ((Op.bin .sub) [t13,t18]) fun g t19=>LK g (lk E 1) fun g t1=>B3 g ((Op.bin .lss) [t19,t1]) fun g t21=>IF3 g t21 (fun g=>LK g (lk E 0) fun g t0_1=>LK g (lk E 1) fun g t1_1=>C3 M g (.func z8) [t0_1,t1_1] H fun g t24 H1=>GO3 g Q .normal E D H1) (fun g=>GO3 g Q .normal E D H)):=by (repeat' apply And.intro)<;>(intro _ _ _ _; refine W_unf ?_; kernel_rfl)
theorem qcy:(cProg Tryd.prog).func zm = some yp /\ yp.results = []:=xf (by kernel_rfl)
theorem qhw {M:Mac} [MK M]:M.func zm = some yp:=MK.at (by decide) qcy.1
theorem qh5 {M:Mac} [MK M] {a0 a1:AV} {H:AHeap} {Q:AEnd -> AHeap -> Prop} (h:W M ⟨none,zm⟩ (z7 0) true (FIN3 M [] Q) [(0,a0),(1,a1)] [] H):CALLE M zm [a0,a1] H Q :=
 calle qhw (ks:=qc1) (by kernel_rfl) (by rw [qcy.2]; exact h)
def jg:AFunc:=funcAt Tryd.prog xb
def wu:Kp:=⟨[0,1,4,5],false,[0]⟩
def wg (k:Nat):Kp × ACode:=(wu,part jg.body k)
theorem k9 (M:Mac) (c:Ctx):(∀ Q E D H,W M c (wg 0) true Q E D H =
 LK true (lk E 0) fun g t0=>C3 M g (.func xl) [t0] H fun g t7 H1=>LK g (lk E 0) fun g t0_1=>B3 g (Op.nilCheck [t0_1]) fun g t10=>B3 g ((Op.fieldAddr 1) [t10]) fun g t11=>B3 g (Op.load1 [t11] H1) fun g t12=>LK g (lk E 1) fun g t1=>B32 g ((Op.append qbt 1 1) [t12,t1] H1) fun g t14 H2=>B3 g (Op.nilCheck [t0_1]) fun g t15=>B3 g ((Op.fieldAddr 1) [t15]) fun g t16=>B32 g ((Op.store 1) [t16,t14] H2) fun g u H3=>LK g (lk E 1) fun g t1_1=>B3 g (Op.lenStr [t1_1]) fun g t18=>GO3 g Q .ret ((5,.nili)::(4,t18)::(5,.nili)::(4,(.int .i64 0))::E) D H3):=by intro _ _ _ _; refine W_unf ?_; kernel_rfl
theorem wn:(cProg Tryd.prog).func xb = some jg /\ jg.results = [.tmp 4,.tmp 5]:=xf (by kernel_rfl)
theorem qdc {M:Mac} [MK M]:M.func xb = some jg:=MK.at (by decide) wn.1
theorem qdq {M:Mac} [MK M] {a0 a1:AV} {H:AHeap} {Q:AEnd -> AHeap -> Prop} (h:W M ⟨none,xb⟩ (wg 0) true (FIN3 M [.tmp 4,.tmp 5] Q) [(0,a0),(1,a1)] [] H):CALLE M xb [a0,a1] H Q :=
 calle qdc (ks:=wu) (by kernel_rfl) (by rw [wn.2]; exact h)
def kx:AFunc:=funcAt Tryd.prog xm
def qb2:Kp:=⟨[0,2],false,[0]⟩
def qb3 (k:Nat):Kp × ACode:=(qb2,part kx.body k)
theorem qbz (M:Mac) (c:Ctx):(∀ Q E D H,W M c (qb3 0) true Q E D H =
 LK true (lk E 0) fun g t0=>B3 g (Op.nilCheck [t0]) fun g t4=>B3 g ((Op.fieldAddr 1) [t4]) fun g t5=>B3 g (Op.load1 [t5] H) fun g t6=>B3 g (Op.sliceData [t6]) fun g t7=>B3 g (Op.nilCheck [t0]) fun g t9=>B3 g ((Op.fieldAddr 1) [t9]) fun g t10=>B3 g (Op.load1 [t10] H) fun g t11=>B3 g (Op.lenSl [t11]) fun g t12=>B32 g ((Op.strOfPtr qbt) [t7,t12] H) fun g t13 H1=>GO3 g Q .ret ((2,t13)::(2,(.str []))::E) D H1):=by intro _ _ _ _; refine W_unf ?_; kernel_rfl
theorem qb1:(cProg Tryd.prog).func xm = some kx /\ kx.results = [.tmp 2]:=xf (by kernel_rfl)
theorem qge {M:Mac} [MK M]:M.func xm = some kx:=MK.at (by decide) qb1.1
theorem qgx {M:Mac} [MK M] {a0:AV} {H:AHeap} {Q:AEnd -> AHeap -> Prop} (h:W M ⟨none,xm⟩ (qb3 0) true (FIN3 M [.tmp 2] Q) [(0,a0)] [] H):CALLE M xm [a0] H Q :=
 calle qge (ks:=qb2) (by kernel_rfl) (by rw [qb1.2]; exact h)
def yy:AFunc:=funcAt Tryd.prog x6
def qdd:Kp:=⟨[0,2],false,[0]⟩
def qdh (k:Nat):Kp × ACode:=(qdd,part yy.body k)
theorem qiz (M:Mac) (c:Ctx):(∀ Q E D H,W M c (qdh 0) true Q E D H =
 LK true (lk E 0) fun g t0=>B3 g (Op.nilCheck [t0]) fun g t4=>B3 g ((Op.fieldAddr 1) [t4]) fun g t5=>B3 g (Op.load1 [t5] H) fun g t6=>B3 g (Op.lenSl [t6]) fun g t7=>GO3 g Q .ret ((2,t7)::(2,(.int .i64 0))::E) D H):=by intro _ _ _ _; refine W_unf ?_; kernel_rfl
theorem qdg:(cProg Tryd.prog).func x6 = some yy /\ yy.results = [.tmp 2]:=xf (by kernel_rfl)
theorem qh9 {M:Mac} [MK M]:M.func x6 = some yy:=MK.at (by decide) qdg.1
theorem qiv {M:Mac} [MK M] {a0:AV} {H:AHeap} {Q:AEnd -> AHeap -> Prop} (h:W M ⟨none,x6⟩ (qdh 0) true (FIN3 M [.tmp 2] Q) [(0,a0)] [] H):CALLE M x6 [a0] H Q :=
 calle qh9 (ks:=qdd) (by kernel_rfl) (by rw [qdg.2]; exact h)
def je:AFunc:=funcAt Tryd.prog xo
def wo:Kp:=⟨[0,1,4,5,6,8],false,[0,2,6,14,24]⟩
def qp (k:Nat):Kp × ACode:=(wo,part je.body k)
theorem jf (M:Mac) (c:Ctx):(∀ Q E D H,W M c (qp 0) true Q E D H =
 W M c (qp 2) true Q ((4,(.str []))::E) D H) /\
 (∀ Q E D H,W M c (qp 2) true Q E D H =
  LK true (lk E 1) fun g t1=>B3 g ((Op.bin .eql) [t1,(.int .i64 10)]) fun g t10=>IF3 g t10 (fun g=>W M c (qp 6) g (SEQ3 (W M c (qp 24)) Q) E D H) (fun g=>GO3 g (SEQ3 (W M c (qp 24)) Q) .normal E D H)) /\
 (∀ Q E D H,W M c (qp 24) true Q E D H =
  LK true (lk E 0) fun g t0=>LK g (lk E 1) fun g t1=>C3 M g (.func qdo) [.nils,t0,t1,(.bool false),(.bool false)] H fun g t28 H1=>B3 g ((Op.extract 0) [t28]) fun g t29=>B3 g ((Op.extract 1) [t28]) fun g t30=>GO3 g Q .ret ((4,t30)::(8,t30)::E) D H1) /\
 (∀ Q E D H,W M c (qp 6) true Q E D H =
  LK true (lk E 0) fun g t0=>B3 g ((Op.bin .lss) [t0,(.int .u64 100)]) fun g t12=>IF3 g t12 (fun g=>LK g (lk E 0) fun g t0_1=>B3 g ((Op.wrap .i64) [t0_1]) fun g t14=>C3 M g (.func zf) [t14] H fun g t15 H1=>GO3 g (SEQ3 (W M c (qp 14)) Q) .ret ((4,t15)::E) D H1) (fun g=>GO3 g (SEQ3 (W M c (qp 14)) Q) .normal E D H)) /\
 (∀ Q E D H,W M c (qp 14) true Q E D H =
  A3 true q1e (List.replicate 24 (.int .u8 0)) H fun g t5 H1=>LK g (lk E 0) fun g t0=>C3 M g (.func xv) [t0] H1 fun g t17 H2=>B3 g ((Op.sliceArr 24 1 [none,(some 0),none]) [t5,t17]) fun g t19=>LK g (lk E 0) fun g t0_1=>C3 M g (.func xe) [t19,t0_1] H2 fun g t21 H3=>B3 g ((Op.sliceArr 24 1 [none,(some 0),none]) [t5,t17]) fun g t23=>B3 g (Op.strOfBytes [t23] H3) fun g t24=>GO3 g Q .ret ((4,t24)::(6,t17)::(5,t5)::E) D H3):=by (repeat' apply And.intro)<;>(intro _ _ _ _; refine W_unf ?_; kernel_rfl)
theorem wh:(cProg Tryd.prog).func xo = some je /\ je.results = [.tmp 4]:=xf (by kernel_rfl)
theorem qdl {M:Mac} [MK M]:M.func xo = some je:=MK.at (by decide) wh.1
theorem qdr {M:Mac} [MK M] {a0 a1:AV} {H:AHeap} {Q:AEnd -> AHeap -> Prop} (h:W M ⟨none,xo⟩ (qp 0) true (FIN3 M [.tmp 4] Q) [(0,a0),(1,a1)] [] H):CALLE M xo [a0,a1] H Q :=
 calle qdl (ks:=wo) (by kernel_rfl) (by rw [wh.2]; exact h)
def jt:AFunc:=funcAt Tryd.prog xl
def qar:Kp:=⟨[0],false,[0]⟩
def qay (k:Nat):Kp × ACode:=(qar,part jt.body k)
theorem qav (M:Mac) (c:Ctx):(∀ Q E D H,W M c (qay 0) true Q E D H =
 LK true (lk E 0) fun g t0=>B3 g (Op.nilCheck [t0]) fun g t3=>B3 g ((Op.fieldAddr 0) [t3]) fun g t4=>B3 g (Op.load1 [t4] H) fun g t5=>B3 g ((Op.eq .ptr false) [t5,.nilp] H) fun g t6=>IF3 g t6 (fun g=>LK g (lk E 0) fun g t0_1=>B3 g ((Op.castPtr (liesB Tryd.prog 78)) [t0_1] H) fun g t9=>B3 g (Op.noEscape [t9]) fun g t10=>B3 g ((Op.castPtr (liesB Tryd.prog 78)) [t10] H) fun g t11=>B3 g (Op.nilCheck [t0_1]) fun g t12=>B3 g ((Op.fieldAddr 0) [t12]) fun g t13=>B32 g ((Op.store 1) [t13,t11] H) fun g u H1=>GO3 g Q .normal E D H1) (fun g=>LK g (lk E 0) fun g t0_1=>B3 g (Op.nilCheck [t0_1]) fun g t15=>B3 g ((Op.fieldAddr 0) [t15]) fun g t16=>B3 g (Op.load1 [t16] H) fun g t17=>B3 g ((Op.eq .ptr true) [t17,t0_1] H) fun g t19=>IF3 g t19 (fun g=>False) (fun g=>GO3 g Q .normal E D H))):=by intro _ _ _ _; refine W_unf ?_; kernel_rfl
theorem qaw:(cProg Tryd.prog).func xl = some jt /\ jt.results = []:=xf (by kernel_rfl)
theorem qd8 {M:Mac} [MK M]:M.func xl = some jt:=MK.at (by decide) qaw.1
theorem qff {M:Mac} [MK M] {a0:AV} {H:AHeap} {Q:AEnd -> AHeap -> Prop} (h:W M ⟨none,xl⟩ (qay 0) true (FIN3 M [] Q) [(0,a0)] [] H):CALLE M xl [a0] H Q :=
 calle qd8 (ks:=qar) (by kernel_rfl) (by rw [qaw.2]; exact h)
def yn:AFunc:=funcAt Tryd.prog z8
def qcr:Kp:=⟨[0,1,4],false,[0]⟩
def qcu (k:Nat):Kp × ACode:=(qcr,part yn.body k)
theorem qh6 (M:Mac) (c:Ctx):(∀ Q E D H,W M c (qcu 0) true Q E D H =
 LK true (lk E 0) fun g t0=>B3 g (Op.nilCheck [t0]) fun g t6=>B3 g ((Op.fieldAddr 1) [t6]) fun g t7=>B3 g (Op.load1 [t7] H) fun g t8=>B3 g (Op.cap [t8]) fun g t9=>B3 g ((Op.bin .mul) [(.int .i64 2),t9]) fun g t10=>LK g (lk E 1) fun g t1=>B3 g ((Op.bin .add) [t10,t1]) fun g t12=>B3 g (Op.nilCheck [t0]) fun g t15=>B3 g ((Op.fieldAddr 1) [t15]) fun g t16=>B3 g (Op.load1 [t16] H) fun g t17=>B3 g (Op.lenSl [t17]) fun g t18=>B32 g ((Op.makeNoZero qbt) [t12]) fun g o1 k1=>B3 g ((Op.sliceSl 1 [none,(some 0),none]) [(k1 H.next),t18]) fun g t19=>LK g (lk E 0) fun g t0_1=>B3 g (Op.nilCheck [t0_1]) fun g t22=>B3 g ((Op.fieldAddr 1) [t22]) fun g t23=>B3 g (Op.load1 [t23] (H.alloc o1)) fun g t24=>B32 g ((Op.copy 1) [t19,t24] (H.alloc o1)) fun g t25 H2=>LK g (lk E 0) fun g t0_2=>B3 g (Op.nilCheck [t0_2]) fun g t28=>B3 g ((Op.fieldAddr 1) [t28]) fun g t29=>B32 g ((Op.store 1) [t29,t19] H2) fun g u H3=>GO3 g Q .normal ((4,t19)::E) D H3):=by intro _ _ _ _; refine W_unf ?_; kernel_rfl
theorem qcx:(cProg Tryd.prog).func z8 = some yn /\ yn.results = []:=xf (by kernel_rfl)
theorem qhq {M:Mac} [MK M]:M.func z8 = some yn:=MK.at (by decide) qcx.1
theorem qh8 {M:Mac} [MK M] {a0 a1:AV} {H:AHeap} {Q:AEnd -> AHeap -> Prop} (h:W M ⟨none,z8⟩ (qcu 0) true (FIN3 M [] Q) [(0,a0),(1,a1)] [] H):CALLE M z8 [a0,a1] H Q :=
 calle qhq (ks:=qcr) (by kernel_rfl) (by rw [qcx.2]; exact h)
def kw:AFunc:=funcAt Tryd.prog zf
def qb5:Kp:=⟨[0,2],false,[0,2,10]⟩
def ze (k:Nat):Kp × ACode:=(qb5,part kw.body k)
theorem qb7 (M:Mac) (c:Ctx):(∀ Q E D H,W M c (ze 0) true Q E D H =
 W M c (ze 2) true Q ((2,(.str []))::E) D H) /\
 (∀ Q E D H,W M c (ze 2) true Q E D H =
  LK true (lk E 0) fun g t0=>B3 g ((Op.bin .lss) [t0,(.int .i64 10)]) fun g t4=>IF3 g t4 (fun g=>LK g (lk E 0) fun g t0_1=>B3 g ((Op.bin .add) [t0_1,(.int .i64 1)]) fun g t7=>B3 g ((Op.sliceStr [(some 0),(some 1)]) [(.str qp1),t0_1,t7]) fun g t8=>GO3 g (SEQ3 (W M c (ze 10)) Q) .ret ((2,t8)::E) D H) (fun g=>GO3 g (SEQ3 (W M c (ze 10)) Q) .normal E D H)) /\
 (∀ Q E D H,W M c (ze 10) true Q E D H =
  LK true (lk E 0) fun g t0=>B3 g ((Op.bin .mul) [t0,(.int .i64 2)]) fun g t10=>B3 g ((Op.bin .mul) [t0,(.int .i64 2)]) fun g t12=>B3 g ((Op.bin .add) [t12,(.int .i64 2)]) fun g t13=>B3 g ((Op.sliceStr [(some 0),(some 1)]) [(.str ja),t10,t13]) fun g t14=>GO3 g Q .ret ((2,t14)::E) D H):=by (repeat' apply And.intro)<;>(intro _ _ _ _; refine W_unf ?_; kernel_rfl)
theorem qb4:(cProg Tryd.prog).func zf = some kw /\ kw.results = [.tmp 2]:=xf (by kernel_rfl)
theorem qgc {M:Mac} [MK M]:M.func zf = some kw:=MK.at (by decide) qb4.1
theorem qg8 {M:Mac} [MK M] {a0:AV} {H:AHeap} {Q:AEnd -> AHeap -> Prop} (h:W M ⟨none,zf⟩ (ze 0) true (FIN3 M [.tmp 2] Q) [(0,a0)] [] H):CALLE M zf [a0] H Q :=
 calle qgc (ks:=qb5) (by kernel_rfl) (by rw [qb4.2]; exact h)
def jn:AFunc:=funcAt Tryd.prog xv
def qak:Kp:=⟨[0,2,3],false,[0]⟩
def qaa (k:Nat):Kp × ACode:=(qak,part jn.body k)
theorem zo (M:Mac) (c:Ctx):(∀ Q E D H,W M c (qaa 0) true Q E D H =
 LK true (lk E 0) fun g t0=>C3 M g (.func jl) [t0] H fun g t5 H1=>C3 M g (.func xu) [t5] H1 fun g t6 H2=>LK g (lk E 0) fun g t0_1=>B3 g ((Op.indexArr 20 1) [(.ptr xj 0),t6]) fun g t10=>B3 g (Op.load1 [t10] H2) fun g t11=>B3 g ((Op.bin .geq) [t0_1,t11]) fun g t12=>C3 M g (.func xr) [t12] H2 fun g t13 H3=>B3 g ((Op.bin .add) [t6,t13]) fun g t14=>GO3 g Q .ret ((2,t14)::(3,t6)::(2,(.int .i64 0))::E) D H3):=by intro _ _ _ _; refine W_unf ?_; kernel_rfl
theorem qam:(cProg Tryd.prog).func xv = some jn /\ jn.results = [.tmp 2]:=xf (by kernel_rfl)
theorem qdv {M:Mac} [MK M]:M.func xv = some jn:=MK.at (by decide) qam.1
theorem qea {M:Mac} [MK M] {a0:AV} {H:AHeap} {Q:AEnd -> AHeap -> Prop} (h:W M ⟨none,xv⟩ (qaa 0) true (FIN3 M [.tmp 2] Q) [(0,a0)] [] H):CALLE M xv [a0] H Q :=
 calle qdv (ks:=qak) (by kernel_rfl) (by rw [qam.2]; exact h)
def zx:AFunc:=funcAt Tryd.prog xe
def vq:Kp:=⟨[0,1,4,5,6,7,8,9,10,11,12,13,14,15,16],false,[0,2,5,11,16,20,24,31,33,39,43,49,61]⟩
def qb (k:Nat):Kp × ACode:=(vq,part zx.body k)
theorem xd (M:Mac) (c:Ctx):(∀ Q E D H,W M c (qb 0) true Q E D H =
 LK true (lk E 0) fun g t0=>B3 g (Op.lenSl [t0]) fun g t18=>W M c (qb 2) g Q ((4,t18)::E) D H) /\
 (∀ Q E D H,W M c (qb 2) true Q E D H =
  LOOP3 (W M c (qb 5)) (BLK3 0 (SEQ3 (W M c (qb 31)) Q)) E D H) /\
 (∀ Q E D H,W M c (qb 31) true Q E D H =
  LK true (lk E 1) fun g t1=>B3 g ((Op.wrap .u32) [t1]) fun g t97=>W M c (qb 33) g Q ((12,t97)::E) D H) /\
 (∀ Q E D H,W M c (qb 5) true Q E D H =
  LK true (lk E 4) fun g t4=>B3 g ((Op.bin .geq) [t4,(.int .i64 8)]) fun g t20=>IF3 g t20 (fun g=>GO3 g (SEQ3 (W M c (qb 11)) Q) .normal E D H) (fun g=>GO3 g (SEQ3 (W M c (qb 11)) Q) (.exit 0) E D H)) /\
 (∀ Q E D H,W M c (qb 33) true Q E D H =
  LK true (lk E 4) fun g t4=>B3 g ((Op.bin .geq) [t4,(.int .i64 4)]) fun g t99=>IF3 g t99 (fun g=>LK g (lk E 12) fun g t12=>B3 g ((Op.bin .rem) [t12,(.int .u32 10000)]) fun g t101=>W M c (qb 39) g (SEQ3 (W M c (qb 49)) Q) ((13,t101)::E) D H) (fun g=>GO3 g (SEQ3 (W M c (qb 49)) Q) .normal E D H)) /\
 (∀ Q E D H,W M c (qb 11) true Q E D H =
  LK true (lk E 1) fun g t1=>B3 g ((Op.bin .rem) [t1,(.int .u64 100000000)]) fun g t22=>B3 g ((Op.wrap .u32) [t22]) fun g t23=>LK g (lk E 1) fun g t1_1=>B3 g ((Op.bin .quo) [t1_1,(.int .u64 100000000)]) fun g t25=>W M c (qb 16) g (BLK3 1 Q) ((1,t25)::(5,t23)::E) D H) /\
 (∀ Q E D H,W M c (qb 49) true Q E D H =
  LK true (lk E 4) fun g t4=>B3 g ((Op.bin .geq) [t4,(.int .i64 2)]) fun g t139=>IF3 g t139 (fun g=>LK g (lk E 12) fun g t12=>B3 g ((Op.bin .rem) [t12,(.int .u32 100)]) fun g t141=>B3 g ((Op.bin .mul) [t141,(.int .u32 2)]) fun g t142=>LK g (lk E 12) fun g t12_1=>B3 g ((Op.bin .quo) [t12_1,(.int .u32 100)]) fun g t144=>LK g (lk E 0) fun g t0=>LK g (lk E 4) fun g t4_1=>B3 g ((Op.bin .sub) [t4_1,(.int .i64 1)]) fun g t147=>B3 g ((Op.bin .sub) [t4_1,(.int .i64 2)]) fun g t150=>B3 g ((Op.bin .add) [t142,(.int .u32 1)]) fun g t152=>B3 g (Op.indexStr [(.str ja),t152]) fun g t153=>B3 g (Op.indexStr [(.str ja),t142]) fun g t155=>B3 g ((Op.indexSl 1) [t0,t147]) fun g t156=>B32 g ((Op.store 1) [t156,t153] H) fun g u H1=>B3 g ((Op.indexSl 1) [t0,t150]) fun g t157=>B32 g ((Op.store 1) [t157,t155] H1) fun g u_1 H2=>LK g (lk E 4) fun g t4_2=>B3 g ((Op.bin .sub) [t4_2,(.int .i64 2)]) fun g t159=>GO3 g (SEQ3 (W M c (qb 61)) Q) .normal ((4,t159)::(12,t144)::(16,t142)::E) D H2) (fun g=>GO3 g (SEQ3 (W M c (qb 61)) Q) .normal E D H)) /\
 (∀ Q E D H,W M c (qb 39) true Q E D H =
  LK true (lk E 12) fun g t12=>B3 g ((Op.bin .quo) [t12,(.int .u32 10000)]) fun g t103=>LK g (lk E 13) fun g t13=>B3 g ((Op.bin .quo) [t13,(.int .u32 100)]) fun g t105=>B3 g ((Op.bin .mul) [t105,(.int .u32 2)]) fun g t106=>B3 g ((Op.bin .rem) [t13,(.int .u32 100)]) fun g t108=>B3 g ((Op.bin .mul) [t108,(.int .u32 2)]) fun g t109=>W M c (qb 43) g Q ((15,t109)::(14,t106)::(12,t103)::E) D H) /\
 (∀ Q E D H,W M c (qb 16) true Q E D H =
  LK true (lk E 5) fun g t5=>B3 g ((Op.bin .quo) [t5,(.int .u32 10000)]) fun g t27=>B3 g ((Op.bin .rem) [t5,(.int .u32 10000)]) fun g t29=>B3 g ((Op.bin .quo) [t29,(.int .u32 100)]) fun g t31=>B3 g ((Op.bin .mul) [t31,(.int .u32 2)]) fun g t32=>B3 g ((Op.bin .rem) [t29,(.int .u32 100)]) fun g t34=>B3 g ((Op.bin .mul) [t34,(.int .u32 2)]) fun g t35=>W M c (qb 20) g Q ((9,t35)::(8,t32)::(7,t29)::(6,t27)::E) D H) /\
 (∀ Q E D H,W M c (qb 61) true Q E D H =
  LK true (lk E 4) fun g t4=>B3 g ((Op.bin .gtr) [t4,(.int .i64 0)]) fun g t161=>IF3 g t161 (fun g=>LK g (lk E 0) fun g t0=>LK g (lk E 12) fun g t12=>B3 g ((Op.bin .add) [(.int .u32 48),t12]) fun g t164=>B3 g ((Op.wrap .u8) [t164]) fun g t165=>B3 g ((Op.indexSl 1) [t0,(.int .i64 0)]) fun g t166=>B32 g ((Op.store 1) [t166,t165] H) fun g u H1=>GO3 g Q .normal E D H1) (fun g=>GO3 g Q .normal E D H)) /\
 (∀ Q E D H,W M c (qb 43) true Q E D H =
  LK true (lk E 0) fun g t0=>LK g (lk E 4) fun g t4=>B3 g ((Op.bin .sub) [t4,(.int .i64 1)]) fun g t112=>B3 g ((Op.bin .sub) [t4,(.int .i64 2)]) fun g t115=>LK g (lk E 15) fun g t15=>B3 g ((Op.bin .add) [t15,(.int .u32 1)]) fun g t117=>B3 g (Op.indexStr [(.str ja),t117]) fun g t118=>B3 g (Op.indexStr [(.str ja),t15]) fun g t120=>B3 g ((Op.indexSl 1) [t0,t112]) fun g t121=>B32 g ((Op.store 1) [t121,t118] H) fun g u H1=>B3 g ((Op.indexSl 1) [t0,t115]) fun g t122=>B32 g ((Op.store 1) [t122,t120] H1) fun g u_1 H2=>LK g (lk E 0) fun g t0_1=>LK g (lk E 4) fun g t4_1=>B3 g ((Op.bin .sub) [t4_1,(.int .i64 3)]) fun g t125=>B3 g ((Op.bin .sub) [t4_1,(.int .i64 4)]) fun g t128=>LK g (lk E 14) fun g t14=>B3 g ((Op.bin .add) [t14,(.int .u32 1)]) fun g t130=>B3 g (Op.indexStr [(.str ja),t130]) fun g t131=>B3 g (Op.indexStr [(.str ja),t14]) fun g t133=>B3 g ((Op.indexSl 1) [t0_1,t125]) fun g t134=>B32 g ((Op.store 1) [t134,t131] H2) fun g u_2 H3=>B3 g ((Op.indexSl 1) [t0_1,t128]) fun g t135=>B32 g ((Op.store 1) [t135,t133] H3) fun g u_3 H4=>LK g (lk E 4) fun g t4_2=>B3 g ((Op.bin .sub) [t4_2,(.int .i64 4)]) fun g t137=>GO3 g Q .normal ((4,t137)::E) D H4) /\
 (∀ Q E D H,W M c (qb 20) true Q E D H =
  LK true (lk E 6) fun g t6=>B3 g ((Op.bin .quo) [t6,(.int .u32 100)]) fun g t37=>B3 g ((Op.bin .mul) [t37,(.int .u32 2)]) fun g t38=>B3 g ((Op.bin .rem) [t6,(.int .u32 100)]) fun g t40=>B3 g ((Op.bin .mul) [t40,(.int .u32 2)]) fun g t41=>LK g (lk E 0) fun g t0=>LK g (lk E 4) fun g t4=>B3 g ((Op.bin .sub) [t4,(.int .i64 1)]) fun g t44=>B3 g ((Op.bin .sub) [t4,(.int .i64 2)]) fun g t47=>LK g (lk E 9) fun g t9=>B3 g ((Op.bin .add) [t9,(.int .u32 1)]) fun g t49=>B3 g (Op.indexStr [(.str ja),t49]) fun g t50=>B3 g (Op.indexStr [(.str ja),t9]) fun g t52=>B3 g ((Op.indexSl 1) [t0,t44]) fun g t53=>B32 g ((Op.store 1) [t53,t50] H) fun g u H1=>B3 g ((Op.indexSl 1) [t0,t47]) fun g t54=>B32 g ((Op.store 1) [t54,t52] H1) fun g u_1 H2=>W M c (qb 24) g Q ((11,t41)::(10,t38)::E) D H2) /\
 (∀ Q E D H,W M c (qb 24) true Q E D H =
  LK true (lk E 0) fun g t0=>LK g (lk E 4) fun g t4=>B3 g ((Op.bin .sub) [t4,(.int .i64 3)]) fun g t57=>B3 g ((Op.bin .sub) [t4,(.int .i64 4)]) fun g t60=>LK g (lk E 8) fun g t8=>B3 g ((Op.bin .add) [t8,(.int .u32 1)]) fun g t62=>B3 g (Op.indexStr [(.str ja),t62]) fun g t63=>B3 g (Op.indexStr [(.str ja),t8]) fun g t65=>B3 g ((Op.indexSl 1) [t0,t57]) fun g t66=>B32 g ((Op.store 1) [t66,t63] H) fun g u H1=>B3 g ((Op.indexSl 1) [t0,t60]) fun g t67=>B32 g ((Op.store 1) [t67,t65] H1) fun g u_1 H2=>LK g (lk E 0) fun g t0_1=>LK g (lk E 4) fun g t4_1=>B3 g ((Op.bin .sub) [t4_1,(.int .i64 5)]) fun g t70=>B3 g ((Op.bin .sub) [t4_1,(.int .i64 6)]) fun g t73=>LK g (lk E 11) fun g t11=>B3 g ((Op.bin .add) [t11,(.int .u32 1)]) fun g t75=>B3 g (Op.indexStr [(.str ja),t75]) fun g t76=>B3 g (Op.indexStr [(.str ja),t11]) fun g t78=>B3 g ((Op.indexSl 1) [t0_1,t70]) fun g t79=>B32 g ((Op.store 1) [t79,t76] H2) fun g u_2 H3=>B3 g ((Op.indexSl 1) [t0_1,t73]) fun g t80=>B32 g ((Op.store 1) [t80,t78] H3) fun g u_3 H4=>LK g (lk E 0) fun g t0_2=>LK g (lk E 4) fun g t4_2=>B3 g ((Op.bin .sub) [t4_2,(.int .i64 7)]) fun g t83=>B3 g ((Op.bin .sub) [t4_2,(.int .i64 8)]) fun g t86=>LK g (lk E 10) fun g t10=>B3 g ((Op.bin .add) [t10,(.int .u32 1)]) fun g t88=>B3 g (Op.indexStr [(.str ja),t88]) fun g t89=>B3 g (Op.indexStr [(.str ja),t10]) fun g t91=>B3 g ((Op.indexSl 1) [t0_2,t83]) fun g t92=>B32 g ((Op.store 1) [t92,t89] H4) fun g u_4 H5=>B3 g ((Op.indexSl 1) [t0_2,t86]) fun g t93=>B32 g ((Op.store 1) [t93,t91] H5) fun g u_5 H6=>LK g (lk E 4) fun g t4_3=>B3 g ((Op.bin .sub) [t4_3,(.int .i64 8)]) fun g t95=>GO3 g Q .normal ((4,t95)::E) D H6):=by (repeat' apply And.intro)<;>(intro _ _ _ _; refine W_unf ?_; kernel_rfl)
theorem vk:(cProg Tryd.prog).func xe = some zx /\ zx.results = []:=xf (by kernel_rfl)
theorem qco {M:Mac} [MK M]:M.func xe = some zx:=MK.at (by decide) vk.1
theorem qc2 {M:Mac} [MK M] {a0 a1:AV} {H:AHeap} {Q:AEnd -> AHeap -> Prop} (h:W M ⟨none,xe⟩ (qb 0) true (FIN3 M [] Q) [(0,a0),(1,a1)] [] H):CALLE M xe [a0,a1] H Q :=
 calle qco (ks:=vq) (by kernel_rfl) (by rw [vk.2]; exact h)
def jo:AFunc:=funcAt Tryd.prog xu
def qab:Kp:=⟨[0,2],false,[0]⟩
def qae (k:Nat):Kp × ACode:=(qab,part jo.body k)
theorem qej (M:Mac) (c:Ctx):(∀ Q E D H,W M c (qae 0) true Q E D H =
 LK true (lk E 0) fun g t0=>B3 g ((Op.bin .mul) [t0,(.int .i64 78913)]) fun g t4=>B3 g ((Op.bin .shr) [t4,(.int .u64 18)]) fun g t5=>GO3 g Q .ret ((2,t5)::(2,(.int .i64 0))::E) D H):=by intro _ _ _ _; refine W_unf ?_; kernel_rfl
theorem qac:(cProg Tryd.prog).func xu = some jo /\ jo.results = [.tmp 2]:=xf (by kernel_rfl)
theorem qds {M:Mac} [MK M]:M.func xu = some jo:=MK.at (by decide) qac.1
theorem qel {M:Mac} [MK M] {a0:AV} {H:AHeap} {Q:AEnd -> AHeap -> Prop} (h:W M ⟨none,xu⟩ (qae 0) true (FIN3 M [.tmp 2] Q) [(0,a0)] [] H):CALLE M xu [a0] H Q :=
 calle qds (ks:=qab) (by kernel_rfl) (by rw [qac.2]; exact h)
def qa8:AFunc:=funcAt Tryd.prog jl
def qgt:Kp:=⟨[0,2],false,[0,2,10,18,26]⟩
def xg (k:Nat):Kp × ACode:=(qgt,part qa8.body k)
theorem qbg (M:Mac) (c:Ctx):(∀ Q E D H,W M c (xg 0) true Q E D H =
 W M c (xg 2) true Q ((2,(.int .i64 0))::E) D H) /\
 (∀ Q E D H,W M c (xg 2) true Q E D H =
  LK true (lk E 0) fun g t0=>B3 g ((Op.bin .geq) [t0,(.int .u64 4294967296)]) fun g t4=>IF3 g t4 (fun g=>LK g (lk E 0) fun g t0_1=>B3 g ((Op.bin .shr) [t0_1,(.int .u64 32)]) fun g t6=>GO3 g (SEQ3 (W M c (xg 10)) Q) .normal ((2,(.int .i64 32))::(0,t6)::E) D H) (fun g=>GO3 g (SEQ3 (W M c (xg 10)) Q) .normal E D H)) /\
 (∀ Q E D H,W M c (xg 10) true Q E D H =
  LK true (lk E 0) fun g t0=>B3 g ((Op.bin .geq) [t0,(.int .u64 65536)]) fun g t8=>IF3 g t8 (fun g=>LK g (lk E 0) fun g t0_1=>B3 g ((Op.bin .shr) [t0_1,(.int .u64 16)]) fun g t10=>LK g (lk E 2) fun g t2=>B3 g ((Op.bin .add) [t2,(.int .i64 16)]) fun g t12=>GO3 g (SEQ3 (W M c (xg 18)) Q) .normal ((2,t12)::(0,t10)::E) D H) (fun g=>GO3 g (SEQ3 (W M c (xg 18)) Q) .normal E D H)) /\
 (∀ Q E D H,W M c (xg 18) true Q E D H =
  LK true (lk E 0) fun g t0=>B3 g ((Op.bin .geq) [t0,(.int .u64 256)]) fun g t14=>IF3 g t14 (fun g=>LK g (lk E 0) fun g t0_1=>B3 g ((Op.bin .shr) [t0_1,(.int .u64 8)]) fun g t16=>LK g (lk E 2) fun g t2=>B3 g ((Op.bin .add) [t2,(.int .i64 8)]) fun g t18=>GO3 g (SEQ3 (W M c (xg 26)) Q) .normal ((2,t18)::(0,t16)::E) D H) (fun g=>GO3 g (SEQ3 (W M c (xg 26)) Q) .normal E D H)) /\
 (∀ Q E D H,W M c (xg 26) true Q E D H =
  LK true (lk E 2) fun g t2=>LK g (lk E 0) fun g t0=>B3 g ((Op.wrap .u8) [t0]) fun g t21=>B3 g (Op.indexStr [(.str ql3),t21]) fun g t22=>B3 g ((Op.wrap .i64) [t22]) fun g t23=>B3 g ((Op.bin .add) [t2,t23]) fun g t24=>GO3 g Q .ret ((2,t24)::E) D H):=by (repeat' apply And.intro)<;>(intro _ _ _ _; refine W_unf ?_; kernel_rfl)
theorem qgn:(cProg Tryd.prog).func jl = some qa8 /\ qa8.results = [.tmp 2]:=xf (by kernel_rfl)
theorem ql9 {M:Mac} [MK M]:M.func jl = some qa8:=MK.at (by decide) qgn.1
theorem qmp {M:Mac} [MK M] {a0:AV} {H:AHeap} {Q:AEnd -> AHeap -> Prop} (h:W M ⟨none,jl⟩ (xg 0) true (FIN3 M [.tmp 2] Q) [(0,a0)] [] H):CALLE M jl [a0] H Q :=
 calle ql9 (ks:=qgt) (by kernel_rfl) (by rw [qgn.2]; exact h)
def jp:AFunc:=funcAt Tryd.prog xr
def qad:Kp:=⟨[0,2],false,[0,2,10]⟩
def xw (k:Nat):Kp × ACode:=(qad,part jp.body k)
theorem qd6 (M:Mac) (c:Ctx):(∀ Q E D H,W M c (xw 0) true Q E D H =
 W M c (xw 2) true Q ((2,(.int .i64 0))::E) D H) /\
 (∀ Q E D H,W M c (xw 2) true Q E D H =
  LK true (lk E 0) fun g t0=>IF3 g t0 (fun g=>GO3 g (SEQ3 (W M c (xw 10)) Q) .ret ((2,(.int .i64 1))::E) D H) (fun g=>GO3 g (SEQ3 (W M c (xw 10)) Q) .normal E D H)) /\
 (∀ Q E D H,W M c (xw 10) true Q E D H =
  GO3 true Q .ret ((2,(.int .i64 0))::E) D H):=by (repeat' apply And.intro)<;>(intro _ _ _ _; refine W_unf ?_; kernel_rfl)
theorem qai:(cProg Tryd.prog).func xr = some jp /\ jp.results = [.tmp 2]:=xf (by kernel_rfl)
theorem qdu {M:Mac} [MK M]:M.func xr = some jp:=MK.at (by decide) qai.1
theorem qef {M:Mac} [MK M] {a0:AV} {H:AHeap} {Q:AEnd -> AHeap -> Prop} (h:W M ⟨none,xr⟩ (xw 0) true (FIN3 M [.tmp 2] Q) [(0,a0)] [] H):CALLE M xr [a0] H Q :=
 calle qdu (ks:=qad) (by kernel_rfl) (by rw [qai.2]; exact h)
end
end Go.Am
namespace Go.Am
abbrev xq:Nat:=125
abbrev kj:Nat:=15
abbrev qaz:Nat:=63
abbrev j6:Nat:=40
abbrev qa1:Nat:=62
abbrev qbw:Nat:=129
abbrev qau:Nat:=128
abbrev zb:Nat:=101
abbrev ju:Nat:=100
abbrev xc:Nat:=99
abbrev z6:Nat:=41
abbrev xa:Nat:=66
abbrev qf:Nat:=64
abbrev km:Nat:=95
abbrev qmg:Nat:=123
abbrev j7:Nat:=124
abbrev zu:Nat:=93
abbrev xy:Nat:=96
abbrev jh:Nat:=65
abbrev qk:Nat:=58
abbrev qvv:Nat:=4
abbrev T_int:Nat:=3
abbrev x7:Nat:=80
abbrev vo:Nat:=78
def q07:List UInt8:=[115,116,114,105,110,103,115,58,32,110,101,103,97,116,105,118,101,32,82,101,112,101,97,116,32,99,111,117,110,116]
def qz6:List UInt8:=[115,116,114,105,110,103,115,58,32,82,101,112,101,97,116,32,111,117,116,112,117,116,32,108,101,110,103,116,104,32,111,118,101,114,102,108,111,119]
def qc7:List UInt8:=[32,32,32,32,32,32,32,32,32,32,32,32,32,32,32,32,32,32,32,32,32,32,32,32,32,32,32,32,32,32,32,32,32,32,32,32,32,32,32,32,32,32,32,32,32,32,32,32,32,32,32,32,32,32,32,32,32,32,32,32,32,32,32,32,32,32,32,32,32,32,32,32,32,32,32,32,32,32,32,32,32,32,32,32,32,32,32,32,32,32,32,32,32,32,32,32,32,32,32,32,32,32,32,32,32,32,32,32,32,32,32,32,32,32,32,32,32,32,32,32,32,32,32,32,32,32,32,32]
def qr7:List UInt8:=[45,45,45,45,45,45,45,45,45,45,45,45,45,45,45,45,45,45,45,45,45,45,45,45,45,45,45,45,45,45,45,45,45,45,45,45,45,45,45,45,45,45,45,45,45,45,45,45,45,45,45,45,45,45,45,45,45,45,45,45,45,45,45,45,45,45,45,45,45,45,45,45,45,45,45,45,45,45,45,45,45,45,45,45,45,45,45,45,45,45,45,45,45,45,45,45,45,45,45,45,45,45,45,45,45,45,45,45,45,45,45,45,45,45,45,45,45,45,45,45,45,45,45,45,45,45,45,45]
def qsa:List UInt8:=[48,48,48,48,48,48,48,48,48,48,48,48,48,48,48,48,48,48,48,48,48,48,48,48,48,48,48,48,48,48,48,48,48,48,48,48,48,48,48,48,48,48,48,48,48,48,48,48,48,48,48,48,48,48,48,48,48,48,48,48,48,48,48,48]
def qrr:List UInt8:=[61,61,61,61,61,61,61,61,61,61,61,61,61,61,61,61,61,61,61,61,61,61,61,61,61,61,61,61,61,61,61,61,61,61,61,61,61,61,61,61,61,61,61,61,61,61,61,61,61,61,61,61,61,61,61,61,61,61,61,61,61,61,61,61,61,61,61,61,61,61,61,61,61,61,61,61,61,61,61,61,61,61,61,61,61,61,61,61,61,61,61,61,61,61,61,61,61,61,61,61,61,61,61,61,61,61,61,61,61,61,61,61,61,61,61,61,61,61,61,61,61,61,61,61,61,61,61,61]
def qrw:List UInt8:=[9,9,9,9,9,9,9,9,9,9,9,9,9,9,9,9,9,9,9,9,9,9,9,9,9,9,9,9,9,9,9,9,9,9,9,9,9,9,9,9,9,9,9,9,9,9,9,9,9,9,9,9,9,9,9,9,9,9,9,9,9,9,9,9]
def qz9:List UInt8:=[116,104,101,32,114,101,115,117,108,116,32,111,102,32,40,108,101,110,40,120,41,32,42,32,99,111,117,110,116,41,32,111,118,101,114,102,108,111,119,115]
noncomputable section
open Go.Proofs Go.Proofs.YtbimikjajohflaaDoor
def qgb:AFunc:=funcAt Tryd.prog kj
def qnj:Kp:=⟨[0,2,3,4],false,[0,2,10,14,22]⟩
def jw (k:Nat):Kp × ACode:=(qnj,part qgb.body k)
theorem qnz (M:Mac) (c:Ctx):(∀ Q E D H,W M c (jw 0) true Q E D H =
 W M c (jw 2) true Q ((3,(.int .i64 0))::(2,(.str []))::E) D H) /\
 (∀ Q E D H,W M c (jw 2) true Q E D H =
  LK true (lk E 0) fun g t0=>C3 M g (.func j6) [t0] H fun g t6 H1=>B3 g ((Op.un .not) [t6]) fun g t7=>IF3 g t7 (fun g=>GO3 g (SEQ3 (W M c (jw 10)) Q) .ret ((3,(.int .i64 2))::(2,(.str []))::E) D H1) (fun g=>GO3 g (SEQ3 (W M c (jw 10)) Q) .normal E D H1)) /\
 (∀ Q E D H,W M c (jw 10) true Q E D H =
  LK true (lk E 0) fun g t0=>B3 g ((Op.build [.nilp,.nils,.nils,(.int .i64 0),(.int .i64 0)] [(2,1)]) [t0]) fun g t9=>A3 g x7 (AV.cells t9) H fun g t10 H1=>LK g (lk E 0) fun g t0_1=>B3 g (Op.lenSl [t0_1]) fun g t13=>B3 g ((Op.bin .sub) [t13,(.int .i64 1)]) fun g t14=>C3 M g (.func z6) [t10,t14,(.int .i64 0)] H1 fun g t15 H2=>W M c (jw 14) g Q ((4,t10)::E) D H2) /\
 (∀ Q E D H,W M c (jw 14) true Q E D H =
  LK true (lk E 4) fun g t4=>B3 g (Op.nilCheck [t4]) fun g t17=>B3 g ((Op.fieldAddr 4) [t17]) fun g t18=>B3 g (Op.load1 [t18] H) fun g t19=>B3 g ((Op.bin .gtr) [t19,(.int .i64 50)]) fun g t20=>IF3 g t20 (fun g=>GO3 g (SEQ3 (W M c (jw 22)) Q) .ret ((3,(.int .i64 2))::(2,(.str []))::E) D H) (fun g=>GO3 g (SEQ3 (W M c (jw 22)) Q) .normal E D H)) /\
 (∀ Q E D H,W M c (jw 22) true Q E D H =
  LK true (lk E 4) fun g t4=>B3 g (Op.nilCheck [t4]) fun g t22=>B3 g ((Op.fieldAddr 0) [t22]) fun g t23=>C3 M g (.func xm) [t23] H fun g t24 H1=>GO3 g Q .ret ((3,(.int .i64 0))::(2,t24)::E) D H1):=by (repeat' apply And.intro)<;>(intro _ _ _ _; refine W_unf ?_; kernel_rfl)
theorem qnw:(cProg Tryd.prog).func kj = some qgb /\ qgb.results = [.tmp 2,.tmp 3]:=xf (by kernel_rfl)
theorem qss {M:Mac} [MK M]:M.func kj = some qgb:=MK.at (by decide) qnw.1
theorem qnu {M:Mac} [MK M] {a0:AV} {H:AHeap} {Q:AEnd -> AHeap -> Prop} (h:W M ⟨none,kj⟩ (jw 0) true (FIN3 M [.tmp 2,.tmp 3] Q) [(0,a0)] [] H):CALLE M kj [a0] H Q :=
 calle qss (ks:=qnj) (by kernel_rfl) (by rw [qnw.2]; exact h)
def qjj:AFunc:=funcAt Tryd.prog j6
def qso:Kp:=⟨[0,2,3,4,5,6,7,8,9,10,11,33,34,35,70,71,72],false,[0,2,10,14,19,25,31,39,41,46,52,56,64,65,66,70,78,80,81,82]⟩
def qj (k:Nat):Kp × ACode:=(qso,part qjj.body k)
theorem qsj (M:Mac) (c:Ctx):(∀ Q E D H,W M c (qj 0) true Q E D H =
 W M c (qj 2) true Q ((2,(.bool false))::E) D H) /\
 (∀ Q E D H,W M c (qj 2) true Q E D H =
  LK true (lk E 0) fun g t0=>B3 g (Op.lenSl [t0]) fun g t13=>B3 g ((Op.bin .lss) [t13,(.int .i64 1)]) fun g t14=>JN (fun (k:Bool -> AV -> AV -> AV -> AHeap -> Prop)=>B3 g (wantV false (some t14)) fun g w=>IG3 g w (fun g=>B3 g (Op.lenSl [t0]) fun g t17=>B3 g ((Op.bin .gtr) [t17,(.int .i64 2000)]) fun g t18=>k g t18 t17 t0 H) (fun g=>k g uu uu uu H)) (fun g t18_1 t17_1 t16_1 H1=>B3 g (Op.pick [t14,(.bool true),t18_1]) fun g t19=>JN (fun (k:Bool -> AV -> AV -> AV -> AV -> AV -> AV -> AV -> AV -> AHeap -> Prop)=>B3 g (wantV false (some t19)) fun g w=>IG3 g w (fun g=>B3 g (Op.lenSl [t0]) fun g t23=>B3 g ((Op.bin .sub) [t23,(.int .i64 1)]) fun g t24=>B3 g ((Op.indexSl 3) [t0,t24]) fun g t25=>B3 g ((Op.fieldAddr 0) [t25]) fun g t26=>B3 g (Op.load1 [t26] H1) fun g t27=>B3 g ((Op.bin .neq) [t27,(.int .i64 20)]) fun g t28=>k g t28 t27 t26 t25 t24 t23 t0 t0 H1) (fun g=>k g uu uu uu uu uu uu uu uu H1)) (fun g t28_1 t27_1 t26_1 t25_1 t24_1 t23_1 t22_1 t21_1 H2=>B3 g (Op.pick [t19,(.bool true),t28_1]) fun g t29=>IF3 g t29 (fun g=>GO3 g (SEQ3 (W M c (qj 10)) Q) .ret ((2,(.bool false))::E) D H2) (fun g=>GO3 g (SEQ3 (W M c (qj 10)) Q) .normal E D H2)))) /\
 (∀ Q E D H,W M c (qj 10) true Q E D H =
  LK true (lk E 0) fun g t0=>B3 g (Op.lenSl [t0]) fun g t31=>B32 g ((Op.mkSlice qvv 1 [(.bool false)]) [t31,t31]) fun g o1 k1=>W M c (qj 14) g Q ((4,(k1 H.next))::(3,.nils)::E) D (H.alloc o1)) /\
 (∀ Q E D H,W M c (qj 14) true Q E D H =
  LK true (lk E 0) fun g t0=>B3 g (Op.lenSl [t0]) fun g t34=>LOOP3 (W M c (qj 19)) (BLK3 0 (SEQ3 (W M c (qj 82)) Q)) ((35,(.int .i64 0))::(34,t34)::(33,t0)::E) D H) /\
 (∀ Q E D H,W M c (qj 82) true Q E D H =
  LK true (lk E 3) fun g t3=>B3 g (Op.lenSl [t3]) fun g t132=>B3 g ((Op.bin .eql) [t132,(.int .i64 1)]) fun g t133=>GO3 g Q .ret ((2,t133)::E) D H) /\
 (∀ Q E D H,W M c (qj 19) true Q E D H =
  LK true (lk E 35) fun g t35=>LK g (lk E 34) fun g t34=>B3 g ((Op.bin .lss) [t35,t34]) fun g t36=>IF3 g t36 (fun g=>GO3 g (SEQ3 (W M c (qj 25)) Q) .normal E D H) (fun g=>GO3 g (SEQ3 (W M c (qj 25)) Q) (.exit 0) E D H)) /\
 (∀ Q E D H,W M c (qj 25) true Q E D H =
  LK true (lk E 35) fun g t35=>LK g (lk E 33) fun g t33=>B3 g ((Op.indexSl 3) [t33,t35]) fun g t38=>B3 g ((Op.loadN 3) [t38] H) fun g t39=>A3 g qk [(.int .i64 0),(.int .u64 0),.nils] H fun g t6 H1=>B32 g ((Op.store 3) [t6,t39] H1) fun g u H2=>B3 g ((Op.loadN 3) [t6] H2) fun g t41=>C3 M g (.func qa1) [t41] H2 fun g t42 H3=>B3 g ((Op.extract 0) [t42]) fun g t43=>B3 g ((Op.extract 1) [t42]) fun g t44=>W M c (qj 31) g (BLK3 1 (SEQ3 (W M c (qj 81)) Q)) ((8,t44)::(7,t43)::(5,t35)::(6,t6)::E) D H3) /\
 (∀ Q E D H,W M c (qj 81) true Q E D H =
  LK true (lk E 35) fun g t35=>B3 g ((Op.bin .add) [t35,(.int .i64 1)]) fun g t130=>GO3 g Q .normal ((35,t130)::E) D H) /\
 (∀ Q E D H,W M c (qj 31) true Q E D H =
  LK true (lk E 8) fun g t8=>B3 g ((Op.un .not) [t8]) fun g t46=>JN (fun (k:Bool -> AV -> AV -> AV -> AV -> AV -> AV -> AHeap -> Prop)=>B3 g (wantV false (some t46)) fun g w=>IG3 g w (fun g=>LK g (lk E 7) fun g t7=>B3 g (Op.lenSl [t7]) fun g t49=>LK g (lk E 6) fun g t6=>B3 g ((Op.fieldAddr 2) [t6]) fun g t50=>B3 g (Op.load1 [t50] H) fun g t51=>B3 g (Op.lenSl [t51]) fun g t52=>B3 g ((Op.bin .neq) [t49,t52]) fun g t53=>k g t53 t52 t51 t50 t49 t7 H) (fun g=>k g uu uu uu uu uu uu H)) (fun g t53_1 t52_1 t51_1 t50_1 t49_1 t48_1 H1=>B3 g (Op.pick [t46,(.bool true),t53_1]) fun g t54=>JN (fun (k:Bool -> AV -> AV -> AV -> AV -> AV -> AHeap -> Prop)=>B3 g (wantV false (some t54)) fun g w=>IG3 g w (fun g=>LK g (lk E 7) fun g t7_1=>B3 g (Op.lenSl [t7_1]) fun g t57=>LK g (lk E 3) fun g t3=>B3 g (Op.lenSl [t3]) fun g t59=>B3 g ((Op.bin .gtr) [t57,t59]) fun g t60=>k g t60 t59 t3 t57 t7_1 H1) (fun g=>k g uu uu uu uu uu H1)) (fun g t60_1 t59_1 t58_1 t57_1 t56_1 H2=>B3 g (Op.pick [t54,(.bool true),t60_1]) fun g t61=>IF3 g t61 (fun g=>GO3 g (SEQ3 (W M c (qj 39)) Q) .ret ((2,(.bool false))::E) D H2) (fun g=>GO3 g (SEQ3 (W M c (qj 39)) Q) .normal E D H2)))) /\
 (∀ Q E D H,W M c (qj 39) true Q E D H =
  LK true (lk E 3) fun g t3=>B3 g (Op.lenSl [t3]) fun g t64=>LK g (lk E 7) fun g t7=>B3 g (Op.lenSl [t7]) fun g t66=>B3 g ((Op.bin .sub) [t64,t66]) fun g t67=>B3 g ((Op.sliceSl 1 [(some 0),none,none]) [t3,t67]) fun g t68=>W M c (qj 41) g Q ((9,t68)::E) D H) /\
 (∀ Q E D H,W M c (qj 41) true Q E D H =
  LK true (lk E 6) fun g t6=>B3 g ((Op.fieldAddr 2) [t6]) fun g t69=>B3 g (Op.load1 [t69] H) fun g t70=>B3 g (Op.lenSl [t70]) fun g t71=>LOOP3 (W M c (qj 46)) (BLK3 2 (SEQ3 (W M c (qj 66)) Q)) ((72,(.int .i64 0))::(71,t71)::(70,t70)::E) D H) /\
 (∀ Q E D H,W M c (qj 66) true Q E D H =
  LK true (lk E 6) fun g t6=>B3 g ((Op.fieldAddr 0) [t6]) fun g t110=>B3 g (Op.load1 [t110] H) fun g t111=>B3 g ((Op.bin .eql) [t111,(.int .i64 18)]) fun g t112=>IF3 g t112 (fun g=>W M c (qj 70) g (SEQ3 (W M c (qj 80)) Q) E D H) (fun g=>GO3 g (SEQ3 (W M c (qj 80)) Q) .normal E D H)) /\
 (∀ Q E D H,W M c (qj 46) true Q E D H =
  LK true (lk E 72) fun g t72=>LK g (lk E 71) fun g t71=>B3 g ((Op.bin .lss) [t72,t71]) fun g t73=>IF3 g t73 (fun g=>GO3 g (SEQ3 (W M c (qj 52)) Q) .normal E D H) (fun g=>GO3 g (SEQ3 (W M c (qj 52)) Q) (.exit 2) E D H)) /\
 (∀ Q E D H,W M c (qj 80) true Q E D H =
  LK true (lk E 3) fun g t3=>B3 g (Op.lenSl [t3]) fun g t122=>LK g (lk E 7) fun g t7=>B3 g (Op.lenSl [t7]) fun g t124=>B3 g ((Op.bin .sub) [t122,t124]) fun g t125=>B3 g ((Op.sliceSl 1 [none,(some 0),none]) [t3,t125]) fun g t126=>LK g (lk E 5) fun g t5=>B32 g ((Op.buildSlice T_int 1 [(.int .i64 0)] [(0,1)]) [t5]) fun g o1 k1=>B32 g ((Op.append T_int 1 8) [t126,(k1 H.next)] (H.alloc o1)) fun g t129 H2=>GO3 g Q .normal ((3,t129)::E) D H2) /\
 (∀ Q E D H,W M c (qj 70) true Q E D H =
  LK true (lk E 4) fun g t4=>LK g (lk E 5) fun g t5=>B3 g ((Op.indexSl 1) [t4,t5]) fun g t115=>B3 g (Op.load1 [t115] H) fun g t116=>IF3 g t116 (fun g=>GO3 g (SEQ3 (W M c (qj 78)) Q) .ret ((2,(.bool false))::E) D H) (fun g=>GO3 g (SEQ3 (W M c (qj 78)) Q) .normal E D H)) /\
 (∀ Q E D H,W M c (qj 52) true Q E D H =
  LK true (lk E 72) fun g t72=>LK g (lk E 70) fun g t70=>B3 g ((Op.indexSl 1) [t70,t72]) fun g t75=>B3 g (Op.load1 [t75] H) fun g t76=>W M c (qj 56) g (BLK3 3 (SEQ3 (W M c (qj 65)) Q)) ((11,t76)::(10,t72)::E) D H) /\
 (∀ Q E D H,W M c (qj 78) true Q E D H =
  LK true (lk E 4) fun g t4=>LK g (lk E 5) fun g t5=>B3 g ((Op.indexSl 1) [t4,t5]) fun g t119=>B32 g ((Op.store 1) [t119,(.bool true)] H) fun g u H1=>GO3 g Q .normal E D H1) /\
 (∀ Q E D H,W M c (qj 65) true Q E D H =
  LK true (lk E 72) fun g t72=>B3 g ((Op.bin .add) [t72,(.int .i64 1)]) fun g t109=>GO3 g Q .normal ((72,t109)::E) D H) /\
 (∀ Q E D H,W M c (qj 56) true Q E D H =
  LK true (lk E 9) fun g t9=>LK g (lk E 10) fun g t10=>B3 g ((Op.indexSl 1) [t9,t10]) fun g t79=>B3 g (Op.load1 [t79] H) fun g t80=>LK g (lk E 11) fun g t11=>B3 g ((Op.bin .neq) [t80,t11]) fun g t82=>JN (fun (k:Bool -> AV -> AV -> AV -> AV -> AV -> AV -> AV -> AV -> AV -> AV -> AV -> AHeap -> Prop)=>B3 g (wantV false (some t82)) fun g w=>IG3 g w (fun g=>LK g (lk E 0) fun g t0=>B3 g ((Op.indexSl 3) [t0,t11]) fun g t86=>B3 g ((Op.fieldAddr 0) [t86]) fun g t87=>B3 g (Op.load1 [t87] H) fun g t88=>LK g (lk E 7) fun g t7=>B3 g ((Op.indexSl 1) [t7,t10]) fun g t92=>B3 g (Op.load1 [t92] H) fun g t93=>C3 M g (.func qaz) [t88] H fun g t89 H1=>CK3 g (Op.load1 [t92] H1) (some t93) fun g=>B3 g ((Op.bin .neq) [t89,t93]) fun g t94=>k g t94 t89 t93 t92 t10 t7 t88 t87 t86 t11 t0 H1) (fun g=>k g uu uu uu uu uu uu uu uu uu uu uu H)) (fun g t94_1 t89_1 t93_1 t92_1 t91_1 t90_1 t88_1 t87_1 t86_1 t85_1 t84_1 H2=>B3 g (Op.pick [t82,(.bool true),t94_1]) fun g t95=>IF3 g t95 (fun g=>GO3 g (SEQ3 (W M c (qj 64)) Q) .ret ((2,(.bool false))::E) D H2) (fun g=>GO3 g (SEQ3 (W M c (qj 64)) Q) .normal E D H2))) /\
 (∀ Q E D H,W M c (qj 64) true Q E D H =
  LK true (lk E 4) fun g t4=>LK g (lk E 5) fun g t5=>B3 g ((Op.indexSl 1) [t4,t5]) fun g t100=>B3 g (Op.load1 [t100] H) fun g t101=>JN (fun (k:Bool -> AV -> AV -> AV -> AV -> AHeap -> Prop)=>B3 g (wantV false (some t101)) fun g w=>IG3 g w (fun g=>LK g (lk E 11) fun g t11=>B3 g ((Op.indexSl 1) [t4,t11]) fun g t105=>B3 g (Op.load1 [t105] H) fun g t106=>k g t106 t105 t11 t4 H) (fun g=>k g uu uu uu uu H)) (fun g t106_1 t105_1 t104_1 t103_1 H1=>B3 g (Op.pick [t101,(.bool true),t106_1]) fun g t107=>B3 g ((Op.indexSl 1) [t4,t5]) fun g t108=>B32 g ((Op.store 1) [t108,t107] H1) fun g u H2=>GO3 g Q .normal E D H2)):=by (repeat' apply And.intro)<;>(intro _ _ _ _; refine W_unf ?_; kernel_rfl)
theorem qr2:(cProg Tryd.prog).func j6 = some qjj /\ qjj.results = [.tmp 2]:=xf (by kernel_rfl)
theorem qx6 {M:Mac} [MK M]:M.func j6 = some qjj:=MK.at (by decide) qr2.1
theorem q0t {M:Mac} [MK M] {a0:AV} {H:AHeap} {Q:AEnd -> AHeap -> Prop} (h:W M ⟨none,j6⟩ (qj 0) true (FIN3 M [.tmp 2] Q) [(0,a0)] [] H):CALLE M j6 [a0] H Q :=
 calle qx6 (ks:=qso) (by kernel_rfl) (by rw [qr2.2]; exact h)
def qal:AFunc:=funcAt Tryd.prog z6
def qfy:Kp:=⟨[0,1,2,7,15,16,17],false,[0,4,10,19]⟩
def zn (k:Nat):Kp × ACode:=(qfy,part qal.body k)
theorem ky (M:Mac) (c:Ctx):(∀ Q E D H,W M c (zn 0) true Q E D H =
 LK true (lk E 0) fun g t0=>B3 g (Op.nilCheck [t0]) fun g t9=>B3 g ((Op.fieldAddr 2) [t9]) fun g t10=>B3 g (Op.load1 [t10] H) fun g t11=>LK g (lk E 1) fun g t1=>B3 g ((Op.indexSl 3) [t11,t1]) fun g t13=>B3 g ((Op.fieldAddr 2) [t13]) fun g t14=>B3 g (Op.load1 [t14] H) fun g t15=>B3 g (Op.lenSl [t15]) fun g t16=>LOOP3 (W M c (zn 4)) (BLK3 0 Q) ((17,(.int .i64 0))::(16,t16)::(15,t15)::E) D H) /\
 (∀ Q E D H,W M c (zn 4) true Q E D H =
  LK true (lk E 17) fun g t17=>LK g (lk E 16) fun g t16=>B3 g ((Op.bin .lss) [t17,t16]) fun g t18=>IF3 g t18 (fun g=>GO3 g (SEQ3 (W M c (zn 10)) Q) .normal E D H) (fun g=>GO3 g (SEQ3 (W M c (zn 10)) Q) (.exit 0) E D H)) /\
 (∀ Q E D H,W M c (zn 10) true Q E D H =
  LK true (lk E 15) fun g t15=>LK g (lk E 17) fun g t17=>B3 g ((Op.indexSl 1) [t15,t17]) fun g t19=>B3 g (Op.load1 [t19] H) fun g t20=>LK g (lk E 0) fun g t0=>LK g (lk E 2) fun g t2=>C3 M g (.func jh) [(.str [32,32]),t2] H fun g t23 H1=>C3 M g (.func qf) [t0,t23] H1 fun g t24 H2=>LK g (lk E 0) fun g t0_1=>LK g (lk E 2) fun g t2_1=>C3 M g (.func xa) [t0_1,t20,t2_1] H2 fun g t28 H3=>LK g (lk E 0) fun g t0_2=>C3 M g (.func qf) [t0_2,(.str [10])] H3 fun g t30 H4=>GO3 g (BLK3 1 (SEQ3 (W M c (zn 19)) Q)) .normal ((7,t20)::E) D H4) /\
 (∀ Q E D H,W M c (zn 19) true Q E D H =
  LK true (lk E 17) fun g t17=>B3 g ((Op.bin .add) [t17,(.int .i64 1)]) fun g t31=>GO3 g Q .normal ((17,t31)::E) D H):=by (repeat' apply And.intro)<;>(intro _ _ _ _; refine W_unf ?_; kernel_rfl)
theorem qfm:(cProg Tryd.prog).func z6 = some qal /\ qal.results = []:=xf (by kernel_rfl)
theorem qj8 {M:Mac} [MK M]:M.func z6 = some qal:=MK.at (by decide) qfm.1
theorem qk1 {M:Mac} [MK M] {a0 a1 a2:AV} {H:AHeap} {Q:AEnd -> AHeap -> Prop} (h:W M ⟨none,z6⟩ (zn 0) true (FIN3 M [] Q) [(0,a0),(1,a1),(2,a2)] [] H):CALLE M z6 [a0,a1,a2] H Q :=
 calle qj8 (ks:=qfy) (by kernel_rfl) (by rw [qfm.2]; exact h)
def qf5:AFunc:=funcAt Tryd.prog qa1
def qnx:Kp:=⟨[0,1,2,3,4,33,43,51,75],false,[0,4,12,24,28,34,38,44,54,60,70,77]⟩
def qw (k:Nat):Kp × ACode:=(qnx,part qf5.body k)
theorem x9 (M:Mac) (c:Ctx):(∀ Q E D H,W M c (qw 0) true Q E D H =
 LK true (lk E 0) fun g t0=>A3 g qk (AV.cells t0) H fun g t1 H1=>B3 g ((Op.fieldAddr 0) [t1]) fun g t5=>B3 g (Op.load1 [t5] H1) fun g t6=>B3 g ((Op.bin .eql) [t6,(.int .i64 2)]) fun g t7=>JN (fun (k:Bool -> AV -> AV -> AV -> AHeap -> Prop)=>B3 g (wantV false (some t7)) fun g w=>IG3 g w (fun g=>B3 g ((Op.fieldAddr 0) [t1]) fun g t9=>B3 g (Op.load1 [t9] H1) fun g t10=>B3 g ((Op.bin .eql) [t10,(.int .i64 14)]) fun g t11=>k g t11 t10 t9 H1) (fun g=>k g uu uu uu H1)) (fun g t11_1 t10_1 t9_1 H2=>B3 g (Op.pick [t7,(.bool true),t11_1]) fun g t12=>W M c (qw 4) g Q ((4,t12)::(3,(.bool false))::(2,.nils)::(1,t1)::E) D H2)) /\
 (∀ Q E D H,W M c (qw 4) true Q E D H =
  LK true (lk E 4) fun g t4=>JN (fun (k:Bool -> AV -> AV -> AV -> AHeap -> Prop)=>B3 g (wantV true (some t4)) fun g w=>IG3 g w (fun g=>LK g (lk E 1) fun g t1=>B3 g ((Op.fieldAddr 1) [t1]) fun g t15=>B3 g (Op.load1 [t15] H) fun g t16=>B3 g ((Op.bin .gtr) [t16,(.int .u64 7)]) fun g t17=>k g t17 t16 t15 H) (fun g=>k g uu uu uu H)) (fun g t17_1 t16_1 t15_1 H1=>B3 g (Op.pick [t4,t17_1,(.bool false)]) fun g t18=>JN (fun (k:Bool -> AV -> AV -> AV -> AHeap -> Prop)=>B3 g (wantV false (some t18)) fun g w=>IG3 g w (fun g=>B3 g ((Op.un .not) [t4]) fun g t21=>k g t21 t21 t4 H1) (fun g=>k g uu uu uu H1)) (fun g t22_1 t21_1 t20_1 H2=>JN (fun (k:Bool -> AV -> AV -> AV -> AHeap -> Prop)=>B3 g (wantV true (some t22_1)) fun g w=>IG3 g w (fun g=>LK g (lk E 1) fun g t1_1=>B3 g ((Op.fieldAddr 0) [t1_1]) fun g t23=>B3 g (Op.load1 [t23] H2) fun g t24=>B3 g ((Op.bin .neq) [t24,(.int .i64 1)]) fun g t25=>k g t25 t24 t23 H2) (fun g=>k g uu uu uu H2)) (fun g t25_1 t24_1 t23_1 H3=>JN (fun (k:Bool -> AV -> AV -> AHeap -> Prop)=>B3 g (wantV false (some t18)) fun g w=>IG3 g w (fun g=>B3 g (Op.pick [t22_1,t25_1,(.bool false)]) fun g t26=>k g t26 t26 H3) (fun g=>k g uu uu H3)) (fun g t27_1 t26_1 H4=>JN (fun (k:Bool -> AV -> AV -> AV -> AHeap -> Prop)=>B3 g (wantV true (some t27_1)) fun g w=>IG3 g w (fun g=>LK g (lk E 1) fun g t1_2=>B3 g ((Op.fieldAddr 1) [t1_2]) fun g t28=>B3 g (Op.load1 [t28] H4) fun g t29=>B3 g ((Op.bin .neq) [t29,(.int .u64 0)]) fun g t30=>k g t30 t29 t28 H4) (fun g=>k g uu uu uu H4)) (fun g t30_1 t29_1 t28_1 H5=>JN (fun (k:Bool -> AV -> AHeap -> Prop)=>B3 g (wantV false (some t18)) fun g w=>IG3 g w (fun g=>B3 g (Op.pick [t27_1,t30_1,(.bool false)]) fun g t31=>k g t31 H5) (fun g=>k g uu H5)) (fun g t31_1 H6=>B3 g (Op.pick [t18,(.bool true),t31_1]) fun g t32=>IF3 g t32 (fun g=>GO3 g (SEQ3 (W M c (qw 12)) Q) .ret ((3,(.bool false))::(2,.nils)::E) D H6) (fun g=>GO3 g (SEQ3 (W M c (qw 12)) Q) .normal E D H6)))))))) /\
 (∀ Q E D H,W M c (qw 12) true Q E D H =
  LK true (lk E 1) fun g t1=>B3 g ((Op.fieldAddr 0) [t1]) fun g t34=>B3 g (Op.load1 [t34] H) fun g t35=>B3 g ((Op.bin .eql) [t35,(.int .i64 1)]) fun g t36=>IF3 g t36 (fun g=>GO3 g (SEQ3 (W M c (qw 24)) (BLK3 0 (SEQ3 (W M c (qw 77)) Q))) .normal ((33,t36)::E) D H) (fun g=>LK g (lk E 1) fun g t1_1=>B3 g ((Op.fieldAddr 0) [t1_1]) fun g t37=>B3 g (Op.load1 [t37] H) fun g t38=>B3 g ((Op.bin .eql) [t38,(.int .i64 2)]) fun g t39=>IF3 g t39 (fun g=>GO3 g (SEQ3 (W M c (qw 24)) (BLK3 0 (SEQ3 (W M c (qw 77)) Q))) .normal ((33,t39)::(33,t36)::E) D H) (fun g=>LK g (lk E 1) fun g t1_2=>B3 g ((Op.fieldAddr 0) [t1_2]) fun g t40=>B3 g (Op.load1 [t40] H) fun g t41=>B3 g ((Op.bin .eql) [t41,(.int .i64 19)]) fun g t42=>GO3 g (SEQ3 (W M c (qw 24)) (BLK3 0 (SEQ3 (W M c (qw 77)) Q))) .normal ((33,t42)::(33,t39)::(33,t36)::E) D H))) /\
 (∀ Q E D H,W M c (qw 77) true Q E D H =
  GO3 true Q .ret ((3,(.bool false))::(2,.nils)::E) D H) /\
 (∀ Q E D H,W M c (qw 24) true Q E D H =
  LK true (lk E 33) fun g t33=>IF3 g t33 (fun g=>GO3 g Q .ret ((3,(.bool true))::(2,.nils)::E) D H) (fun g=>W M c (qw 28) g Q E D H)) /\
 (∀ Q E D H,W M c (qw 28) true Q E D H =
  LK true (lk E 1) fun g t1=>B3 g ((Op.fieldAddr 0) [t1]) fun g t44=>B3 g (Op.load1 [t44] H) fun g t45=>B3 g ((Op.bin .eql) [t45,(.int .i64 3)]) fun g t46=>IF3 g t46 (fun g=>GO3 g (SEQ3 (W M c (qw 34)) Q) .normal ((43,t46)::E) D H) (fun g=>LK g (lk E 1) fun g t1_1=>B3 g ((Op.fieldAddr 0) [t1_1]) fun g t47=>B3 g (Op.load1 [t47] H) fun g t48=>B3 g ((Op.bin .eql) [t48,(.int .i64 14)]) fun g t49=>GO3 g (SEQ3 (W M c (qw 34)) Q) .normal ((43,t49)::(43,t46)::E) D H)) /\
 (∀ Q E D H,W M c (qw 34) true Q E D H =
  LK true (lk E 43) fun g t43=>IF3 g t43 (fun g=>B32 g ((Op.buildSlice T_int 1 [(.int .i64 0)] [(0,1)]) [(.int .i64 1)]) fun g o1 k1=>GO3 g Q .ret ((3,(.bool true))::(2,(k1 H.next))::E) D (H.alloc o1)) (fun g=>W M c (qw 38) g Q E D H)) /\
 (∀ Q E D H,W M c (qw 38) true Q E D H =
  LK true (lk E 1) fun g t1=>B3 g ((Op.fieldAddr 0) [t1]) fun g t52=>B3 g (Op.load1 [t52] H) fun g t53=>B3 g ((Op.bin .geq) [t53,(.int .i64 4)]) fun g t54=>JN (fun (k:Bool -> AV -> AV -> AV -> AHeap -> Prop)=>B3 g (wantV true (some t54)) fun g w=>IG3 g w (fun g=>B3 g ((Op.fieldAddr 0) [t1]) fun g t56=>B3 g (Op.load1 [t56] H) fun g t57=>B3 g ((Op.bin .leq) [t57,(.int .i64 13)]) fun g t58=>k g t58 t57 t56 H) (fun g=>k g uu uu uu H)) (fun g t58_1 t57_1 t56_1 H1=>B3 g (Op.pick [t54,t58_1,(.bool false)]) fun g t59=>IF3 g t59 (fun g=>GO3 g (SEQ3 (W M c (qw 44)) Q) .normal ((51,t59)::E) D H1) (fun g=>LK g (lk E 1) fun g t1_1=>B3 g ((Op.fieldAddr 0) [t1_1]) fun g t60=>B3 g (Op.load1 [t60] H1) fun g t61=>B3 g ((Op.bin .eql) [t61,(.int .i64 15)]) fun g t62=>GO3 g (SEQ3 (W M c (qw 44)) Q) .normal ((51,t62)::(51,t59)::E) D H1))) /\
 (∀ Q E D H,W M c (qw 44) true Q E D H =
  LK true (lk E 51) fun g t51=>IF3 g t51 (fun g=>B32 g ((Op.buildSlice T_int 2 [(.int .i64 0)] [(0,1),(1,1)]) [(.int .i64 1),(.int .i64 1)]) fun g o1 k1=>GO3 g Q .ret ((3,(.bool true))::(2,(k1 H.next))::E) D (H.alloc o1)) (fun g=>LK g (lk E 1) fun g t1=>B3 g ((Op.fieldAddr 0) [t1]) fun g t65=>B3 g (Op.load1 [t65] H) fun g t66=>B3 g ((Op.bin .eql) [t66,(.int .i64 16)]) fun g t67=>JN (fun (k:Bool -> AV -> AV -> AV -> AV -> AHeap -> Prop)=>B3 g (wantV true (some t67)) fun g w=>IG3 g w (fun g=>B3 g ((Op.fieldAddr 2) [t1]) fun g t69=>B3 g (Op.load1 [t69] H) fun g t70=>B3 g (Op.lenSl [t70]) fun g t71=>B3 g ((Op.bin .eql) [t71,(.int .i64 3)]) fun g t72=>k g t72 t71 t70 t69 H) (fun g=>k g uu uu uu uu H)) (fun g t72_1 t71_1 t70_1 t69_1 H1=>B3 g (Op.pick [t67,t72_1,(.bool false)]) fun g t73=>IF3 g t73 (fun g=>B32 g ((Op.buildSlice T_int 3 [(.int .i64 0)] [(0,1),(1,1),(2,1)]) [(.int .i64 2),(.int .i64 4),(.int .i64 4)]) fun g o2 k2=>GO3 g Q .ret ((3,(.bool true))::(2,(k2 H1.next))::E) D (H1.alloc o2)) (fun g=>W M c (qw 54) g Q E D H1)))) /\
 (∀ Q E D H,W M c (qw 54) true Q E D H =
  LK true (lk E 1) fun g t1=>B3 g ((Op.fieldAddr 0) [t1]) fun g t76=>B3 g (Op.load1 [t76] H) fun g t77=>B3 g ((Op.bin .eql) [t77,(.int .i64 16)]) fun g t78=>IF3 g t78 (fun g=>GO3 g (SEQ3 (W M c (qw 60)) Q) .normal ((75,t78)::E) D H) (fun g=>LK g (lk E 1) fun g t1_1=>B3 g ((Op.fieldAddr 0) [t1_1]) fun g t79=>B3 g (Op.load1 [t79] H) fun g t80=>B3 g ((Op.bin .eql) [t80,(.int .i64 17)]) fun g t81=>GO3 g (SEQ3 (W M c (qw 60)) Q) .normal ((75,t81)::(75,t78)::E) D H)) /\
 (∀ Q E D H,W M c (qw 60) true Q E D H =
  LK true (lk E 75) fun g t75=>IF3 g t75 (fun g=>B32 g ((Op.buildSlice T_int 2 [(.int .i64 0)] [(0,1),(1,1)]) [(.int .i64 2),(.int .i64 4)]) fun g o1 k1=>GO3 g Q .ret ((3,(.bool true))::(2,(k1 H.next))::E) D (H.alloc o1)) (fun g=>LK g (lk E 1) fun g t1=>B3 g ((Op.fieldAddr 0) [t1]) fun g t84=>B3 g (Op.load1 [t84] H) fun g t85=>B3 g ((Op.bin .eql) [t85,(.int .i64 18)]) fun g t86=>IF3 g t86 (fun g=>B32 g ((Op.buildSlice T_int 1 [(.int .i64 0)] [(0,1)]) [(.int .i64 4)]) fun g o1 k1=>GO3 g Q .ret ((3,(.bool true))::(2,(k1 H.next))::E) D (H.alloc o1)) (fun g=>W M c (qw 70) g Q E D H))) /\
 (∀ Q E D H,W M c (qw 70) true Q E D H =
  LK true (lk E 1) fun g t1=>B3 g ((Op.fieldAddr 0) [t1]) fun g t89=>B3 g (Op.load1 [t89] H) fun g t90=>B3 g ((Op.bin .eql) [t90,(.int .i64 20)]) fun g t91=>IF3 g t91 (fun g=>B32 g ((Op.buildSlice T_int 1 [(.int .i64 0)] [(0,1)]) [(.int .i64 3)]) fun g o1 k1=>LK g (lk E 1) fun g t1_1=>B3 g ((Op.fieldAddr 2) [t1_1]) fun g t93=>B3 g (Op.load1 [t93] (H.alloc o1)) fun g t94=>B3 g (Op.lenSl [t94]) fun g t95=>C3 M g (.func zu) [(k1 H.next),t95] (H.alloc o1) fun g t96 H2=>GO3 g Q .ret ((3,(.bool true))::(2,t96)::E) D H2) (fun g=>GO3 g Q .normal E D H)):=by (repeat' apply And.intro)<;>(intro _ _ _ _; refine W_unf ?_; kernel_rfl)
theorem qn5:(cProg Tryd.prog).func qa1 = some qf5 /\ qf5.results = [.tmp 2,.tmp 3]:=xf (by kernel_rfl)
theorem qt4 {M:Mac} [MK M]:M.func qa1 = some qf5:=MK.at (by decide) qn5.1
theorem qvr {M:Mac} [MK M] {a0:AV} {H:AHeap} {Q:AEnd -> AHeap -> Prop} (h:W M ⟨none,qa1⟩ (qw 0) true (FIN3 M [.tmp 2,.tmp 3] Q) [(0,a0)] [] H):CALLE M qa1 [a0] H Q :=
 calle qt4 (ks:=qnx) (by kernel_rfl) (by rw [qn5.2]; exact h)
def qfs:AFunc:=funcAt Tryd.prog qaz
def qn1:Kp:=⟨[0,2],false,[0,2,16,29]⟩
def yj (k:Nat):Kp × ACode:=(qn1,part qfs.body k)
theorem qb6 (M:Mac) (c:Ctx):(∀ Q E D H,W M c (yj 0) true Q E D H =
 W M c (yj 2) true Q ((2,(.int .i64 0))::E) D H) /\
 (∀ Q E D H,W M c (yj 2) true Q E D H =
  LK true (lk E 0) fun g t0=>B3 g ((Op.bin .geq) [t0,(.int .i64 1)]) fun g t5=>JN (fun (k:Bool -> AV -> AV -> AHeap -> Prop)=>B3 g (wantV true (some t5)) fun g w=>IG3 g w (fun g=>B3 g ((Op.bin .leq) [t0,(.int .i64 10)]) fun g t8=>k g t8 t0 H) (fun g=>k g uu uu H)) (fun g t8_1 t7_1 H1=>B3 g (Op.pick [t5,t8_1,(.bool false)]) fun g t9=>IF3 g t9 (fun g=>GO3 g (BLK3 0 (SEQ3 (W M c (yj 29)) Q)) .ret ((2,(.int .i64 1))::E) D H1) (fun g=>LK g (lk E 0) fun g t0_1=>B3 g ((Op.bin .geq) [t0_1,(.int .i64 11)]) fun g t12=>JN (fun (k:Bool -> AV -> AV -> AHeap -> Prop)=>B3 g (wantV true (some t12)) fun g w=>IG3 g w (fun g=>B3 g ((Op.bin .leq) [t0_1,(.int .i64 13)]) fun g t15=>k g t15 t0_1 H1) (fun g=>k g uu uu H1)) (fun g t15_1 t14_1 H2=>B3 g (Op.pick [t12,t15_1,(.bool false)]) fun g t16=>IF3 g t16 (fun g=>GO3 g (BLK3 0 (SEQ3 (W M c (yj 29)) Q)) .ret ((2,(.int .i64 2))::E) D H2) (fun g=>W M c (yj 16) g (BLK3 0 (SEQ3 (W M c (yj 29)) Q)) E D H2))))) /\
 (∀ Q E D H,W M c (yj 29) true Q E D H =
  GO3 true Q .ret ((2,(.int .i64 0))::E) D H) /\
 (∀ Q E D H,W M c (yj 16) true Q E D H =
  LK true (lk E 0) fun g t0=>B3 g ((Op.bin .geq) [t0,(.int .i64 14)]) fun g t19=>JN (fun (k:Bool -> AV -> AV -> AHeap -> Prop)=>B3 g (wantV true (some t19)) fun g w=>IG3 g w (fun g=>B3 g ((Op.bin .leq) [t0,(.int .i64 19)]) fun g t22=>k g t22 t0 H) (fun g=>k g uu uu H)) (fun g t22_1 t21_1 H1=>B3 g (Op.pick [t19,t22_1,(.bool false)]) fun g t23=>IF3 g t23 (fun g=>GO3 g Q .ret ((2,(.int .i64 3))::E) D H1) (fun g=>LK g (lk E 0) fun g t0_1=>B3 g ((Op.bin .eql) [t0_1,(.int .i64 20)]) fun g t26=>IF3 g t26 (fun g=>GO3 g Q .ret ((2,(.int .i64 4))::E) D H1) (fun g=>GO3 g Q .normal E D H1)))):=by (repeat' apply And.intro)<;>(intro _ _ _ _; refine W_unf ?_; kernel_rfl)
theorem qn6:(cProg Tryd.prog).func qaz = some qfs /\ qfs.results = [.tmp 2]:=xf (by kernel_rfl)
theorem qun {M:Mac} [MK M]:M.func qaz = some qfs:=MK.at (by decide) qn6.1
theorem qvb {M:Mac} [MK M] {a0:AV} {H:AHeap} {Q:AEnd -> AHeap -> Prop} (h:W M ⟨none,qaz⟩ (yj 0) true (FIN3 M [.tmp 2] Q) [(0,a0)] [] H):CALLE M qaz [a0] H Q :=
 calle qun (ks:=qn1) (by kernel_rfl) (by rw [qn6.2]; exact h)
def wz:AFunc:=funcAt Tryd.prog qf
def qfq:Kp:=⟨[0,1,5,7,8,11,12,34],false,[0,5,11,18,23,27,33,36]⟩
def qv (k:Nat):Kp × ACode:=(qfq,part wz.body k)
theorem qfu (M:Mac) (c:Ctx):(∀ Q E D H,W M c (qv 0) true Q E D H =
 LK true (lk E 1) fun g t1=>B32 g (Op.rangeStr [t1]) fun g o1 k1=>LOOP3 (W M c (qv 5)) (BLK3 0 (SEQ3 (W M c (qv 36)) Q)) ((7,(k1 H.next))::E) D (H.alloc o1)) /\
 (∀ Q E D H,W M c (qv 36) true Q E D H =
  LK true (lk E 0) fun g t0=>B3 g (Op.nilCheck [t0]) fun g t45=>B3 g ((Op.fieldAddr 0) [t45]) fun g t46=>LK g (lk E 1) fun g t1=>C3 M g (.func xb) [t46,t1] H fun g t48 H1=>GO3 g Q .normal E D H1) /\
 (∀ Q E D H,W M c (qv 5) true Q E D H =
  LK true (lk E 7) fun g t7=>B32 g (Op.nextStr [t7] H) fun g t8 H1=>B3 g ((Op.extract 0) [t8]) fun g t9=>IF3 g t9 (fun g=>GO3 g (SEQ3 (W M c (qv 11)) Q) .normal ((8,t8)::E) D H1) (fun g=>GO3 g (SEQ3 (W M c (qv 11)) Q) (.exit 0) ((8,t8)::E) D H1)) /\
 (∀ Q E D H,W M c (qv 11) true Q E D H =
  LK true (lk E 8) fun g t8=>B3 g ((Op.extract 2) [t8]) fun g t10=>W M c (qv 18) g (SEQ3 (W M c (qv 23)) (BLK3 2 (BLK3 1 Q))) ((11,t10)::(5,t10)::E) D H) /\
 (∀ Q E D H,W M c (qv 23) true Q E D H =
  LK true (lk E 12) fun g t12=>IF3 g t12 (fun g=>LK g (lk E 0) fun g t0=>B3 g (Op.nilCheck [t0]) fun g t16=>B3 g ((Op.fieldAddr 3) [t16]) fun g t17=>B3 g (Op.load1 [t17] H) fun g t18=>B3 g ((Op.bin .add) [t18,(.int .i64 1)]) fun g t19=>B3 g (Op.nilCheck [t0]) fun g t20=>B3 g ((Op.fieldAddr 3) [t20]) fun g t21=>B32 g ((Op.store 1) [t21,t19] H) fun g u H1=>LK g (lk E 0) fun g t0_1=>B3 g (Op.nilCheck [t0_1]) fun g t24=>B3 g ((Op.fieldAddr 4) [t24]) fun g t25=>B3 g (Op.load1 [t25] H1) fun g t26=>B3 g (Op.nilCheck [t0_1]) fun g t28=>B3 g ((Op.fieldAddr 3) [t28]) fun g t29=>B3 g (Op.load1 [t29] H1) fun g t30=>B3 g ((Op.minmax true) [t26,t30]) fun g t31=>B3 g (Op.nilCheck [t0_1]) fun g t32=>B3 g ((Op.fieldAddr 4) [t32]) fun g t33=>B32 g ((Op.store 1) [t33,t31] H1) fun g u_1 H2=>GO3 g Q .normal E D H2) (fun g=>W M c (qv 27) g Q E D H)) /\
 (∀ Q E D H,W M c (qv 18) true Q E D H =
  LK true (lk E 11) fun g t11=>B3 g ((Op.bin .eql) [t11,(.int .i32 40)]) fun g t13=>IF3 g t13 (fun g=>GO3 g Q .normal ((12,t13)::E) D H) (fun g=>LK g (lk E 11) fun g t11_1=>B3 g ((Op.bin .eql) [t11_1,(.int .i32 123)]) fun g t14=>GO3 g Q .normal ((12,t14)::(12,t13)::E) D H)) /\
 (∀ Q E D H,W M c (qv 27) true Q E D H =
  LK true (lk E 11) fun g t11=>B3 g ((Op.bin .eql) [t11,(.int .i32 41)]) fun g t35=>IF3 g t35 (fun g=>GO3 g (SEQ3 (W M c (qv 33)) Q) .normal ((34,t35)::E) D H) (fun g=>LK g (lk E 11) fun g t11_1=>B3 g ((Op.bin .eql) [t11_1,(.int .i32 125)]) fun g t36=>GO3 g (SEQ3 (W M c (qv 33)) Q) .normal ((34,t36)::(34,t35)::E) D H)) /\
 (∀ Q E D H,W M c (qv 33) true Q E D H =
  LK true (lk E 34) fun g t34=>IF3 g t34 (fun g=>LK g (lk E 0) fun g t0=>B3 g (Op.nilCheck [t0]) fun g t38=>B3 g ((Op.fieldAddr 3) [t38]) fun g t39=>B3 g (Op.load1 [t39] H) fun g t40=>B3 g ((Op.bin .sub) [t40,(.int .i64 1)]) fun g t41=>B3 g (Op.nilCheck [t0]) fun g t42=>B3 g ((Op.fieldAddr 3) [t42]) fun g t43=>B32 g ((Op.store 1) [t43,t41] H) fun g u H1=>GO3 g Q .normal E D H1) (fun g=>GO3 g Q .normal E D H)):=by (repeat' apply And.intro)<;>(intro _ _ _ _; refine W_unf ?_; kernel_rfl)
theorem qfw:(cProg Tryd.prog).func qf = some wz /\ wz.results = []:=xf (by kernel_rfl)
theorem qkm {M:Mac} [MK M]:M.func qf = some wz:=MK.at (by decide) qfw.1
theorem qma {M:Mac} [MK M] {a0 a1:AV} {H:AHeap} {Q:AEnd -> AHeap -> Prop} (h:W M ⟨none,qf⟩ (qv 0) true (FIN3 M [] Q) [(0,a0),(1,a1)] [] H):CALLE M qf [a0,a1] H Q :=
 calle qkm (ks:=qfq) (by kernel_rfl) (by rw [qfw.2]; exact h)
def qbo:AFunc:=funcAt Tryd.prog jh
def qh0:Kp:=⟨[0,1,4,5,6,7,8,9,10,11,42,43],false,[0,2,19,25,27,33,35,43,52,60,65,79,91,99,101,107,113,117,119,122,128,132]⟩
def qd (k:Nat):Kp × ACode:=(qh0,part qbo.body k)
theorem qoh (M:Mac) (c:Ctx):(∀ Q E D H,W M c (qd 0) true Q E D H =
 W M c (qd 2) true Q ((4,(.str []))::E) D H) /\
 (∀ Q E D H,W M c (qd 2) true Q E D H =
  LK true (lk E 1) fun g t1=>B3 g ((Op.bin .eql) [t1,(.int .i64 0)]) fun g t13=>IF3 g t13 (fun g=>GO3 g (BLK3 0 (SEQ3 (W M c (qd 19)) Q)) .ret ((4,(.str []))::(11,t1)::E) D H) (fun g=>B3 g ((Op.bin .eql) [t1,(.int .i64 1)]) fun g t15=>IF3 g t15 (fun g=>LK g (lk E 0) fun g t0=>GO3 g (BLK3 0 (SEQ3 (W M c (qd 19)) Q)) .ret ((4,t0)::(11,t1)::E) D H) (fun g=>GO3 g (BLK3 0 (SEQ3 (W M c (qd 19)) Q)) .normal ((11,t1)::E) D H))) /\
 (∀ Q E D H,W M c (qd 19) true Q E D H =
  LK true (lk E 1) fun g t1=>B3 g ((Op.bin .lss) [t1,(.int .i64 0)]) fun g t18=>IF3 g t18 (fun g=>B3 g ((Op.mkIface yw) [(.str q07)]) fun g t19=>False) (fun g=>GO3 g (SEQ3 (W M c (qd 25)) Q) .normal E D H)) /\
 (∀ Q E D H,W M c (qd 25) true Q E D H =
  LK true (lk E 0) fun g t0=>B3 g (Op.lenStr [t0]) fun g t22=>B3 g ((Op.wrap .u64) [t22]) fun g t23=>LK g (lk E 1) fun g t1=>B3 g ((Op.wrap .u64) [t1]) fun g t25=>C3 M g (.func km) [t23,t25] H fun g t26 H1=>B3 g ((Op.extract 0) [t26]) fun g t27=>B3 g ((Op.extract 1) [t26]) fun g t28=>W M c (qd 27) g Q ((6,t28)::(5,t27)::E) D H1) /\
 (∀ Q E D H,W M c (qd 27) true Q E D H =
  LK true (lk E 5) fun g t5=>B3 g ((Op.bin .gtr) [t5,(.int .u64 0)]) fun g t30=>JN (fun (k:Bool -> AV -> AV -> AHeap -> Prop)=>B3 g (wantV false (some t30)) fun g w=>IG3 g w (fun g=>LK g (lk E 6) fun g t6=>B3 g ((Op.bin .gtr) [t6,(.int .u64 9223372036854775807)]) fun g t33=>k g t33 t6 H) (fun g=>k g uu uu H)) (fun g t33_1 t32_1 H1=>B3 g (Op.pick [t30,(.bool true),t33_1]) fun g t34=>IF3 g t34 (fun g=>B3 g ((Op.mkIface yw) [(.str qz6)]) fun g t35=>False) (fun g=>GO3 g (SEQ3 (W M c (qd 33)) Q) .normal E D H1))) /\
 (∀ Q E D H,W M c (qd 33) true Q E D H =
  LK true (lk E 6) fun g t6=>B3 g ((Op.wrap .i64) [t6]) fun g t37=>W M c (qd 35) g Q ((7,t37)::E) D H) /\
 (∀ Q E D H,W M c (qd 35) true Q E D H =
  LK true (lk E 0) fun g t0=>B3 g (Op.lenStr [t0]) fun g t39=>B3 g ((Op.bin .eql) [t39,(.int .i64 0)]) fun g t40=>IF3 g t40 (fun g=>GO3 g (SEQ3 (W M c (qd 43)) Q) .ret ((4,(.str []))::E) D H) (fun g=>GO3 g (SEQ3 (W M c (qd 43)) Q) .normal E D H)) /\
 (∀ Q E D H,W M c (qd 43) true Q E D H =
  LK true (lk E 0) fun g t0=>B3 g (Op.indexStr [t0,(.int .i64 0)]) fun g t42=>B3 g ((Op.bin .eql) [t42,(.int .u8 32)]) fun g t44=>IF3 g t44 (fun g=>GO3 g (SEQ3 (W M c (qd 65)) (BLK3 1 (SEQ3 (W M c (qd 99)) Q))) .normal ((43,t44)::(42,t42)::E) D H) (fun g=>W M c (qd 52) g (SEQ3 (W M c (qd 65)) (BLK3 1 (SEQ3 (W M c (qd 99)) Q))) ((43,t44)::(42,t42)::E) D H)) /\
 (∀ Q E D H,W M c (qd 99) true Q E D H =
  LK true (lk E 7) fun g t7=>W M c (qd 101) g Q ((8,t7)::E) D H) /\
 (∀ Q E D H,W M c (qd 65) true Q E D H =
  LK true (lk E 43) fun g t43=>IF3 g t43 (fun g=>LK g (lk E 7) fun g t7=>B3 g ((Op.bin .leq) [t7,(.int .i64 128)]) fun g t51=>JN (fun (k:Bool -> AV -> AV -> AHeap -> Prop)=>B3 g (wantV true (some t51)) fun g w=>IG3 g w (fun g=>LK g (lk E 0) fun g t0=>C3 M g (.func xy) [(.str qc7),t0] H fun g t54 H1=>k g t54 t0 H1) (fun g=>k g uu uu H)) (fun g t54_1 t53_1 H2=>B3 g (Op.pick [t51,t54_1,(.bool false)]) fun g t55=>IF3 g t55 (fun g=>LK g (lk E 7) fun g t7_1=>B3 g ((Op.sliceStr [none,(some 0)]) [(.str qc7),t7_1]) fun g t57=>GO3 g (BLK3 2 Q) .ret ((4,t57)::E) D H2) (fun g=>LK g (lk E 7) fun g t7_1=>B3 g ((Op.bin .leq) [t7_1,(.int .i64 128)]) fun g t60=>JN (fun (k:Bool -> AV -> AV -> AHeap -> Prop)=>B3 g (wantV true (some t60)) fun g w=>IG3 g w (fun g=>LK g (lk E 0) fun g t0_1=>C3 M g (.func xy) [(.str qr7),t0_1] H2 fun g t63 H3=>k g t63 t0_1 H3) (fun g=>k g uu uu H2)) (fun g t63_1 t62_1 H4=>B3 g (Op.pick [t60,t63_1,(.bool false)]) fun g t64=>IF3 g t64 (fun g=>LK g (lk E 7) fun g t7_2=>B3 g ((Op.sliceStr [none,(some 0)]) [(.str qr7),t7_2]) fun g t66=>GO3 g (BLK3 2 Q) .ret ((4,t66)::E) D H4) (fun g=>W M c (qd 79) g (BLK3 2 Q) E D H4))))) (fun g=>GO3 g Q .normal E D H)) /\
 (∀ Q E D H,W M c (qd 52) true Q E D H =
  LK true (lk E 42) fun g t42=>B3 g ((Op.bin .eql) [t42,(.int .u8 45)]) fun g t45=>IF3 g t45 (fun g=>GO3 g Q .normal ((43,t45)::E) D H) (fun g=>LK g (lk E 42) fun g t42_1=>B3 g ((Op.bin .eql) [t42_1,(.int .u8 48)]) fun g t46=>IF3 g t46 (fun g=>GO3 g Q .normal ((43,t46)::(43,t45)::E) D H) (fun g=>W M c (qd 60) g Q ((43,t46)::(43,t45)::E) D H))) /\
 (∀ Q E D H,W M c (qd 101) true Q E D H =
  LK true (lk E 7) fun g t7=>B3 g ((Op.bin .gtr) [t7,(.int .i64 8192)]) fun g t96=>IF3 g t96 (fun g=>LK g (lk E 0) fun g t0=>B3 g (Op.lenStr [t0]) fun g t98=>B3 g ((Op.bin .quo) [(.int .i64 8192),t98]) fun g t99=>B3 g (Op.lenStr [t0]) fun g t101=>B3 g ((Op.bin .mul) [t99,t101]) fun g t102=>W M c (qd 107) g (SEQ3 (W M c (qd 113)) Q) ((8,t102)::E) D H) (fun g=>GO3 g (SEQ3 (W M c (qd 113)) Q) .normal E D H)) /\
 (∀ Q E D H,W M c (qd 79) true Q E D H =
  LK true (lk E 7) fun g t7=>B3 g ((Op.bin .leq) [t7,(.int .i64 64)]) fun g t69=>JN (fun (k:Bool -> AV -> AV -> AHeap -> Prop)=>B3 g (wantV true (some t69)) fun g w=>IG3 g w (fun g=>LK g (lk E 0) fun g t0=>C3 M g (.func xy) [(.str qsa),t0] H fun g t72 H1=>k g t72 t0 H1) (fun g=>k g uu uu H)) (fun g t72_1 t71_1 H2=>B3 g (Op.pick [t69,t72_1,(.bool false)]) fun g t73=>IF3 g t73 (fun g=>LK g (lk E 7) fun g t7_1=>B3 g ((Op.sliceStr [none,(some 0)]) [(.str qsa),t7_1]) fun g t75=>GO3 g Q .ret ((4,t75)::E) D H2) (fun g=>LK g (lk E 7) fun g t7_1=>B3 g ((Op.bin .leq) [t7_1,(.int .i64 128)]) fun g t78=>JN (fun (k:Bool -> AV -> AV -> AHeap -> Prop)=>B3 g (wantV true (some t78)) fun g w=>IG3 g w (fun g=>LK g (lk E 0) fun g t0_1=>C3 M g (.func xy) [(.str qrr),t0_1] H2 fun g t81 H3=>k g t81 t0_1 H3) (fun g=>k g uu uu H2)) (fun g t81_1 t80_1 H4=>B3 g (Op.pick [t78,t81_1,(.bool false)]) fun g t82=>IF3 g t82 (fun g=>LK g (lk E 7) fun g t7_2=>B3 g ((Op.sliceStr [none,(some 0)]) [(.str qrr),t7_2]) fun g t84=>GO3 g Q .ret ((4,t84)::E) D H4) (fun g=>W M c (qd 91) g Q E D H4))))) /\
 (∀ Q E D H,W M c (qd 60) true Q E D H =
  LK true (lk E 42) fun g t42=>B3 g ((Op.bin .eql) [t42,(.int .u8 61)]) fun g t47=>IF3 g t47 (fun g=>GO3 g Q .normal ((43,t47)::E) D H) (fun g=>LK g (lk E 42) fun g t42_1=>B3 g ((Op.bin .eql) [t42_1,(.int .u8 9)]) fun g t48=>GO3 g Q .normal ((43,t48)::(43,t47)::E) D H)) /\
 (∀ Q E D H,W M c (qd 113) true Q E D H =
  A3 true vo [.nilp,.nils] H fun g t9 H1=>LK g (lk E 7) fun g t7=>C3 M g (.func zm) [t9,t7] H1 fun g t108 H2=>W M c (qd 117) g Q ((9,t9)::E) D H2) /\
 (∀ Q E D H,W M c (qd 107) true Q E D H =
  LK true (lk E 8) fun g t8=>B3 g ((Op.bin .eql) [t8,(.int .i64 0)]) fun g t104=>IF3 g t104 (fun g=>LK g (lk E 0) fun g t0=>B3 g (Op.lenStr [t0]) fun g t106=>GO3 g Q .normal ((8,t106)::E) D H) (fun g=>GO3 g Q .normal E D H)) /\
 (∀ Q E D H,W M c (qd 91) true Q E D H =
  LK true (lk E 7) fun g t7=>B3 g ((Op.bin .leq) [t7,(.int .i64 64)]) fun g t87=>JN (fun (k:Bool -> AV -> AV -> AHeap -> Prop)=>B3 g (wantV true (some t87)) fun g w=>IG3 g w (fun g=>LK g (lk E 0) fun g t0=>C3 M g (.func xy) [(.str qrw),t0] H fun g t90 H1=>k g t90 t0 H1) (fun g=>k g uu uu H)) (fun g t90_1 t89_1 H2=>B3 g (Op.pick [t87,t90_1,(.bool false)]) fun g t91=>IF3 g t91 (fun g=>LK g (lk E 7) fun g t7_1=>B3 g ((Op.sliceStr [none,(some 0)]) [(.str qrw),t7_1]) fun g t93=>GO3 g Q .ret ((4,t93)::E) D H2) (fun g=>GO3 g Q .normal E D H2))) /\
 (∀ Q E D H,W M c (qd 117) true Q E D H =
  LK true (lk E 0) fun g t0=>LK g (lk E 9) fun g t9=>C3 M g (.func xb) [t9,t0] H fun g t110 H1=>W M c (qd 119) g Q E D H1) /\
 (∀ Q E D H,W M c (qd 119) true Q E D H =
  LOOP3 (W M c (qd 122)) (BLK3 3 (SEQ3 (W M c (qd 132)) Q)) E D H) /\
 (∀ Q E D H,W M c (qd 132) true Q E D H =
  LK true (lk E 9) fun g t9=>C3 M g (.func xm) [t9] H fun g t124 H1=>GO3 g Q .ret ((4,t124)::E) D H1) /\
 (∀ Q E D H,W M c (qd 122) true Q E D H =
  LK true (lk E 9) fun g t9=>C3 M g (.func x6) [t9] H fun g t111 H1=>LK g (lk E 7) fun g t7=>B3 g ((Op.bin .lss) [t111,t7]) fun g t113=>IF3 g t113 (fun g=>GO3 g (SEQ3 (W M c (qd 128)) Q) .normal E D H1) (fun g=>GO3 g (SEQ3 (W M c (qd 128)) Q) (.exit 3) E D H1)) /\
 (∀ Q E D H,W M c (qd 128) true Q E D H =
  LK true (lk E 7) fun g t7=>LK g (lk E 9) fun g t9=>C3 M g (.func x6) [t9] H fun g t115 H1=>B3 g ((Op.bin .sub) [t7,t115]) fun g t116=>C3 M g (.func x6) [t9] H1 fun g t117 H2=>LK g (lk E 8) fun g t8=>B3 g ((Op.minmax false) [t116,t117,t8]) fun g t119=>LK g (lk E 9) fun g t9_1=>C3 M g (.func xm) [t9_1] H2 fun g t120 H3=>B3 g ((Op.sliceStr [none,(some 0)]) [t120,t119]) fun g t122=>C3 M g (.func xb) [t9_1,t122] H3 fun g t123 H4=>GO3 g (BLK3 4 Q) .normal ((10,t119)::E) D H4):=by (repeat' apply And.intro)<;>(intro _ _ _ _; refine W_unf ?_; kernel_rfl)
theorem qhx:(cProg Tryd.prog).func jh = some qbo /\ qbo.results = [.tmp 4]:=xf (by kernel_rfl)
theorem qnc {M:Mac} [MK M]:M.func jh = some qbo:=MK.at (by decide) qhx.1
theorem qn7 {M:Mac} [MK M] {a0 a1:AV} {H:AHeap} {Q:AEnd -> AHeap -> Prop} (h:W M ⟨none,jh⟩ (qd 0) true (FIN3 M [.tmp 4] Q) [(0,a0),(1,a1)] [] H):CALLE M jh [a0,a1] H Q :=
 calle qnc (ks:=qh0) (by kernel_rfl) (by rw [qhx.2]; exact h)
def yi:AFunc:=funcAt Tryd.prog xa
def qb8:Kp:=⟨[0,1,2,6,15,54],false,[0,13,25,31,34,38,53]⟩
def qn (k:Nat):Kp × ACode:=(qb8,part yi.body k)
theorem qi (M:Mac) (c:Ctx):(∀ Q E D H,W M c (qn 0) true Q E D H =
 LK true (lk E 0) fun g t0=>B3 g (Op.nilCheck [t0]) fun g t8=>B3 g ((Op.fieldAddr 2) [t8]) fun g t9=>B3 g (Op.load1 [t9] H) fun g t10=>LK g (lk E 1) fun g t1=>B3 g ((Op.indexSl 3) [t10,t1]) fun g t12=>B3 g ((Op.loadN 3) [t12] H) fun g t13=>A3 g qk [(.int .i64 0),(.int .u64 0),.nils] H fun g t6 H1=>B32 g ((Op.store 3) [t6,t13] H1) fun g u H2=>B3 g ((Op.fieldAddr 0) [t6]) fun g t14=>B3 g (Op.load1 [t14] H2) fun g t15=>B3 g ((Op.bin .eql) [t15,(.int .i64 14)]) fun g t17=>IF3 g t17 (fun g=>LK g (lk E 0) fun g t0_1=>B3 g ((Op.fieldAddr 1) [t6]) fun g t19=>B3 g (Op.load1 [t19] H2) fun g t20=>B3 g ((Op.bin .add) [(.int .u64 97),t20]) fun g t21=>B3 g ((Op.wrap .i32) [t21]) fun g t22=>B3 g (Op.strOfInt [t22]) fun g t23=>B3 g ((Op.bin .add) [t23,(.str [32,61,32])]) fun g t24=>C3 M g (.func qf) [t0_1,t24] H2 fun g t25 H3=>LK g (lk E 0) fun g t0_2=>B3 g ((Op.fieldAddr 2) [t6]) fun g t27=>B3 g (Op.load1 [t27] H3) fun g t28=>B3 g ((Op.indexSl 1) [t28,(.int .i64 0)]) fun g t29=>B3 g (Op.load1 [t29] H3) fun g t30=>C3 M g (.func xc) [t0_2,t30,(.int .i64 0)] H3 fun g t31 H4=>LK g (lk E 0) fun g t0_3=>C3 M g (.func qf) [t0_3,(.str [59])] H4 fun g t33 H5=>GO3 g (BLK3 0 Q) .normal ((15,t15)::(6,t6)::E) D H5) (fun g=>W M c (qn 13) g (BLK3 0 Q) ((15,t15)::(6,t6)::E) D H2)) /\
 (∀ Q E D H,W M c (qn 13) true Q E D H =
  LK true (lk E 15) fun g t15=>B3 g ((Op.bin .eql) [t15,(.int .i64 15)]) fun g t35=>IF3 g t35 (fun g=>LK g (lk E 0) fun g t0=>C3 M g (.func qf) [t0,(.str [115,116,111,114,101,40])] H fun g t37 H1=>LK g (lk E 0) fun g t0_1=>LK g (lk E 6) fun g t6=>B3 g ((Op.fieldAddr 2) [t6]) fun g t39=>B3 g (Op.load1 [t39] H1) fun g t40=>B3 g ((Op.indexSl 1) [t40,(.int .i64 0)]) fun g t41=>B3 g (Op.load1 [t41] H1) fun g t42=>C3 M g (.func xc) [t0_1,t42,(.int .i64 0)] H1 fun g t43 H2=>LK g (lk E 0) fun g t0_2=>C3 M g (.func qf) [t0_2,(.str [44,32])] H2 fun g t45 H3=>LK g (lk E 0) fun g t0_3=>LK g (lk E 6) fun g t6_1=>B3 g ((Op.fieldAddr 2) [t6_1]) fun g t47=>B3 g (Op.load1 [t47] H3) fun g t48=>B3 g ((Op.indexSl 1) [t48,(.int .i64 1)]) fun g t49=>B3 g (Op.load1 [t49] H3) fun g t50=>C3 M g (.func xc) [t0_3,t50,(.int .i64 0)] H3 fun g t51 H4=>LK g (lk E 0) fun g t0_4=>C3 M g (.func qf) [t0_4,(.str [41,59])] H4 fun g t53 H5=>GO3 g Q .normal E D H5) (fun g=>W M c (qn 25) g Q E D H)) /\
 (∀ Q E D H,W M c (qn 25) true Q E D H =
  LK true (lk E 15) fun g t15=>B3 g ((Op.bin .eql) [t15,(.int .i64 16)]) fun g t55=>IF3 g t55 (fun g=>GO3 g (SEQ3 (W M c (qn 31)) Q) .normal ((54,t55)::E) D H) (fun g=>LK g (lk E 15) fun g t15_1=>B3 g ((Op.bin .eql) [t15_1,(.int .i64 17)]) fun g t56=>GO3 g (SEQ3 (W M c (qn 31)) Q) .normal ((54,t56)::(54,t55)::E) D H)) /\
 (∀ Q E D H,W M c (qn 31) true Q E D H =
  LK true (lk E 54) fun g t54=>IF3 g t54 (fun g=>LK g (lk E 0) fun g t0=>B32 g ((Op.buildSlice yw 2 [(.str [])] [(0,1),(1,1)]) [(.str [105,102,32,40]),(.str [119,104,105,108,101,32,40])]) fun g o1 k1=>LK g (lk E 6) fun g t6=>B3 g ((Op.fieldAddr 0) [t6]) fun g t59=>B3 g (Op.load1 [t59] (H.alloc o1)) fun g t60=>B3 g ((Op.bin .sub) [t60,(.int .i64 16)]) fun g t61=>B3 g ((Op.indexSl 1) [(k1 H.next),t61]) fun g t62=>B3 g (Op.load1 [t62] (H.alloc o1)) fun g t63=>C3 M g (.func qf) [t0,t63] (H.alloc o1) fun g t64 H2=>W M c (qn 34) g Q E D H2) (fun g=>LK g (lk E 15) fun g t15=>B3 g ((Op.bin .eql) [t15,(.int .i64 18)]) fun g t94=>IF3 g t94 (fun g=>LK g (lk E 0) fun g t0=>C3 M g (.func qf) [t0,(.str [97,116,111,109,105,99,32])] H fun g t96 H1=>LK g (lk E 0) fun g t0_1=>LK g (lk E 6) fun g t6=>B3 g ((Op.fieldAddr 2) [t6]) fun g t98=>B3 g (Op.load1 [t98] H1) fun g t99=>B3 g ((Op.indexSl 1) [t99,(.int .i64 0)]) fun g t100=>B3 g (Op.load1 [t100] H1) fun g t101=>LK g (lk E 2) fun g t2=>C3 M g (.func zb) [t0_1,t101,t2] H1 fun g t103 H2=>GO3 g Q .normal E D H2) (fun g=>W M c (qn 53) g Q E D H))) /\
 (∀ Q E D H,W M c (qn 34) true Q E D H =
  LK true (lk E 0) fun g t0=>LK g (lk E 6) fun g t6=>B3 g ((Op.fieldAddr 2) [t6]) fun g t66=>B3 g (Op.load1 [t66] H) fun g t67=>B3 g ((Op.indexSl 1) [t67,(.int .i64 0)]) fun g t68=>B3 g (Op.load1 [t68] H) fun g t69=>C3 M g (.func ju) [t0,t69] H fun g t70 H1=>LK g (lk E 0) fun g t0_1=>C3 M g (.func qf) [t0_1,(.str [41,32])] H1 fun g t72 H2=>W M c (qn 38) g Q E D H2) /\
 (∀ Q E D H,W M c (qn 53) true Q E D H =
  LK true (lk E 15) fun g t15=>B3 g ((Op.bin .eql) [t15,(.int .i64 19)]) fun g t105=>IF3 g t105 (fun g=>LK g (lk E 0) fun g t0=>C3 M g (.func qf) [t0,(.str [104,97,108,116,59])] H fun g t107 H1=>GO3 g Q .normal E D H1) (fun g=>GO3 g Q .normal E D H)) /\
 (∀ Q E D H,W M c (qn 38) true Q E D H =
  LK true (lk E 0) fun g t0=>LK g (lk E 6) fun g t6=>B3 g ((Op.fieldAddr 2) [t6]) fun g t74=>B3 g (Op.load1 [t74] H) fun g t75=>B3 g ((Op.indexSl 1) [t75,(.int .i64 1)]) fun g t76=>B3 g (Op.load1 [t76] H) fun g t77=>LK g (lk E 2) fun g t2=>C3 M g (.func zb) [t0,t77,t2] H fun g t79 H1=>LK g (lk E 6) fun g t6_1=>B3 g ((Op.fieldAddr 2) [t6_1]) fun g t80=>B3 g (Op.load1 [t80] H1) fun g t81=>B3 g (Op.lenSl [t81]) fun g t82=>B3 g ((Op.bin .eql) [t82,(.int .i64 3)]) fun g t83=>IF3 g t83 (fun g=>LK g (lk E 0) fun g t0_1=>C3 M g (.func qf) [t0_1,(.str [32,101,108,115,101,32])] H1 fun g t85 H2=>LK g (lk E 0) fun g t0_2=>LK g (lk E 6) fun g t6_2=>B3 g ((Op.fieldAddr 2) [t6_2]) fun g t87=>B3 g (Op.load1 [t87] H2) fun g t88=>B3 g ((Op.indexSl 1) [t88,(.int .i64 2)]) fun g t89=>B3 g (Op.load1 [t89] H2) fun g t90=>LK g (lk E 2) fun g t2_1=>C3 M g (.func zb) [t0_2,t90,t2_1] H2 fun g t92 H3=>GO3 g Q .normal E D H3) (fun g=>GO3 g Q .normal E D H1)):=by (repeat' apply And.intro)<;>(intro _ _ _ _; refine W_unf ?_; kernel_rfl)
theorem qcb:(cProg Tryd.prog).func xa = some yi /\ yi.results = []:=xf (by kernel_rfl)
theorem qgh {M:Mac} [MK M]:M.func xa = some yi:=MK.at (by decide) qcb.1
theorem zj {M:Mac} [MK M] {a0 a1 a2:AV} {H:AHeap} {Q:AEnd -> AHeap -> Prop} (h:W M ⟨none,xa⟩ (qn 0) true (FIN3 M [] Q) [(0,a0),(1,a1),(2,a2)] [] H):CALLE M xa [a0,a1,a2] H Q :=
 calle qgh (ks:=qb8) (by kernel_rfl) (by rw [qcb.2]; exact h)
def vx:AFunc:=funcAt Tryd.prog zu
def qew:Kp:=⟨[0,1,4,5,6,7,8],false,[0,2,8,10,16,20,23,29,31]⟩
def qu (k:Nat):Kp × ACode:=(qew,part vx.body k)
theorem qkh (M:Mac) (c:Ctx):(∀ Q E D H,W M c (qu 0) true Q E D H =
 W M c (qu 2) true Q ((4,.nils)::E) D H) /\
 (∀ Q E D H,W M c (qu 2) true Q E D H =
  LK true (lk E 1) fun g t1=>B3 g ((Op.bin .lss) [t1,(.int .i64 0)]) fun g t10=>IF3 g t10 (fun g=>B3 g ((Op.mkIface yw) [(.str [99,97,110,110,111,116,32,98,101,32,110,101,103,97,116,105,118,101])]) fun g t11=>False) (fun g=>GO3 g (SEQ3 (W M c (qu 8)) Q) .normal E D H)) /\
 (∀ Q E D H,W M c (qu 8) true Q E D H =
  LK true (lk E 0) fun g t0=>B3 g (Op.lenSl [t0]) fun g t14=>B3 g ((Op.wrap .u64) [t14]) fun g t15=>LK g (lk E 1) fun g t1=>B3 g ((Op.wrap .u64) [t1]) fun g t17=>C3 M g (.func km) [t15,t17] H fun g t18 H1=>B3 g ((Op.extract 0) [t18]) fun g t19=>B3 g ((Op.extract 1) [t18]) fun g t20=>W M c (qu 10) g Q ((6,t20)::(5,t19)::E) D H1) /\
 (∀ Q E D H,W M c (qu 10) true Q E D H =
  LK true (lk E 5) fun g t5=>B3 g ((Op.bin .gtr) [t5,(.int .u64 0)]) fun g t22=>JN (fun (k:Bool -> AV -> AV -> AHeap -> Prop)=>B3 g (wantV false (some t22)) fun g w=>IG3 g w (fun g=>LK g (lk E 6) fun g t6=>B3 g ((Op.bin .gtr) [t6,(.int .u64 9223372036854775807)]) fun g t25=>k g t25 t6 H) (fun g=>k g uu uu H)) (fun g t25_1 t24_1 H1=>B3 g (Op.pick [t22,(.bool true),t25_1]) fun g t26=>IF3 g t26 (fun g=>B3 g ((Op.mkIface yw) [(.str qz9)]) fun g t27=>False) (fun g=>GO3 g (SEQ3 (W M c (qu 16)) Q) .normal E D H1))) /\
 (∀ Q E D H,W M c (qu 16) true Q E D H =
  LK true (lk E 6) fun g t6=>B3 g ((Op.wrap .i64) [t6]) fun g t29=>B32 g ((Op.mkSlice T_int 8 [(.int .i64 0)]) [t29,t29]) fun g o1 k1=>LK g (lk E 0) fun g t0=>B32 g ((Op.copy 1) [(k1 H.next),t0] (H.alloc o1)) fun g t33 H2=>W M c (qu 20) g Q ((8,t33)::(7,(k1 H.next))::E) D H2) /\
 (∀ Q E D H,W M c (qu 20) true Q E D H =
  LOOP3 (W M c (qu 23)) (BLK3 0 (SEQ3 (W M c (qu 31)) Q)) E D H) /\
 (∀ Q E D H,W M c (qu 31) true Q E D H =
  LK true (lk E 7) fun g t7=>GO3 g Q .ret ((4,t7)::E) D H) /\
 (∀ Q E D H,W M c (qu 23) true Q E D H =
  LK true (lk E 8) fun g t8=>LK g (lk E 7) fun g t7=>B3 g (Op.lenSl [t7]) fun g t36=>B3 g ((Op.bin .lss) [t8,t36]) fun g t37=>IF3 g t37 (fun g=>GO3 g (SEQ3 (W M c (qu 29)) Q) .normal E D H) (fun g=>GO3 g (SEQ3 (W M c (qu 29)) Q) (.exit 0) E D H)) /\
 (∀ Q E D H,W M c (qu 29) true Q E D H =
  LK true (lk E 8) fun g t8=>LK g (lk E 7) fun g t7=>B3 g ((Op.sliceSl 1 [(some 0),none,none]) [t7,t8]) fun g t41=>B3 g ((Op.sliceSl 1 [none,(some 0),none]) [t7,t8]) fun g t44=>B32 g ((Op.copy 1) [t41,t44] H) fun g t45 H1=>B3 g ((Op.bin .add) [t8,t45]) fun g t46=>GO3 g (BLK3 1 Q) .normal ((8,t46)::E) D H1):=by (repeat' apply And.intro)<;>(intro _ _ _ _; refine W_unf ?_; kernel_rfl)
theorem qfb:(cProg Tryd.prog).func zu = some vx /\ vx.results = [.tmp 4]:=xf (by kernel_rfl)
theorem qjr {M:Mac} [MK M]:M.func zu = some vx:=MK.at (by decide) qfb.1
theorem qj7 {M:Mac} [MK M] {a0 a1:AV} {H:AHeap} {Q:AEnd -> AHeap -> Prop} (h:W M ⟨none,zu⟩ (qu 0) true (FIN3 M [.tmp 4] Q) [(0,a0),(1,a1)] [] H):CALLE M zu [a0,a1] H Q :=
 calle qjr (ks:=qew) (by kernel_rfl) (by rw [qfb.2]; exact h)
def qcj:AFunc:=funcAt Tryd.prog km
def qi1:Kp:=⟨[0,1,4,5,6,7,8,9],false,[0,10]⟩
def qat (k:Nat):Kp × ACode:=(qi1,part qcj.body k)
theorem qii (M:Mac) (c:Ctx):(∀ Q E D H,W M c (qat 0) true Q E D H =
 IF3 true (.bool false) (fun g=>LK g (lk E 0) fun g t0=>B3 g ((Op.wrap .u32) [t0]) fun g t12=>LK g (lk E 1) fun g t1=>B3 g ((Op.wrap .u32) [t1]) fun g t14=>C3 M g (.func qmg) [t12,t14] H fun g t15 H1=>B3 g ((Op.extract 0) [t15]) fun g t16=>B3 g ((Op.extract 1) [t15]) fun g t17=>B3 g ((Op.wrap .u64) [t16]) fun g t19=>B3 g ((Op.wrap .u64) [t17]) fun g t21=>GO3 g (SEQ3 (W M c (qat 10)) Q) .ret ((5,t21)::(4,t19)::(7,t17)::(6,t16)::(5,(.int .u64 0))::(4,(.int .u64 0))::E) D H1) (fun g=>GO3 g (SEQ3 (W M c (qat 10)) Q) .normal ((5,(.int .u64 0))::(4,(.int .u64 0))::E) D H)) /\
 (∀ Q E D H,W M c (qat 10) true Q E D H =
  LK true (lk E 0) fun g t0=>LK g (lk E 1) fun g t1=>C3 M g (.func j7) [t0,t1] H fun g t25 H1=>B3 g ((Op.extract 0) [t25]) fun g t26=>B3 g ((Op.extract 1) [t25]) fun g t27=>GO3 g Q .ret ((5,t27)::(4,t26)::(9,t27)::(8,t26)::E) D H1):=by (repeat' apply And.intro)<;>(intro _ _ _ _; refine W_unf ?_; kernel_rfl)
theorem qix:(cProg Tryd.prog).func km = some qcj /\ qcj.results = [.tmp 4,.tmp 5]:=xf (by kernel_rfl)
theorem qof {M:Mac} [MK M]:M.func km = some qcj:=MK.at (by decide) qix.1
theorem qqf {M:Mac} [MK M] {a0 a1:AV} {H:AHeap} {Q:AEnd -> AHeap -> Prop} (h:W M ⟨none,km⟩ (qat 0) true (FIN3 M [.tmp 4,.tmp 5] Q) [(0,a0),(1,a1)] [] H):CALLE M km [a0,a1] H Q :=
 calle qof (ks:=qi1) (by kernel_rfl) (by rw [qix.2]; exact h)
def vv:AFunc:=funcAt Tryd.prog xy
def qfk:Kp:=⟨[0,1,4],false,[0]⟩
def qe8 (k:Nat):Kp × ACode:=(qfk,part vv.body k)
theorem qfe (M:Mac) (c:Ctx):(∀ Q E D H,W M c (qe8 0) true Q E D H =
 LK true (lk E 0) fun g t0=>LK g (lk E 1) fun g t1=>C3 M g (.func xq) [t0,t1] H fun g t7 H1=>GO3 g Q .ret ((4,t7)::(4,(.bool false))::E) D H1):=by intro _ _ _ _; refine W_unf ?_; kernel_rfl
theorem qfa:(cProg Tryd.prog).func xy = some vv /\ vv.results = [.tmp 4]:=xf (by kernel_rfl)
theorem qjs {M:Mac} [MK M]:M.func xy = some vv:=MK.at (by decide) qfa.1
theorem qku {M:Mac} [MK M] {a0 a1:AV} {H:AHeap} {Q:AEnd -> AHeap -> Prop} (h:W M ⟨none,xy⟩ (qe8 0) true (FIN3 M [.tmp 4] Q) [(0,a0),(1,a1)] [] H):CALLE M xy [a0,a1] H Q :=
 calle qjs (ks:=qfk) (by kernel_rfl) (by rw [qfa.2]; exact h)
def qah:AFunc:=funcAt Tryd.prog xc
def qf4:Kp:=⟨[0,1,2,6,7,9,18],false,[0,9,21,25,31,35]⟩
def xk (k:Nat):Kp × ACode:=(qf4,part qah.body k)
theorem zp (M:Mac) (c:Ctx):(∀ Q E D H,W M c (xk 0) true Q E D H =
 LK true (lk E 0) fun g t0=>B3 g (Op.nilCheck [t0]) fun g t11=>B3 g ((Op.fieldAddr 2) [t11]) fun g t12=>B3 g (Op.load1 [t12] H) fun g t13=>LK g (lk E 1) fun g t1=>B3 g ((Op.indexSl 3) [t13,t1]) fun g t15=>B3 g ((Op.loadN 3) [t15] H) fun g t16=>A3 g qk [(.int .i64 0),(.int .u64 0),.nils] H fun g t6 H1=>B32 g ((Op.store 3) [t6,t16] H1) fun g u H2=>B3 g ((Op.fieldAddr 0) [t6]) fun g t17=>B3 g (Op.load1 [t17] H2) fun g t18=>B3 g ((Op.bin .eql) [t18,(.int .i64 1)]) fun g t58=>IF3 g t58 (fun g=>LK g (lk E 0) fun g t0_1=>B3 g ((Op.fieldAddr 1) [t6]) fun g t60=>B3 g (Op.load1 [t60] H2) fun g t61=>C3 M g (.func z4) [t61,(.int .i64 10)] H2 fun g t62 H3=>C3 M g (.func qf) [t0_1,t62] H3 fun g t63 H4=>GO3 g (BLK3 0 Q) .normal ((18,t18)::(6,t6)::E) D H4) (fun g=>W M c (xk 9) g (BLK3 0 Q) ((18,t18)::(6,t6)::E) D H2)) /\
 (∀ Q E D H,W M c (xk 9) true Q E D H =
  LK true (lk E 18) fun g t18=>B3 g ((Op.bin .eql) [t18,(.int .i64 2)]) fun g t65=>IF3 g t65 (fun g=>LK g (lk E 0) fun g t0=>LK g (lk E 6) fun g t6=>B3 g ((Op.fieldAddr 1) [t6]) fun g t67=>B3 g (Op.load1 [t67] H) fun g t68=>B3 g ((Op.bin .add) [(.int .u64 97),t68]) fun g t69=>B3 g ((Op.wrap .i32) [t69]) fun g t70=>B3 g (Op.strOfInt [t70]) fun g t71=>C3 M g (.func qf) [t0,t71] H fun g t72 H1=>GO3 g Q .normal E D H1) (fun g=>LK g (lk E 18) fun g t18_1=>B3 g ((Op.bin .eql) [t18_1,(.int .i64 3)]) fun g t74=>IF3 g t74 (fun g=>LK g (lk E 0) fun g t0=>C3 M g (.func qf) [t0,(.str [108,111,97,100,40])] H fun g t76 H1=>LK g (lk E 0) fun g t0_1=>LK g (lk E 6) fun g t6=>B3 g ((Op.fieldAddr 2) [t6]) fun g t78=>B3 g (Op.load1 [t78] H1) fun g t79=>B3 g ((Op.indexSl 1) [t79,(.int .i64 0)]) fun g t80=>B3 g (Op.load1 [t80] H1) fun g t81=>C3 M g (.func xc) [t0_1,t81,(.int .i64 0)] H1 fun g t82 H2=>LK g (lk E 0) fun g t0_2=>C3 M g (.func qf) [t0_2,(.str [41])] H2 fun g t84 H3=>GO3 g Q .normal E D H3) (fun g=>W M c (xk 21) g Q E D H))) /\
 (∀ Q E D H,W M c (xk 21) true Q E D H =
  LK true (lk E 6) fun g t6=>B3 g ((Op.fieldAddr 0) [t6]) fun g t19=>B3 g (Op.load1 [t19] H) fun g t20=>C3 M g (.func qau) [t20] H fun g t21 H1=>C3 M g (.func qbw) [t21] H1 fun g t24 H2=>B3 g ((Op.extract 0) [t24]) fun g t25=>B3 g ((Op.extract 1) [t24]) fun g t26=>W M c (xk 25) g Q ((9,t26)::(7,t21)::E) D H2) /\
 (∀ Q E D H,W M c (xk 25) true Q E D H =
  LK true (lk E 9) fun g t9=>LK g (lk E 2) fun g t2=>B3 g ((Op.bin .lss) [t9,t2]) fun g t29=>IF3 g t29 (fun g=>LK g (lk E 0) fun g t0=>C3 M g (.func qf) [t0,(.str [40])] H fun g t31 H1=>GO3 g (SEQ3 (W M c (xk 31)) Q) .normal E D H1) (fun g=>GO3 g (SEQ3 (W M c (xk 31)) Q) .normal E D H)) /\
 (∀ Q E D H,W M c (xk 31) true Q E D H =
  LK true (lk E 0) fun g t0=>LK g (lk E 6) fun g t6=>B3 g ((Op.fieldAddr 2) [t6]) fun g t33=>B3 g (Op.load1 [t33] H) fun g t34=>B3 g ((Op.indexSl 1) [t34,(.int .i64 0)]) fun g t35=>B3 g (Op.load1 [t35] H) fun g t36=>LK g (lk E 9) fun g t9=>C3 M g (.func xc) [t0,t36,t9] H fun g t38 H1=>LK g (lk E 0) fun g t0_1=>LK g (lk E 7) fun g t7=>B3 g ((Op.bin .add) [(.str [32]),t7]) fun g t41=>B3 g ((Op.bin .add) [t41,(.str [32])]) fun g t42=>C3 M g (.func qf) [t0_1,t42] H1 fun g t43 H2=>W M c (xk 35) g Q E D H2) /\
 (∀ Q E D H,W M c (xk 35) true Q E D H =
  LK true (lk E 0) fun g t0=>LK g (lk E 6) fun g t6=>B3 g ((Op.fieldAddr 2) [t6]) fun g t45=>B3 g (Op.load1 [t45] H) fun g t46=>B3 g ((Op.indexSl 1) [t46,(.int .i64 1)]) fun g t47=>B3 g (Op.load1 [t47] H) fun g t48=>LK g (lk E 9) fun g t9=>B3 g ((Op.bin .add) [t9,(.int .i64 1)]) fun g t50=>C3 M g (.func xc) [t0,t48,t50] H fun g t51 H1=>LK g (lk E 9) fun g t9_1=>LK g (lk E 2) fun g t2=>B3 g ((Op.bin .lss) [t9_1,t2]) fun g t54=>IF3 g t54 (fun g=>LK g (lk E 0) fun g t0_1=>C3 M g (.func qf) [t0_1,(.str [41])] H1 fun g t56 H2=>GO3 g Q .normal E D H2) (fun g=>GO3 g Q .normal E D H1)):=by (repeat' apply And.intro)<;>(intro _ _ _ _; refine W_unf ?_; kernel_rfl)
theorem qfz:(cProg Tryd.prog).func xc = some qah /\ qah.results = []:=xf (by kernel_rfl)
theorem qkj {M:Mac} [MK M]:M.func xc = some qah:=MK.at (by decide) qfz.1
theorem qan {M:Mac} [MK M] {a0 a1 a2:AV} {H:AHeap} {Q:AEnd -> AHeap -> Prop} (h:W M ⟨none,xc⟩ (xk 0) true (FIN3 M [] Q) [(0,a0),(1,a1),(2,a2)] [] H):CALLE M xc [a0,a1,a2] H Q :=
 calle qkj (ks:=qf4) (by kernel_rfl) (by rw [qfz.2]; exact h)
def qao:AFunc:=funcAt Tryd.prog ju
def qfv:Kp:=⟨[0,1,4],false,[0]⟩
def qft (k:Nat):Kp × ACode:=(qfv,part qao.body k)
theorem qag (M:Mac) (c:Ctx):(∀ Q E D H,W M c (qft 0) true Q E D H =
 LK true (lk E 0) fun g t0=>B3 g (Op.nilCheck [t0]) fun g t6=>B3 g ((Op.fieldAddr 2) [t6]) fun g t7=>B3 g (Op.load1 [t7] H) fun g t8=>LK g (lk E 1) fun g t1=>B3 g ((Op.indexSl 3) [t8,t1]) fun g t10=>B3 g ((Op.loadN 3) [t10] H) fun g t11=>A3 g qk [(.int .i64 0),(.int .u64 0),.nils] H fun g t4 H1=>B32 g ((Op.store 3) [t4,t11] H1) fun g u H2=>LK g (lk E 0) fun g t0_1=>B3 g ((Op.fieldAddr 2) [t4]) fun g t13=>B3 g (Op.load1 [t13] H2) fun g t14=>B3 g ((Op.indexSl 1) [t14,(.int .i64 0)]) fun g t15=>B3 g (Op.load1 [t15] H2) fun g t16=>C3 M g (.func xc) [t0_1,t16,(.int .i64 0)] H2 fun g t17 H3=>LK g (lk E 0) fun g t0_2=>B32 g ((Op.buildSlice yw 3 [(.str [])] [(0,1),(1,1),(2,1)]) [(.str [32,61,61,32]),(.str [32,33,61,32]),(.str [32,60,32])]) fun g o4 k4=>B3 g ((Op.fieldAddr 0) [t4]) fun g t20=>B3 g (Op.load1 [t20] (H3.alloc o4)) fun g t21=>B3 g ((Op.bin .sub) [t21,(.int .i64 11)]) fun g t22=>B3 g ((Op.indexSl 1) [(k4 H3.next),t22]) fun g t23=>B3 g (Op.load1 [t23] (H3.alloc o4)) fun g t24=>C3 M g (.func qf) [t0_2,t24] (H3.alloc o4) fun g t25 H5=>LK g (lk E 0) fun g t0_3=>B3 g ((Op.fieldAddr 2) [t4]) fun g t27=>B3 g (Op.load1 [t27] H5) fun g t28=>B3 g ((Op.indexSl 1) [t28,(.int .i64 1)]) fun g t29=>B3 g (Op.load1 [t29] H5) fun g t30=>C3 M g (.func xc) [t0_3,t30,(.int .i64 0)] H5 fun g t31 H6=>GO3 g Q .normal ((4,t4)::E) D H6):=by intro _ _ _ _; refine W_unf ?_; kernel_rfl
theorem qf8:(cProg Tryd.prog).func ju = some qao /\ qao.results = []:=xf (by kernel_rfl)
theorem qks {M:Mac} [MK M]:M.func ju = some qao:=MK.at (by decide) qf8.1
theorem qmb {M:Mac} [MK M] {a0 a1:AV} {H:AHeap} {Q:AEnd -> AHeap -> Prop} (h:W M ⟨none,ju⟩ (qft 0) true (FIN3 M [] Q) [(0,a0),(1,a1)] [] H):CALLE M ju [a0,a1] H Q :=
 calle qks (ks:=qfv) (by kernel_rfl) (by rw [qf8.2]; exact h)
def we:AFunc:=funcAt Tryd.prog zb
def qe7:Kp:=⟨[0,1,2],false,[0]⟩
def qfg (k:Nat):Kp × ACode:=(qe7,part we.body k)
theorem yl (M:Mac) (c:Ctx):(∀ Q E D H,W M c (qfg 0) true Q E D H =
 LK true (lk E 0) fun g t0=>C3 M g (.func qf) [t0,(.str [123,10])] H fun g t7 H1=>LK g (lk E 0) fun g t0_1=>LK g (lk E 1) fun g t1=>LK g (lk E 2) fun g t2=>B3 g ((Op.bin .add) [t2,(.int .i64 1)]) fun g t11=>C3 M g (.func z6) [t0_1,t1,t11] H1 fun g t12 H2=>LK g (lk E 0) fun g t0_2=>LK g (lk E 2) fun g t2_1=>C3 M g (.func jh) [(.str [32,32]),t2_1] H2 fun g t15 H3=>B3 g ((Op.bin .add) [t15,(.str [125])]) fun g t16=>C3 M g (.func qf) [t0_2,t16] H3 fun g t17 H4=>GO3 g Q .normal E D H4):=by intro _ _ _ _; refine W_unf ?_; kernel_rfl
theorem qe3:(cProg Tryd.prog).func zb = some we /\ we.results = []:=xf (by kernel_rfl)
theorem qjt {M:Mac} [MK M]:M.func zb = some we:=MK.at (by decide) qe3.1
theorem qj6 {M:Mac} [MK M] {a0 a1 a2:AV} {H:AHeap} {Q:AEnd -> AHeap -> Prop} (h:W M ⟨none,zb⟩ (qfg 0) true (FIN3 M [] Q) [(0,a0),(1,a1),(2,a2)] [] H):CALLE M zb [a0,a1,a2] H Q :=
 calle qjt (ks:=qe7) (by kernel_rfl) (by rw [qe3.2]; exact h)
def qbb:AFunc:=funcAt Tryd.prog j7
def qgi:Kp:=⟨[0,1,4,5,6,7,8,9,10,11,12,13],false,[0,4,8,12]⟩
def jk (k:Nat):Kp × ACode:=(qgi,part qbb.body k)
theorem qm3 (M:Mac) (c:Ctx):(∀ Q E D H,W M c (jk 0) true Q E D H =
 LK true (lk E 0) fun g t0=>B3 g ((Op.bin .and) [t0,(.int .u64 4294967295)]) fun g t15=>W M c (jk 4) g Q ((6,t15)::(5,(.int .u64 0))::(4,(.int .u64 0))::E) D H) /\
 (∀ Q E D H,W M c (jk 4) true Q E D H =
  LK true (lk E 0) fun g t0=>B3 g ((Op.bin .shr) [t0,(.int .u64 32)]) fun g t17=>LK g (lk E 1) fun g t1=>B3 g ((Op.bin .and) [t1,(.int .u64 4294967295)]) fun g t19=>W M c (jk 8) g Q ((8,t19)::(7,t17)::E) D H) /\
 (∀ Q E D H,W M c (jk 8) true Q E D H =
  LK true (lk E 1) fun g t1=>B3 g ((Op.bin .shr) [t1,(.int .u64 32)]) fun g t21=>LK g (lk E 6) fun g t6=>LK g (lk E 8) fun g t8=>B3 g ((Op.bin .mul) [t6,t8]) fun g t24=>W M c (jk 12) g Q ((10,t24)::(9,t21)::E) D H) /\
 (∀ Q E D H,W M c (jk 12) true Q E D H =
  LK true (lk E 7) fun g t7=>LK g (lk E 8) fun g t8=>B3 g ((Op.bin .mul) [t7,t8]) fun g t27=>LK g (lk E 10) fun g t10=>B3 g ((Op.bin .shr) [t10,(.int .u64 32)]) fun g t29=>B3 g ((Op.bin .add) [t27,t29]) fun g t30=>B3 g ((Op.bin .and) [t30,(.int .u64 4294967295)]) fun g t32=>B3 g ((Op.bin .shr) [t30,(.int .u64 32)]) fun g t34=>LK g (lk E 6) fun g t6=>LK g (lk E 9) fun g t9=>B3 g ((Op.bin .mul) [t6,t9]) fun g t38=>B3 g ((Op.bin .add) [t32,t38]) fun g t39=>LK g (lk E 7) fun g t7_1=>LK g (lk E 9) fun g t9_1=>B3 g ((Op.bin .mul) [t7_1,t9_1]) fun g t42=>B3 g ((Op.bin .add) [t42,t34]) fun g t44=>B3 g ((Op.bin .shr) [t39,(.int .u64 32)]) fun g t46=>B3 g ((Op.bin .add) [t44,t46]) fun g t47=>LK g (lk E 0) fun g t0=>LK g (lk E 1) fun g t1=>B3 g ((Op.bin .mul) [t0,t1]) fun g t50=>GO3 g Q .ret ((5,t50)::(4,t47)::(12,t39)::(13,t34)::(12,t32)::(11,t30)::E) D H):=by (repeat' apply And.intro)<;>(intro _ _ _ _; refine W_unf ?_; kernel_rfl)
theorem qg2:(cProg Tryd.prog).func j7 = some qbb /\ qbb.results = [.tmp 4,.tmp 5]:=xf (by kernel_rfl)
theorem qlx {M:Mac} [MK M]:M.func j7 = some qbb:=MK.at (by decide) qg2.1
theorem qne {M:Mac} [MK M] {a0 a1:AV} {H:AHeap} {Q:AEnd -> AHeap -> Prop} (h:W M ⟨none,j7⟩ (jk 0) true (FIN3 M [.tmp 4,.tmp 5] Q) [(0,a0),(1,a1)] [] H):CALLE M j7 [a0,a1] H Q :=
 calle qlx (ks:=qgi) (by kernel_rfl) (by rw [qg2.2]; exact h)
def zr:AFunc:=funcAt Tryd.prog xq
def vi:Kp:=⟨[0,1,4],false,[0]⟩
def vf (k:Nat):Kp × ACode:=(vi,part zr.body k)
theorem qcq (M:Mac) (c:Ctx):(∀ Q E D H,W M c (vf 0) true Q E D H =
 LK true (lk E 0) fun g t0=>B3 g (Op.lenStr [t0]) fun g t6=>LK g (lk E 1) fun g t1=>B3 g (Op.lenStr [t1]) fun g t8=>B3 g ((Op.bin .geq) [t6,t8]) fun g t9=>JN (fun (k:Bool -> AV -> AV -> AV -> AV -> AV -> AV -> AHeap -> Prop)=>B3 g (wantV true (some t9)) fun g w=>IG3 g w (fun g=>B3 g (Op.lenStr [t1]) fun g t13=>B3 g ((Op.sliceStr [none,(some 0)]) [t0,t13]) fun g t14=>B3 g ((Op.bin .eql) [t14,t1]) fun g t16=>k g t16 t1 t14 t13 t1 t0 H) (fun g=>k g uu uu uu uu uu uu H)) (fun g t16_1 t15_1 t14_1 t13_1 t12_1 t11_1 H1=>B3 g (Op.pick [t9,t16_1,(.bool false)]) fun g t17=>GO3 g Q .ret ((4,t17)::(4,(.bool false))::E) D H1)):=by intro _ _ _ _; refine W_unf ?_; kernel_rfl
theorem ve:(cProg Tryd.prog).func xq = some zr /\ zr.results = [.tmp 4]:=xf (by kernel_rfl)
theorem qcn {M:Mac} [MK M]:M.func xq = some zr:=MK.at (by decide) ve.1
theorem qcp {M:Mac} [MK M] {a0 a1:AV} {H:AHeap} {Q:AEnd -> AHeap -> Prop} (h:W M ⟨none,xq⟩ (vf 0) true (FIN3 M [.tmp 4] Q) [(0,a0),(1,a1)] [] H):CALLE M xq [a0,a1] H Q :=
 calle qcn (ks:=vi) (by kernel_rfl) (by rw [ve.2]; exact h)
def qf9:AFunc:=funcAt Tryd.prog qau
def qnm:Kp:=⟨[0,2],false,[0]⟩
def qn3 (k:Nat):Kp × ACode:=(qnm,part qf9.body k)
theorem qu5 (M:Mac) (c:Ctx):(∀ Q E D H,W M c (qn3 0) true Q E D H =
 B32 true ((Op.buildSlice yw 7 [(.str [])] [(0,1),(1,1),(2,1),(3,1),(4,1),(5,1),(6,1)]) [(.str [43]),(.str [45]),(.str [42]),(.str [38]),(.str [94]),(.str [60,60]),(.str [62,62])]) fun g o1 k1=>LK g (lk E 0) fun g t0=>B3 g ((Op.bin .sub) [t0,(.int .i64 4)]) fun g t5=>B3 g ((Op.indexSl 1) [(k1 H.next),t5]) fun g t6=>B3 g (Op.load1 [t6] (H.alloc o1)) fun g t7=>GO3 g Q .ret ((2,t7)::(2,(.str []))::E) D (H.alloc o1)):=by intro _ _ _ _; refine W_unf ?_; kernel_rfl
theorem qno:(cProg Tryd.prog).func qau = some qf9 /\ qf9.results = [.tmp 2]:=xf (by kernel_rfl)
theorem qts {M:Mac} [MK M]:M.func qau = some qf9:=MK.at (by decide) qno.1
theorem quv {M:Mac} [MK M] {a0:AV} {H:AHeap} {Q:AEnd -> AHeap -> Prop} (h:W M ⟨none,qau⟩ (qn3 0) true (FIN3 M [.tmp 2] Q) [(0,a0)] [] H):CALLE M qau [a0] H Q :=
 calle qts (ks:=qnm) (by kernel_rfl) (by rw [qno.2]; exact h)
def qhn:AFunc:=funcAt Tryd.prog qbw
def qpn:Kp:=⟨[0,2,3,4],false,[0,2,18,30,42,49]⟩
def jq (k:Nat):Kp × ACode:=(qpn,part qhn.body k)
theorem qxe (M:Mac) (c:Ctx):(∀ Q E D H,W M c (jq 0) true Q E D H =
 W M c (jq 2) true Q ((3,(.int .i64 0))::(2,(.int .i64 0))::E) D H) /\
 (∀ Q E D H,W M c (jq 2) true Q E D H =
  LK true (lk E 0) fun g t0=>B3 g ((Op.bin .eql) [t0,(.str [43])]) fun g t6=>IF3 g t6 (fun g=>GO3 g (BLK3 0 (SEQ3 (W M c (jq 49)) Q)) .ret ((3,(.int .i64 1))::(2,(.int .i64 4))::(4,t0)::E) D H) (fun g=>B3 g ((Op.bin .eql) [t0,(.str [45])]) fun g t8=>IF3 g t8 (fun g=>GO3 g (BLK3 0 (SEQ3 (W M c (jq 49)) Q)) .ret ((3,(.int .i64 1))::(2,(.int .i64 5))::(4,t0)::E) D H) (fun g=>W M c (jq 18) g (BLK3 0 (SEQ3 (W M c (jq 49)) Q)) ((4,t0)::E) D H))) /\
 (∀ Q E D H,W M c (jq 49) true Q E D H =
  GO3 true Q .ret ((3,(.int .i64 0))::(2,(.int .i64 0))::E) D H) /\
 (∀ Q E D H,W M c (jq 18) true Q E D H =
  LK true (lk E 4) fun g t4=>B3 g ((Op.bin .eql) [t4,(.str [94])]) fun g t10=>IF3 g t10 (fun g=>GO3 g Q .ret ((3,(.int .i64 1))::(2,(.int .i64 8))::E) D H) (fun g=>LK g (lk E 4) fun g t4_1=>B3 g ((Op.bin .eql) [t4_1,(.str [42])]) fun g t12=>IF3 g t12 (fun g=>GO3 g Q .ret ((3,(.int .i64 2))::(2,(.int .i64 6))::E) D H) (fun g=>W M c (jq 30) g Q E D H))) /\
 (∀ Q E D H,W M c (jq 30) true Q E D H =
  LK true (lk E 4) fun g t4=>B3 g ((Op.bin .eql) [t4,(.str [38])]) fun g t14=>IF3 g t14 (fun g=>GO3 g Q .ret ((3,(.int .i64 2))::(2,(.int .i64 7))::E) D H) (fun g=>LK g (lk E 4) fun g t4_1=>B3 g ((Op.bin .eql) [t4_1,(.str [60,60])]) fun g t16=>IF3 g t16 (fun g=>GO3 g Q .ret ((3,(.int .i64 2))::(2,(.int .i64 9))::E) D H) (fun g=>W M c (jq 42) g Q E D H))) /\
 (∀ Q E D H,W M c (jq 42) true Q E D H =
  LK true (lk E 4) fun g t4=>B3 g ((Op.bin .eql) [t4,(.str [62,62])]) fun g t18=>IF3 g t18 (fun g=>GO3 g Q .ret ((3,(.int .i64 2))::(2,(.int .i64 10))::E) D H) (fun g=>GO3 g Q .normal E D H)):=by (repeat' apply And.intro)<;>(intro _ _ _ _; refine W_unf ?_; kernel_rfl)
theorem qp2:(cProg Tryd.prog).func qbw = some qhn /\ qhn.results = [.tmp 2,.tmp 3]:=xf (by kernel_rfl)
theorem qvm {M:Mac} [MK M]:M.func qbw = some qhn:=MK.at (by decide) qp2.1
theorem qwv {M:Mac} [MK M] {a0:AV} {H:AHeap} {Q:AEnd -> AHeap -> Prop} (h:W M ⟨none,qbw⟩ (jq 0) true (FIN3 M [.tmp 2,.tmp 3] Q) [(0,a0)] [] H):CALLE M qbw [a0] H Q :=
 calle qvm (ks:=qpn) (by kernel_rfl) (by rw [qp2.2]; exact h)
end
end Go.Am
namespace Go.Am
noncomputable section
open Go.Proofs Go.Proofs.YtbimikjajohflaaDoor
end
end Go.Am
namespace Go.Am
abbrev qa7:Nat:=22
abbrev ji:Nat:=26
abbrev kc:Nat:=53
abbrev qby:Nat:=50
abbrev jv:Nat:=87
abbrev zg:Nat:=119
abbrev xx:Nat:=54
abbrev yk:Nat:=84
abbrev y8:Nat:=86
abbrev qbn:Nat:=52
abbrev xn:Nat:=56
abbrev kh:Nat:=85
abbrev zi:Nat:=51
abbrev T__21:Nat:=39
abbrev qx:Nat:=42
abbrev zq:Nat:=103
abbrev x3:Nat:=129
abbrev jm:Nat:=100
abbrev jx:Nat:=38
noncomputable section
open Go.Proofs Go.Proofs.YtbimikjajohflaaDoor
def qi3:AFunc:=funcAt Tryd.prog qa7
def qru:Kp:=⟨[0,1,2,3,6,8,9,13],false,[0]⟩
def qr6 (k:Nat):Kp × ACode:=(qru,part qi3.body k)
theorem qr3 (M:Mac) (c:Ctx):(∀ Q E D H,W M c (qr6 0) true Q E D H =
 LK true (lk E 2) fun g t2=>A3 g T__21 (AV.cells t2) H fun g t6 H1=>A3 g qx [.nils,(.int .u64 0),(.int .u64 0),(.int .u64 0),(.int .u64 0),(.int .u64 0),(.int .u64 0),(.int .u64 0),(.int .u64 0),(.int .i64 0),(.int .i64 0),(.int .i64 0),(.int .i64 0)] H1 fun g t8 H2=>LK g (lk E 0) fun g t0=>B3 g (Op.lenSl [t0]) fun g t12=>B3 g ((Op.bin .sub) [t12,(.int .i64 1)]) fun g t13=>LK g (lk E 1) fun g t1=>B3 g ((Op.loadN 8) [t6] H2) fun g t15=>LK g (lk E 3) fun g t3=>C3 M g (.func ji) [t0,t13,t1,t15,t3] H2 fun g t17 H3=>B3 g ((Op.extract 0) [t17]) fun g t18=>B3 g ((Op.extract 1) [t17]) fun g t19=>B32 g ((Op.store 13) [t8,t18] H3) fun g u H4=>GO3 g Q .ret ((9,t19)::(13,t13)::(9,(.int .i64 0))::(8,t8)::(6,t6)::E) D H4):=by intro _ _ _ _; refine W_unf ?_; kernel_rfl
theorem qro:(cProg Tryd.prog).func qa7 = some qi3 /\ qi3.results = [.cellN 13 8,.tmp 9]:=xf (by kernel_rfl)
theorem qxm {M:Mac} [MK M]:M.func qa7 = some qi3:=MK.at (by decide) qro.1
theorem qz8 {M:Mac} [MK M] {a0 a1 a2 a3:AV} {H:AHeap} {Q:AEnd -> AHeap -> Prop} (h:W M ⟨none,qa7⟩ (qr6 0) true (FIN3 M [.cellN 13 8,.tmp 9] Q) [(0,a0),(1,a1),(2,a2),(3,a3)] [] H):CALLE M qa7 [a0,a1,a2,a3] H Q :=
 calle qxm (ks:=qru) (by kernel_rfl) (by rw [qro.2]; exact h)
def qhm:AFunc:=funcAt Tryd.prog ji
def qpx:Kp:=⟨[0,1,2,3,4,6,8,10,11,12,13],false,[0,2,10]⟩
def qap (k:Nat):Kp × ACode:=(qpx,part qhm.body k)
theorem qkf (M:Mac) (c:Ctx):(∀ Q E D H,W M c (qap 0) true Q E D H =
 LK true (lk E 1) fun g t1=>A3 g T_int (AV.cells t1) H fun g t6 H1=>LK g (lk E 3) fun g t3=>A3 g T__21 (AV.cells t3) H1 fun g t8 H2=>A3 g qx [.nils,(.int .u64 0),(.int .u64 0),(.int .u64 0),(.int .u64 0),(.int .u64 0),(.int .u64 0),(.int .u64 0),(.int .u64 0),(.int .i64 0),(.int .i64 0),(.int .i64 0),(.int .i64 0)] H2 fun g t10 H3=>W M c (qap 2) g Q ((11,(.int .i64 0))::(10,t10)::(8,t8)::(6,t6)::E) D H3) /\
 (∀ Q E D H,W M c (qap 2) true Q E D H =
  LK true (lk E 0) fun g t0=>LK g (lk E 2) fun g t2=>LK g (lk E 4) fun g t4=>C3 M g (.func qby) [t0,t2,t4] H fun g t16 H1=>B3 g ((Op.un .not) [t16]) fun g t17=>JN (fun (k:Bool -> AV -> AV -> AHeap -> Prop)=>B3 g (wantV false (some t17)) fun g w=>IG3 g w (fun g=>LK g (lk E 6) fun g t6=>B3 g (Op.load1 [t6] H1) fun g t19=>B3 g ((Op.bin .lss) [t19,(.int .i64 0)]) fun g t20=>k g t20 t19 H1) (fun g=>k g uu uu H1)) (fun g t20_1 t19_1 H2=>B3 g (Op.pick [t17,(.bool true),t20_1]) fun g t21=>JN (fun (k:Bool -> AV -> AV -> AV -> AV -> AHeap -> Prop)=>B3 g (wantV false (some t21)) fun g w=>IG3 g w (fun g=>LK g (lk E 6) fun g t6_1=>B3 g (Op.load1 [t6_1] H2) fun g t23=>B3 g (Op.lenSl [t0]) fun g t25=>B3 g ((Op.bin .geq) [t23,t25]) fun g t26=>k g t26 t25 t0 t23 H2) (fun g=>k g uu uu uu uu H2)) (fun g t26_1 t25_1 t24_1 t23_1 H3=>B3 g (Op.pick [t21,(.bool true),t26_1]) fun g t27=>JN (fun (k:Bool -> AV -> AV -> AV -> AV -> AV -> AV -> AHeap -> Prop)=>B3 g (wantV false (some t27)) fun g w=>IG3 g w (fun g=>LK g (lk E 6) fun g t6_2=>B3 g (Op.load1 [t6_2] H3) fun g t30=>B3 g ((Op.indexSl 3) [t0,t30]) fun g t31=>B3 g ((Op.fieldAddr 0) [t31]) fun g t32=>B3 g (Op.load1 [t32] H3) fun g t33=>B3 g ((Op.bin .lss) [t33,(.int .i64 14)]) fun g t34=>k g t34 t33 t32 t31 t30 t0 H3) (fun g=>k g uu uu uu uu uu uu H3)) (fun g t34_1 t33_1 t32_1 t31_1 t30_1 t29_1 H4=>B3 g (Op.pick [t27,(.bool true),t34_1]) fun g t35=>IF3 g t35 (fun g=>B3 g ((Op.build [.nils,(.int .u64 0),(.int .u64 0),(.int .u64 0),(.int .u64 0),(.int .u64 0),(.int .u64 0),(.int .u64 0),(.int .u64 0),(.int .i64 0),(.int .i64 0),(.int .i64 0),(.int .i64 0)] []) []) fun g t36=>LK g (lk E 10) fun g t10=>B32 g ((Op.store 13) [t10,t36] H4) fun g u H5=>GO3 g (SEQ3 (W M c (qap 10)) Q) .ret ((11,(.int .i64 2))::(13,t0)::E) D H5) (fun g=>GO3 g (SEQ3 (W M c (qap 10)) Q) .normal ((13,t0)::E) D H4))))) /\
 (∀ Q E D H,W M c (qap 10) true Q E D H =
  LK true (lk E 0) fun g t0=>LK g (lk E 2) fun g t2=>LK g (lk E 8) fun g t8=>B3 g ((Op.loadN 8) [t8] H) fun g t40=>LK g (lk E 4) fun g t4=>C3 M g (.func zi) [t2] H fun g t39 H1=>CK3 g ((Op.loadN 8) [t8] H1) (some t40) fun g=>B3 g ((Op.build [.nils,(.int .u64 0),(.int .u64 0),(.int .u64 0),(.int .u64 0),(.int .u64 0),(.int .u64 0),(.int .u64 0),(.int .u64 0),(.int .i64 0),(.int .i64 0),(.int .i64 0),(.int .i64 0)] [(0,1),(1,8),(10,1)]) [t39,t40,t4]) fun g t42=>B3 g ((Op.build [.nils,.nils,(.int .u64 0),(.int .u64 0),(.int .u64 0),(.int .u64 0),(.int .u64 0),(.int .u64 0),(.int .u64 0),(.int .u64 0),(.int .i64 0),(.int .i64 0),(.int .i64 0),(.int .i64 0),(.bool false),(.bool false)] [(0,1),(1,13)]) [t0,t42]) fun g t43=>A3 g zq (AV.cells t43) H1 fun g t44 H2=>A3 g jm [.nilp] H2 fun g t12 H3=>B32 g ((Op.store 1) [t12,t44] H3) fun g u H4=>B3 g (Op.load1 [t12] H4) fun g t45=>B3 g (Op.load1 [t12] H4) fun g t46=>LK g (lk E 6) fun g t6=>B3 g ((Op.mkFunc kc 0) [t12,t6]) fun g t47=>C3 M g (.func qbn) [t46,t47] H4 fun g t48 H5=>CK3 g (Op.load1 [t12] H5) (some t45) fun g=>B3 g (Op.nilCheck [t45]) fun g t49=>B3 g ((Op.fieldAddr 1) [t49]) fun g t50=>B3 g ((Op.fieldAddr 12) [t50]) fun g t51=>B32 g ((Op.store 1) [t51,t48] H5) fun g u_1 H6=>B3 g (Op.load1 [t12] H6) fun g t52=>B3 g (Op.nilCheck [t52]) fun g t53=>B3 g ((Op.fieldAddr 1) [t53]) fun g t54=>B3 g ((Op.loadN 13) [t54] H6) fun g t55=>LK g (lk E 10) fun g t10=>B32 g ((Op.store 13) [t10,t55] H6) fun g u_2 H7=>GO3 g Q .ret ((11,(.int .i64 0))::(12,t12)::E) D H7):=by (repeat' apply And.intro)<;>(intro _ _ _ _; refine W_unf ?_; kernel_rfl)
theorem qpt:(cProg Tryd.prog).func ji = some qhm /\ qhm.results = [.cellN 13 10,.tmp 11]:=xf (by kernel_rfl)
theorem qwh {M:Mac} [MK M]:M.func ji = some qhm:=MK.at (by decide) qpt.1
theorem qx5 {M:Mac} [MK M] {a0 a1 a2 a3 a4:AV} {H:AHeap} {Q:AEnd -> AHeap -> Prop} (h:W M ⟨none,ji⟩ (qap 0) true (FIN3 M [.cellN 13 10,.tmp 11] Q) [(0,a0),(1,a1),(2,a2),(3,a3),(4,a4)] [] H):CALLE M ji [a0,a1,a2,a3,a4] H Q :=
 calle qwh (ks:=qpx) (by kernel_rfl) (by rw [qpt.2]; exact h)
def qi9:AFunc:=funcAt Tryd.prog qby
def qrt:Kp:=⟨[0,1,2,6,8],false,[0,2,10]⟩
def qc6 (k:Nat):Kp × ACode:=(qrt,part qi9.body k)
theorem q08 (M:Mac) (c:Ctx):(∀ Q E D H,W M c (qc6 0) true Q E D H =
 W M c (qc6 2) true Q ((6,(.bool false))::E) D H) /\
 (∀ Q E D H,W M c (qc6 2) true Q E D H =
  LK true (lk E 1) fun g t1=>B3 g (Op.lenSl [t1]) fun g t10=>B3 g ((Op.bin .gtr) [t10,(.int .i64 4096)]) fun g t11=>JN (fun (k:Bool -> AV -> AV -> AHeap -> Prop)=>B3 g (wantV false (some t11)) fun g w=>IG3 g w (fun g=>LK g (lk E 2) fun g t2=>B3 g ((Op.bin .lss) [t2,(.int .i64 0)]) fun g t14=>k g t14 t2 H) (fun g=>k g uu uu H)) (fun g t14_1 t13_1 H1=>B3 g (Op.pick [t11,(.bool true),t14_1]) fun g t15=>JN (fun (k:Bool -> AV -> AV -> AHeap -> Prop)=>B3 g (wantV false (some t15)) fun g w=>IG3 g w (fun g=>LK g (lk E 2) fun g t2_1=>B3 g ((Op.bin .gtr) [t2_1,(.int .i64 1048576)]) fun g t18=>k g t18 t2_1 H1) (fun g=>k g uu uu H1)) (fun g t18_1 t17_1 H2=>B3 g (Op.pick [t15,(.bool true),t18_1]) fun g t19=>IF3 g t19 (fun g=>GO3 g (SEQ3 (W M c (qc6 10)) Q) .ret ((6,(.bool false))::E) D H2) (fun g=>GO3 g (SEQ3 (W M c (qc6 10)) Q) .normal E D H2)))) /\
 (∀ Q E D H,W M c (qc6 10) true Q E D H =
  LK true (lk E 0) fun g t0=>C3 M g (.func kj) [t0] H fun g t22 H1=>B3 g ((Op.extract 0) [t22]) fun g t23=>B3 g ((Op.extract 1) [t22]) fun g t24=>B3 g ((Op.bin .eql) [t24,(.int .i64 0)]) fun g t26=>GO3 g Q .ret ((6,t26)::(8,t24)::E) D H1):=by (repeat' apply And.intro)<;>(intro _ _ _ _; refine W_unf ?_; kernel_rfl)
theorem qsk:(cProg Tryd.prog).func qby = some qi9 /\ qi9.results = [.tmp 6]:=xf (by kernel_rfl)
theorem qxx {M:Mac} [MK M]:M.func qby = some qi9:=MK.at (by decide) qsk.1
theorem qzt {M:Mac} [MK M] {a0 a1 a2:AV} {H:AHeap} {Q:AEnd -> AHeap -> Prop} (h:W M ⟨none,qby⟩ (qc6 0) true (FIN3 M [.tmp 6] Q) [(0,a0),(1,a1),(2,a2)] [] H):CALLE M qby [a0,a1,a2] H Q :=
 calle qxx (ks:=qrt) (by kernel_rfl) (by rw [qsk.2]; exact h)
def vd:AFunc:=funcAt Tryd.prog zi
def qdk:Kp:=⟨[0,2],false,[0,2,10]⟩
def zt (k:Nat):Kp × ACode:=(qdk,part vd.body k)
theorem qa0 (M:Mac) (c:Ctx):(∀ Q E D H,W M c (zt 0) true Q E D H =
 W M c (zt 2) true Q ((2,.nils)::E) D H) /\
 (∀ Q E D H,W M c (zt 2) true Q E D H =
  LK true (lk E 0) fun g t0=>B3 g ((Op.eq .slice false) [t0,.nils] H) fun g t4=>IF3 g t4 (fun g=>GO3 g (SEQ3 (W M c (zt 10)) Q) .ret ((2,.nils)::E) D H) (fun g=>GO3 g (SEQ3 (W M c (zt 10)) Q) .normal E D H)) /\
 (∀ Q E D H,W M c (zt 10) true Q E D H =
  B32 true ((Op.buildSlice jx 0 [(.int .u64 0)] []) []) fun g o1 k1=>LK g (lk E 0) fun g t0=>B32 g ((Op.append jx 1 8) [(k1 H.next),t0] (H.alloc o1)) fun g t7 H2=>GO3 g Q .ret ((2,t7)::E) D H2):=by (repeat' apply And.intro)<;>(intro _ _ _ _; refine W_unf ?_; kernel_rfl)
theorem qdi:(cProg Tryd.prog).func zi = some vd /\ vd.results = [.tmp 2]:=xf (by kernel_rfl)
theorem qh7 {M:Mac} [MK M]:M.func zi = some vd:=MK.at (by decide) qdi.1
theorem qiq {M:Mac} [MK M] {a0:AV} {H:AHeap} {Q:AEnd -> AHeap -> Prop} (h:W M ⟨none,zi⟩ (zt 0) true (FIN3 M [.tmp 2] Q) [(0,a0)] [] H):CALLE M zi [a0] H Q :=
 calle qh7 (ks:=qdk) (by kernel_rfl) (by rw [qdi.2]; exact h)
def qeh:AFunc:=funcAt Tryd.prog kc
def qlz:Kp:=⟨[0,1],true,[0]⟩
def qly (k:Nat):Kp × ACode:=(qlz,part qeh.body k)
theorem que (M:Mac) (c:Ctx):(∀ Q E D H,W M c (qly 0) true Q E D H =
 LK true (lk E 0) fun g t0=>B3 g (Op.load1 [t0] H) fun g t2=>LK g (lk E 1) fun g t1=>B3 g (Op.load1 [t1] H) fun g t3=>P3 M g (PX (some []) [3,2] Q E D) (.func xx) [t2,t3] H fun g t4 H1=>GO3 g Q .normal E D H1):=by intro _ _ _ _; refine W_unf ?_; kernel_rfl
theorem qk7:(cProg Tryd.prog).func kc = some qeh /\ qeh.results = []:=xf (by kernel_rfl)
theorem qq8 {M:Mac} [MK M]:M.func kc = some qeh:=MK.at (by decide) qk7.1
theorem qtw {M:Mac} [MK M] {a0 a1:AV} {H:AHeap} {Q:AEnd -> AHeap -> Prop} (h:W M ⟨none,kc⟩ (qly 0) true (FIN3 M [] Q) [(0,a0),(1,a1)] [] H):CALLE M kc [a0,a1] H Q :=
 calle qq8 (ks:=qlz) (by kernel_rfl) (by rw [qk7.2]; exact h)
def qbp:AFunc:=funcAt Tryd.prog xn
def qh4:Kp:=⟨[0,1,4,5,6,7,16,61],true,[0,4,20,27,29,46,52,58,64,70,76,81,82,83,87,88,92,93,97,98,102,103,107,108]⟩
def qc (k:Nat):Kp × ACode:=(qh4,part qbp.body k)
theorem xh (M:Mac) (c:Ctx):(∀ Q E D H,W M c (qc 0) true Q E D H =
 LK true (lk E 0) fun g t0=>B3 g (Op.nilCheck [t0]) fun g t9=>B3 g ((Op.fieldAddr 0) [t9]) fun g t10=>B3 g (Op.load1 [t10] H) fun g t11=>LK g (lk E 1) fun g t1=>B3 g ((Op.indexSl 3) [t11,t1]) fun g t13=>B3 g ((Op.loadN 3) [t13] H) fun g t14=>A3 g qk [(.int .i64 0),(.int .u64 0),.nils] H fun g t5 H1=>B32 g ((Op.store 3) [t5,t14] H1) fun g u H2=>W M c (qc 4) g Q ((5,t5)::(4,(.int .u64 0))::E) D H2) /\
 (∀ Q E D H,W M c (qc 4) true Q E D H =
  LK true (lk E 5) fun g t5=>B3 g ((Op.fieldAddr 0) [t5]) fun g t15=>B3 g (Op.load1 [t15] H) fun g t16=>B3 g ((Op.bin .eql) [t16,(.int .i64 1)]) fun g t18=>IF3 g t18 (fun g=>LK g (lk E 5) fun g t5_1=>B3 g ((Op.fieldAddr 1) [t5_1]) fun g t19=>B3 g (Op.load1 [t19] H) fun g t20=>GO3 g (BLK3 0 (SEQ3 (W M c (qc 27)) Q)) .ret ((4,t20)::(16,t16)::E) D H) (fun g=>B3 g ((Op.bin .eql) [t16,(.int .i64 2)]) fun g t22=>IF3 g t22 (fun g=>LK g (lk E 0) fun g t0=>LK g (lk E 5) fun g t5_1=>B3 g ((Op.fieldAddr 1) [t5_1]) fun g t24=>B3 g (Op.load1 [t24] H) fun g t25=>B3 g (Op.nilCheck [t0]) fun g t26=>B3 g ((Op.fieldAddr 1) [t26]) fun g t27=>B3 g ((Op.fieldAddr 1) [t27]) fun g t28=>B3 g ((Op.indexArr 8 1) [t28,t25]) fun g t29=>B3 g (Op.load1 [t29] H) fun g t30=>GO3 g (BLK3 0 (SEQ3 (W M c (qc 27)) Q)) .ret ((4,t30)::(16,t16)::E) D H) (fun g=>W M c (qc 20) g (BLK3 0 (SEQ3 (W M c (qc 27)) Q)) ((16,t16)::E) D H))) /\
 (∀ Q E D H,W M c (qc 27) true Q E D H =
  LK true (lk E 0) fun g t0=>LK g (lk E 5) fun g t5=>B3 g ((Op.fieldAddr 2) [t5]) fun g t49=>B3 g (Op.load1 [t49] H) fun g t50=>B3 g ((Op.indexSl 1) [t50,(.int .i64 0)]) fun g t51=>B3 g (Op.load1 [t51] H) fun g t52=>B3 g ((Op.fieldAddr 2) [t5]) fun g t55=>B3 g (Op.load1 [t55] H) fun g t56=>B3 g ((Op.indexSl 1) [t56,(.int .i64 1)]) fun g t57=>B3 g (Op.load1 [t57] H) fun g t58=>P3 M g (PX (some [48,49,50,51,52,53,54,55,56,57,58,59,6,7]) [58,57,56,55,54,52,51,50,49,48] Q E D) (.func xn) [t0,t52] H fun g t53 H1=>CK3 g (Op.load1 [t55] H1) (some t56) fun g=>CK3 g (Op.load1 [t57] H1) (some t58) fun g=>P3 M g (PX (some [48,49,50,51,52,53,54,55,56,57,58,59,6,7]) [53,58,57,56,55,54,52,51,50,49,48] Q E D) (.func xn) [t0,t58] H1 fun g t59 H2=>W M c (qc 29) g Q ((7,t59)::(6,t53)::E) D H2) /\
 (∀ Q E D H,W M c (qc 20) true Q E D H =
  LK true (lk E 16) fun g t16=>B3 g ((Op.bin .eql) [t16,(.int .i64 3)]) fun g t32=>IF3 g t32 (fun g=>LK g (lk E 0) fun g t0=>B3 g (Op.nilCheck [t0]) fun g t34=>B3 g ((Op.fieldAddr 1) [t34]) fun g t35=>B3 g ((Op.fieldAddr 0) [t35]) fun g t36=>B3 g (Op.load1 [t36] H) fun g t37=>LK g (lk E 5) fun g t5=>B3 g ((Op.fieldAddr 2) [t5]) fun g t40=>B3 g (Op.load1 [t40] H) fun g t41=>B3 g ((Op.indexSl 1) [t41,(.int .i64 0)]) fun g t42=>B3 g (Op.load1 [t42] H) fun g t43=>P3 M g (PX (some [33,34,35,36,37,38,39,40,41,42,43,44,45,46,47,4]) [43,42,41,40,39,38,37,36,35,34,33] Q E D) (.func xn) [t0,t43] H fun g t44 H1=>CK3 g (Op.load1 [t36] H1) (some t37) fun g=>P3 M g (PX (some [33,34,35,36,37,38,39,40,41,42,43,44,45,46,47,4]) [44,43,42,41,40,39,38,37,36,35,34,33] Q E D) (.func kh) [t0,t44] H1 fun g t45 H2=>CK3 g (Op.load1 [t36] H2) (some t37) fun g=>B3 g ((Op.indexSl 1) [t37,t45]) fun g t46=>B3 g (Op.load1 [t46] H2) fun g t47=>GO3 g Q .ret ((4,t47)::E) D H2) (fun g=>GO3 g Q .normal E D H)) /\
 (∀ Q E D H,W M c (qc 29) true Q E D H =
  LK true (lk E 5) fun g t5=>B3 g ((Op.fieldAddr 0) [t5]) fun g t60=>B3 g (Op.load1 [t60] H) fun g t61=>W M c (qc 46) g (SEQ3 (W M c (qc 81)) (BLK3 2 (SEQ3 (W M c (qc 82)) (BLK3 3 (SEQ3 (W M c (qc 83)) (BLK3 4 (SEQ3 (W M c (qc 88)) (BLK3 5 (SEQ3 (W M c (qc 93)) (BLK3 6 (SEQ3 (W M c (qc 98)) (BLK3 7 (SEQ3 (W M c (qc 103)) (BLK3 1 (SEQ3 (W M c (qc 108)) Q))))))))))))))) ((61,t61)::E) D H) /\
 (∀ Q E D H,W M c (qc 108) true Q E D H =
  LK true (lk E 6) fun g t6=>LK g (lk E 7) fun g t7=>B3 g ((Op.bin .rem) [t7,(.int .u64 64)]) fun g t94=>B3 g ((Op.bin .shr) [t6,t94]) fun g t95=>GO3 g Q .ret ((4,t95)::E) D H) /\
 (∀ Q E D H,W M c (qc 103) true Q E D H =
  LK true (lk E 6) fun g t6=>LK g (lk E 7) fun g t7=>B3 g ((Op.bin .rem) [t7,(.int .u64 64)]) fun g t90=>B3 g ((Op.bin .shl) [t6,t90]) fun g t91=>GO3 g (SEQ3 (W M c (qc 107)) Q) .ret ((4,t91)::E) D H) /\
 (∀ Q E D H,W M c (qc 98) true Q E D H =
  LK true (lk E 6) fun g t6=>LK g (lk E 7) fun g t7=>B3 g ((Op.bin .xor) [t6,t7]) fun g t87=>GO3 g (SEQ3 (W M c (qc 102)) Q) .ret ((4,t87)::E) D H) /\
 (∀ Q E D H,W M c (qc 93) true Q E D H =
  LK true (lk E 6) fun g t6=>LK g (lk E 7) fun g t7=>B3 g ((Op.bin .and) [t6,t7]) fun g t84=>GO3 g (SEQ3 (W M c (qc 97)) Q) .ret ((4,t84)::E) D H) /\
 (∀ Q E D H,W M c (qc 88) true Q E D H =
  LK true (lk E 6) fun g t6=>LK g (lk E 7) fun g t7=>B3 g ((Op.bin .mul) [t6,t7]) fun g t81=>GO3 g (SEQ3 (W M c (qc 92)) Q) .ret ((4,t81)::E) D H) /\
 (∀ Q E D H,W M c (qc 83) true Q E D H =
  LK true (lk E 6) fun g t6=>LK g (lk E 7) fun g t7=>B3 g ((Op.bin .add) [t6,t7]) fun g t78=>GO3 g (SEQ3 (W M c (qc 87)) Q) .ret ((4,t78)::E) D H) /\
 (∀ Q E D H,W M c (qc 82) true Q E D H =
  LK true (lk E 7) fun g t7=>B3 g ((Op.un .neg) [t7]) fun g t75=>GO3 g Q .normal ((7,t75)::E) D H) /\
 (∀ Q E D H,W M c (qc 81) true Q E D H =
  GO3 true Q (.exit 1) E D H) /\
 (∀ Q E D H,W M c (qc 46) true Q E D H =
  LK true (lk E 61) fun g t61=>B3 g ((Op.bin .eql) [t61,(.int .i64 5)]) fun g t63=>IF3 g t63 (fun g=>GO3 g (SEQ3 (W M c (qc 52)) Q) (.exit 2) E D H) (fun g=>GO3 g (SEQ3 (W M c (qc 52)) Q) .normal E D H)) /\
 (∀ Q E D H,W M c (qc 107) true Q E D H =
  GO3 true Q (.exit 1) E D H) /\
 (∀ Q E D H,W M c (qc 102) true Q E D H =
  GO3 true Q (.exit 1) E D H) /\
 (∀ Q E D H,W M c (qc 97) true Q E D H =
  GO3 true Q (.exit 1) E D H) /\
 (∀ Q E D H,W M c (qc 92) true Q E D H =
  GO3 true Q (.exit 1) E D H) /\
 (∀ Q E D H,W M c (qc 87) true Q E D H =
  GO3 true Q (.exit 1) E D H) /\
 (∀ Q E D H,W M c (qc 52) true Q E D H =
  LK true (lk E 61) fun g t61=>B3 g ((Op.bin .eql) [t61,(.int .i64 4)]) fun g t65=>IF3 g t65 (fun g=>GO3 g (SEQ3 (W M c (qc 58)) Q) (.exit 3) E D H) (fun g=>GO3 g (SEQ3 (W M c (qc 58)) Q) .normal E D H)) /\
 (∀ Q E D H,W M c (qc 58) true Q E D H =
  LK true (lk E 61) fun g t61=>B3 g ((Op.bin .eql) [t61,(.int .i64 6)]) fun g t67=>IF3 g t67 (fun g=>GO3 g (SEQ3 (W M c (qc 64)) Q) (.exit 4) E D H) (fun g=>GO3 g (SEQ3 (W M c (qc 64)) Q) .normal E D H)) /\
 (∀ Q E D H,W M c (qc 64) true Q E D H =
  LK true (lk E 61) fun g t61=>B3 g ((Op.bin .eql) [t61,(.int .i64 7)]) fun g t69=>IF3 g t69 (fun g=>GO3 g (SEQ3 (W M c (qc 70)) Q) (.exit 5) E D H) (fun g=>GO3 g (SEQ3 (W M c (qc 70)) Q) .normal E D H)) /\
 (∀ Q E D H,W M c (qc 70) true Q E D H =
  LK true (lk E 61) fun g t61=>B3 g ((Op.bin .eql) [t61,(.int .i64 8)]) fun g t71=>IF3 g t71 (fun g=>GO3 g (SEQ3 (W M c (qc 76)) Q) (.exit 6) E D H) (fun g=>GO3 g (SEQ3 (W M c (qc 76)) Q) .normal E D H)) /\
 (∀ Q E D H,W M c (qc 76) true Q E D H =
  LK true (lk E 61) fun g t61=>B3 g ((Op.bin .eql) [t61,(.int .i64 9)]) fun g t73=>IF3 g t73 (fun g=>GO3 g Q (.exit 7) E D H) (fun g=>GO3 g Q .normal E D H)):=by (repeat' apply And.intro)<;>(intro _ _ _ _; refine W_unf ?_; kernel_rfl)
theorem qh1:(cProg Tryd.prog).func xn = some qbp /\ qbp.results = [.tmp 4]:=xf (by kernel_rfl)
theorem qm2 {M:Mac} [MK M]:M.func xn = some qbp:=MK.at (by decide) qh1.1
theorem qbs {M:Mac} [MK M] {a0 a1:AV} {H:AHeap} {Q:AEnd -> AHeap -> Prop} (h:W M ⟨none,xn⟩ (qc 0) true (FIN3 M [.tmp 4] Q) [(0,a0),(1,a1)] [] H):CALLE M xn [a0,a1] H Q :=
 calle qm2 (ks:=qh4) (by kernel_rfl) (by rw [qh1.2]; exact h)
def qee:AFunc:=funcAt Tryd.prog xx
def ql4:Kp:=⟨[0,1,4,6,7,8,27,31,32,33],true,[0,2,8,14,15,17,21,27,31,37,38,43,59,64,69,75,78,84,89,92,98]⟩
def qe (k:Nat):Kp × ACode:=(ql4,part qee.body k)
theorem qq (M:Mac) (c:Ctx):(∀ Q E D H,W M c (qe 0) true Q E D H =
 LK true (lk E 0) fun g t0=>B3 g (Op.nilCheck [t0]) fun g t10=>B3 g ((Op.fieldAddr 0) [t10]) fun g t11=>B3 g (Op.load1 [t11] H) fun g t12=>LK g (lk E 1) fun g t1=>B3 g ((Op.indexSl 3) [t12,t1]) fun g t14=>B3 g ((Op.loadN 3) [t14] H) fun g t15=>A3 g qk [(.int .i64 0),(.int .u64 0),.nils] H fun g t4 H1=>B32 g ((Op.store 3) [t4,t15] H1) fun g u H2=>W M c (qe 2) g Q ((4,t4)::E) D H2) /\
 (∀ Q E D H,W M c (qe 2) true Q E D H =
  LK true (lk E 4) fun g t4=>B3 g ((Op.fieldAddr 0) [t4]) fun g t16=>B3 g (Op.load1 [t16] H) fun g t17=>B3 g ((Op.bin .neq) [t17,(.int .i64 20)]) fun g t18=>JN (fun (k:Bool -> AV -> AV -> AV -> AHeap -> Prop)=>B3 g (wantV true (some t18)) fun g w=>IG3 g w (fun g=>B3 g ((Op.fieldAddr 0) [t4]) fun g t20=>B3 g (Op.load1 [t20] H) fun g t21=>B3 g ((Op.bin .neq) [t21,(.int .i64 17)]) fun g t22=>k g t22 t21 t20 H) (fun g=>k g uu uu uu H)) (fun g t22_1 t21_1 t20_1 H1=>B3 g (Op.pick [t18,t22_1,(.bool false)]) fun g t23=>IF3 g t23 (fun g=>LK g (lk E 0) fun g t0=>P3 M g (PX (some []) [24] (SEQ3 (W M c (qe 8)) Q) E D) (.func yk) [t0] H1 fun g t25 H2=>GO3 g (SEQ3 (W M c (qe 8)) Q) .normal E D H2) (fun g=>GO3 g (SEQ3 (W M c (qe 8)) Q) .normal E D H1))) /\
 (∀ Q E D H,W M c (qe 8) true Q E D H =
  LK true (lk E 4) fun g t4=>B3 g ((Op.fieldAddr 0) [t4]) fun g t26=>B3 g (Op.load1 [t26] H) fun g t27=>B3 g ((Op.bin .eql) [t27,(.int .i64 20)]) fun g t29=>IF3 g t29 (fun g=>W M c (qe 14) g (BLK3 0 Q) ((27,t27)::E) D H) (fun g=>B3 g ((Op.bin .eql) [t27,(.int .i64 14)]) fun g t46=>IF3 g t46 (fun g=>LK g (lk E 0) fun g t0=>LK g (lk E 4) fun g t4_1=>B3 g ((Op.fieldAddr 1) [t4_1]) fun g t48=>B3 g (Op.load1 [t48] H) fun g t49=>B3 g ((Op.fieldAddr 2) [t4_1]) fun g t51=>B3 g (Op.load1 [t51] H) fun g t52=>B3 g ((Op.indexSl 1) [t52,(.int .i64 0)]) fun g t53=>B3 g (Op.load1 [t53] H) fun g t54=>B3 g (Op.nilCheck [t0]) fun g t56=>B3 g ((Op.fieldAddr 1) [t56]) fun g t57=>B3 g ((Op.fieldAddr 1) [t57]) fun g t58=>P3 M g (PX (some [47,48,49,50,51,52,53,54,55,56,57,58,59]) [58,57,56,54,53,52,51,50,49,48,47] (BLK3 0 Q) ((27,t27)::E) D) (.func xn) [t0,t54] H fun g t55 H1=>CK3 g (Op.load1 [t48] H1) (some t49) fun g=>B3 g ((Op.indexArr 8 1) [t58,t49]) fun g t59=>B32 g ((Op.store 1) [t59,t55] H1) fun g u H2=>GO3 g (BLK3 0 Q) .normal ((27,t27)::E) D H2) (fun g=>W M c (qe 43) g (BLK3 0 Q) ((27,t27)::E) D H))) /\
 (∀ Q E D H,W M c (qe 14) true Q E D H =
  W M c (qe 15) true (SCP3 (qe 15).2 Q) E D H) /\
 (∀ Q E D H,W M c (qe 43) true Q E D H =
  LK true (lk E 27) fun g t27=>B3 g ((Op.bin .eql) [t27,(.int .i64 15)]) fun g t61=>IF3 g t61 (fun g=>LK g (lk E 0) fun g t0=>LK g (lk E 4) fun g t4=>B3 g ((Op.fieldAddr 2) [t4]) fun g t63=>B3 g (Op.load1 [t63] H) fun g t64=>B3 g ((Op.indexSl 1) [t64,(.int .i64 0)]) fun g t65=>B3 g (Op.load1 [t65] H) fun g t66=>P3 M g (PX (some []) [66,65,64,63,62] Q E D) (.func xn) [t0,t66] H fun g t67 H1=>LK g (lk E 0) fun g t0_1=>LK g (lk E 4) fun g t4_1=>B3 g ((Op.fieldAddr 2) [t4_1]) fun g t69=>B3 g (Op.load1 [t69] H1) fun g t70=>B3 g ((Op.indexSl 1) [t70,(.int .i64 1)]) fun g t71=>B3 g (Op.load1 [t71] H1) fun g t72=>P3 M g (PX (some []) [72,71,70,69,68] Q ((7,t67)::E) D) (.func xn) [t0_1,t72] H1 fun g t73 H2=>LK g (lk E 0) fun g t0_2=>B3 g (Op.nilCheck [t0_2]) fun g t75=>B3 g ((Op.fieldAddr 1) [t75]) fun g t76=>B3 g ((Op.fieldAddr 0) [t76]) fun g t77=>B3 g (Op.load1 [t77] H2) fun g t78=>P3 M g (PX (some [74,75,76,77,78,79,80,81,82,83]) [82,80,79,78,77,76,75,74] Q ((8,t73)::(7,t67)::E) D) (.func kh) [t0_2,t67] H2 fun g t81 H3=>CK3 g (Op.load1 [t77] H3) (some t78) fun g=>B3 g ((Op.indexSl 1) [t78,t81]) fun g t83=>B32 g ((Op.store 1) [t83,t73] H3) fun g u H4=>GO3 g Q .normal ((8,t73)::(7,t67)::E) D H4) (fun g=>LK g (lk E 27) fun g t27_1=>B3 g ((Op.bin .eql) [t27_1,(.int .i64 16)]) fun g t85=>IF3 g t85 (fun g=>LK g (lk E 0) fun g t0=>LK g (lk E 4) fun g t4=>B3 g ((Op.fieldAddr 2) [t4]) fun g t88=>B3 g (Op.load1 [t88] H) fun g t89=>B3 g ((Op.indexSl 1) [t89,(.int .i64 0)]) fun g t90=>B3 g (Op.load1 [t90] H) fun g t91=>P3 M g (PX (some []) [91,90,89,88,87] (BLK3 3 Q) E D) (.func y8) [t0,t91] H fun g t92 H1=>IF3 g t92 (fun g=>LK g (lk E 0) fun g t0_1=>LK g (lk E 4) fun g t4_1=>B3 g ((Op.fieldAddr 2) [t4_1]) fun g t94=>B3 g (Op.load1 [t94] H1) fun g t95=>B3 g ((Op.indexSl 1) [t95,(.int .i64 1)]) fun g t96=>B3 g (Op.load1 [t96] H1) fun g t97=>P3 M g (PX (some []) [97,96,95,94,93] (BLK3 3 Q) E D) (.func xx) [t0_1,t97] H1 fun g t98 H2=>GO3 g (BLK3 3 Q) .normal E D H2) (fun g=>W M c (qe 59) g (BLK3 3 Q) E D H1)) (fun g=>W M c (qe 64) g Q E D H))) /\
 (∀ Q E D H,W M c (qe 15) true Q E D H =
  GO3 true (SEQ3 (W M c (qe 17)) Q) .normal E D H) /\
 (∀ Q E D H,W M c (qe 59) true Q E D H =
  LK true (lk E 4) fun g t4=>B3 g ((Op.fieldAddr 2) [t4]) fun g t100=>B3 g (Op.load1 [t100] H) fun g t101=>B3 g (Op.lenSl [t101]) fun g t102=>B3 g ((Op.bin .eql) [t102,(.int .i64 3)]) fun g t103=>IF3 g t103 (fun g=>LK g (lk E 0) fun g t0=>LK g (lk E 4) fun g t4_1=>B3 g ((Op.fieldAddr 2) [t4_1]) fun g t105=>B3 g (Op.load1 [t105] H) fun g t106=>B3 g ((Op.indexSl 1) [t106,(.int .i64 2)]) fun g t107=>B3 g (Op.load1 [t107] H) fun g t108=>P3 M g (PX (some []) [108,107,106,105,104] Q E D) (.func xx) [t0,t108] H fun g t109 H1=>GO3 g Q .normal E D H1) (fun g=>GO3 g Q .normal E D H)) /\
 (∀ Q E D H,W M c (qe 64) true Q E D H =
  LK true (lk E 27) fun g t27=>B3 g ((Op.bin .eql) [t27,(.int .i64 17)]) fun g t111=>IF3 g t111 (fun g=>LOOP3 (W M c (qe 69)) (BLK3 4 Q) E D H) (fun g=>LK g (lk E 27) fun g t27_1=>B3 g ((Op.bin .eql) [t27_1,(.int .i64 18)]) fun g t133=>IF3 g t133 (fun g=>LK g (lk E 0) fun g t0=>LK g (lk E 4) fun g t4=>B3 g ((Op.fieldAddr 2) [t4]) fun g t135=>B3 g (Op.load1 [t135] H) fun g t136=>B3 g ((Op.indexSl 1) [t136,(.int .i64 0)]) fun g t137=>B3 g (Op.load1 [t137] H) fun g t138=>P3 M g (PX (some []) [138,137,136,135,134] Q E D) (.func jv) [t0,t138] H fun g t139 H1=>GO3 g Q .normal E D H1) (fun g=>W M c (qe 89) g Q E D H))) /\
 (∀ Q E D H,W M c (qe 17) true Q E D H =
  LK true (lk E 4) fun g t4=>B3 g ((Op.fieldAddr 2) [t4]) fun g t30=>B3 g (Op.load1 [t30] H) fun g t31=>B3 g (Op.lenSl [t31]) fun g t32=>LOOP3 (W M c (qe 21)) (BLK3 1 Q) ((33,(.int .i64 0))::(32,t32)::(31,t31)::E) D H) /\
 (∀ Q E D H,W M c (qe 69) true Q E D H =
  LK true (lk E 0) fun g t0=>B3 g (Op.nilCheck [t0]) fun g t113=>B3 g ((Op.fieldAddr 15) [t113]) fun g t114=>B3 g (Op.load1 [t114] H) fun g t115=>B3 g ((Op.un .not) [t115]) fun g t116=>IF3 g t116 (fun g=>GO3 g (SEQ3 (W M c (qe 75)) Q) .normal E D H) (fun g=>GO3 g (SEQ3 (W M c (qe 75)) Q) (.exit 4) E D H)) /\
 (∀ Q E D H,W M c (qe 89) true Q E D H =
  LK true (lk E 27) fun g t27=>B3 g ((Op.bin .eql) [t27,(.int .i64 19)]) fun g t141=>IF3 g t141 (fun g=>W M c (qe 92) g Q E D H) (fun g=>GO3 g Q .normal E D H)) /\
 (∀ Q E D H,W M c (qe 21) true Q E D H =
  LK true (lk E 33) fun g t33=>LK g (lk E 32) fun g t32=>B3 g ((Op.bin .lss) [t33,t32]) fun g t34=>IF3 g t34 (fun g=>GO3 g (SEQ3 (W M c (qe 27)) Q) .normal E D H) (fun g=>GO3 g (SEQ3 (W M c (qe 27)) Q) (.exit 1) E D H)) /\
 (∀ Q E D H,W M c (qe 75) true Q E D H =
  LK true (lk E 0) fun g t0=>P3 M g (PX (some []) [117] (BLK3 5 Q) E D) (.func yk) [t0] H fun g t118 H1=>W M c (qe 78) g (BLK3 5 Q) E D H1) /\
 (∀ Q E D H,W M c (qe 92) true Q E D H =
  LK true (lk E 0) fun g t0=>B3 g (Op.nilCheck [t0]) fun g t143=>B3 g ((Op.fieldAddr 14) [t143]) fun g t144=>B3 g (Op.load1 [t144] H) fun g t145=>IF3 g t145 (fun g=>B3 g ((Op.build [(.int .i64 0)] [(0,1)]) [(.int .i64 111)]) fun g t146=>B3 g ((Op.mkIface x3) [t146]) fun g t147=>PANICK [t147] H (PX (some []) [147,146] (SEQ3 (W M c (qe 98)) Q) E D)) (fun g=>GO3 g (SEQ3 (W M c (qe 98)) Q) .normal E D H)) /\
 (∀ Q E D H,W M c (qe 27) true Q E D H =
  LK true (lk E 31) fun g t31=>LK g (lk E 33) fun g t33=>B3 g ((Op.indexSl 1) [t31,t33]) fun g t35=>B3 g (Op.load1 [t35] H) fun g t36=>W M c (qe 31) g (BLK3 2 (SEQ3 (W M c (qe 38)) Q)) ((6,t36)::E) D H) /\
 (∀ Q E D H,W M c (qe 78) true Q E D H =
  LK true (lk E 0) fun g t0=>LK g (lk E 4) fun g t4=>B3 g ((Op.fieldAddr 2) [t4]) fun g t120=>B3 g (Op.load1 [t120] H) fun g t121=>B3 g ((Op.indexSl 1) [t121,(.int .i64 0)]) fun g t122=>B3 g (Op.load1 [t122] H) fun g t123=>P3 M g (PX (some []) [123,122,121,120,119] (SEQ3 (W M c (qe 84)) Q) E D) (.func y8) [t0,t123] H fun g t124 H1=>B3 g ((Op.un .not) [t124]) fun g t125=>IF3 g t125 (fun g=>GO3 g (SEQ3 (W M c (qe 84)) Q) .ret E D H1) (fun g=>GO3 g (SEQ3 (W M c (qe 84)) Q) .normal E D H1)) /\
 (∀ Q E D H,W M c (qe 98) true Q E D H =
  LK true (lk E 0) fun g t0=>B3 g (Op.nilCheck [t0]) fun g t149=>B3 g ((Op.fieldAddr 15) [t149]) fun g t150=>B32 g ((Op.store 1) [t150,(.bool true)] H) fun g u H1=>GO3 g Q .normal E D H1) /\
 (∀ Q E D H,W M c (qe 38) true Q E D H =
  LK true (lk E 33) fun g t33=>B3 g ((Op.bin .add) [t33,(.int .i64 1)]) fun g t44=>GO3 g Q .normal ((33,t44)::E) D H) /\
 (∀ Q E D H,W M c (qe 31) true Q E D H =
  LK true (lk E 0) fun g t0=>B3 g (Op.nilCheck [t0]) fun g t38=>B3 g ((Op.fieldAddr 15) [t38]) fun g t39=>B3 g (Op.load1 [t39] H) fun g t40=>IF3 g t40 (fun g=>GO3 g (SEQ3 (W M c (qe 37)) Q) (.exit 1) E D H) (fun g=>GO3 g (SEQ3 (W M c (qe 37)) Q) .normal E D H)) /\
 (∀ Q E D H,W M c (qe 84) true Q E D H =
  LK true (lk E 0) fun g t0=>LK g (lk E 4) fun g t4=>B3 g ((Op.fieldAddr 2) [t4]) fun g t127=>B3 g (Op.load1 [t127] H) fun g t128=>B3 g ((Op.indexSl 1) [t128,(.int .i64 1)]) fun g t129=>B3 g (Op.load1 [t129] H) fun g t130=>P3 M g (PX (some []) [130,129,128,127,126] Q E D) (.func xx) [t0,t130] H fun g t131 H1=>GO3 g Q .normal E D H1) /\
 (∀ Q E D H,W M c (qe 37) true Q E D H =
  LK true (lk E 0) fun g t0=>LK g (lk E 6) fun g t6=>P3 M g (PX (some []) [42,41] Q E D) (.func xx) [t0,t6] H fun g t43 H1=>GO3 g Q .normal E D H1):=by (repeat' apply And.intro)<;>(intro _ _ _ _; refine W_unf ?_; kernel_rfl)
theorem qk6:(cProg Tryd.prog).func xx = some qee /\ qee.results = []:=xf (by kernel_rfl)
theorem qrd {M:Mac} [MK M]:M.func xx = some qee:=MK.at (by decide) qk6.1
theorem qhu {M:Mac} [MK M] {a0 a1:AV} {H:AHeap} {Q:AEnd -> AHeap -> Prop} (h:W M ⟨none,xx⟩ (qe 0) true (FIN3 M [] Q) [(0,a0),(1,a1)] [] H):CALLE M xx [a0,a1] H Q :=
 calle qrd (ks:=ql4) (by kernel_rfl) (by rw [qk6.2]; exact h)
def qcd:AFunc:=funcAt Tryd.prog kh
def qie:Kp:=⟨[0,1,4],true,[0,2,8]⟩
def ym (k:Nat):Kp × ACode:=(qie,part qcd.body k)
theorem qio (M:Mac) (c:Ctx):(∀ Q E D H,W M c (ym 0) true Q E D H =
 W M c (ym 2) true Q ((4,(.int .i64 0))::E) D H) /\
 (∀ Q E D H,W M c (ym 2) true Q E D H =
  LK true (lk E 1) fun g t1=>LK g (lk E 0) fun g t0=>B3 g (Op.nilCheck [t0]) fun g t7=>B3 g ((Op.fieldAddr 1) [t7]) fun g t8=>B3 g ((Op.fieldAddr 0) [t8]) fun g t9=>B3 g (Op.load1 [t9] H) fun g t10=>B3 g (Op.lenSl [t10]) fun g t11=>B3 g ((Op.wrap .u64) [t11]) fun g t12=>B3 g ((Op.bin .geq) [t1,t12]) fun g t13=>IF3 g t13 (fun g=>B3 g ((Op.build [(.int .i64 0)] [(0,1)]) [(.int .i64 111)]) fun g t14=>B3 g ((Op.mkIface x3) [t14]) fun g t15=>PANICK [t15] H (PX (some []) [15,14] (SEQ3 (W M c (ym 8)) Q) E D)) (fun g=>GO3 g (SEQ3 (W M c (ym 8)) Q) .normal E D H)) /\
 (∀ Q E D H,W M c (ym 8) true Q E D H =
  LK true (lk E 1) fun g t1=>B3 g ((Op.wrap .i64) [t1]) fun g t17=>GO3 g Q .ret ((4,t17)::E) D H):=by (repeat' apply And.intro)<;>(intro _ _ _ _; refine W_unf ?_; kernel_rfl)
theorem qih:(cProg Tryd.prog).func kh = some qcd /\ qcd.results = [.tmp 4]:=xf (by kernel_rfl)
theorem qoi {M:Mac} [MK M]:M.func kh = some qcd:=MK.at (by decide) qih.1
theorem qqy {M:Mac} [MK M] {a0 a1:AV} {H:AHeap} {Q:AEnd -> AHeap -> Prop} (h:W M ⟨none,kh⟩ (ym 0) true (FIN3 M [.tmp 4] Q) [(0,a0),(1,a1)] [] H):CALLE M kh [a0,a1] H Q :=
 calle qoi (ks:=qie) (by kernel_rfl) (by rw [qih.2]; exact h)
def qc9:AFunc:=funcAt Tryd.prog yk
def qj1:Kp:=⟨[0],true,[0,6]⟩
def qbh (k:Nat):Kp × ACode:=(qj1,part qc9.body k)
theorem qj2 (M:Mac) (c:Ctx):(∀ Q E D H,W M c (qbh 0) true Q E D H =
 LK true (lk E 0) fun g t0=>B3 g (Op.nilCheck [t0]) fun g t3=>B3 g ((Op.fieldAddr 1) [t3]) fun g t4=>B3 g ((Op.fieldAddr 10) [t4]) fun g t5=>B3 g (Op.load1 [t5] H) fun g t6=>B3 g ((Op.bin .eql) [t6,(.int .i64 0)]) fun g t7=>IF3 g t7 (fun g=>B3 g ((Op.build [(.int .i64 0)] [(0,1)]) [(.int .i64 190)]) fun g t8=>B3 g ((Op.mkIface x3) [t8]) fun g t9=>PANICK [t9] H (PX (some []) [9,8] (SEQ3 (W M c (qbh 6)) Q) E D)) (fun g=>GO3 g (SEQ3 (W M c (qbh 6)) Q) .normal E D H)) /\
 (∀ Q E D H,W M c (qbh 6) true Q E D H =
  LK true (lk E 0) fun g t0=>B3 g (Op.nilCheck [t0]) fun g t11=>B3 g ((Op.fieldAddr 1) [t11]) fun g t12=>B3 g ((Op.fieldAddr 10) [t12]) fun g t13=>B3 g (Op.load1 [t13] H) fun g t14=>B3 g ((Op.bin .sub) [t14,(.int .i64 1)]) fun g t15=>B3 g (Op.nilCheck [t0]) fun g t16=>B3 g ((Op.fieldAddr 1) [t16]) fun g t17=>B3 g ((Op.fieldAddr 10) [t17]) fun g t18=>B32 g ((Op.store 1) [t18,t15] H) fun g u H1=>GO3 g Q .normal E D H1):=by (repeat' apply And.intro)<;>(intro _ _ _ _; refine W_unf ?_; kernel_rfl)
theorem qj5:(cProg Tryd.prog).func yk = some qc9 /\ qc9.results = []:=xf (by kernel_rfl)
theorem qpj {M:Mac} [MK M]:M.func yk = some qc9:=MK.at (by decide) qj5.1
theorem qq4 {M:Mac} [MK M] {a0:AV} {H:AHeap} {Q:AEnd -> AHeap -> Prop} (h:W M ⟨none,yk⟩ (qbh 0) true (FIN3 M [] Q) [(0,a0)] [] H):CALLE M yk [a0] H Q :=
 calle qpj (ks:=qj1) (by kernel_rfl) (by rw [qj5.2]; exact h)
def qd9:AFunc:=funcAt Tryd.prog y8
def qlc:Kp:=⟨[0,1,4,5,6,7,28],true,[0,4,6,23]⟩
def kg (k:Nat):Kp × ACode:=(qlc,part qd9.body k)
theorem vz (M:Mac) (c:Ctx):(∀ Q E D H,W M c (kg 0) true Q E D H =
 LK true (lk E 0) fun g t0=>B3 g (Op.nilCheck [t0]) fun g t9=>B3 g ((Op.fieldAddr 0) [t9]) fun g t10=>B3 g (Op.load1 [t10] H) fun g t11=>LK g (lk E 1) fun g t1=>B3 g ((Op.indexSl 3) [t11,t1]) fun g t13=>B3 g ((Op.loadN 3) [t13] H) fun g t14=>A3 g qk [(.int .i64 0),(.int .u64 0),.nils] H fun g t5 H1=>B32 g ((Op.store 3) [t5,t14] H1) fun g u H2=>W M c (kg 4) g Q ((5,t5)::(4,(.bool false))::E) D H2) /\
 (∀ Q E D H,W M c (kg 4) true Q E D H =
  LK true (lk E 0) fun g t0=>LK g (lk E 5) fun g t5=>B3 g ((Op.fieldAddr 2) [t5]) fun g t16=>B3 g (Op.load1 [t16] H) fun g t17=>B3 g ((Op.indexSl 1) [t17,(.int .i64 0)]) fun g t18=>B3 g (Op.load1 [t18] H) fun g t19=>B3 g ((Op.fieldAddr 2) [t5]) fun g t22=>B3 g (Op.load1 [t22] H) fun g t23=>B3 g ((Op.indexSl 1) [t23,(.int .i64 1)]) fun g t24=>B3 g (Op.load1 [t24] H) fun g t25=>P3 M g (PX (some [15,16,17,18,19,20,21,22,23,24,25,26,6,7]) [25,24,23,22,21,19,18,17,16,15] Q E D) (.func xn) [t0,t19] H fun g t20 H1=>CK3 g (Op.load1 [t22] H1) (some t23) fun g=>CK3 g (Op.load1 [t24] H1) (some t25) fun g=>P3 M g (PX (some [15,16,17,18,19,20,21,22,23,24,25,26,6,7]) [20,25,24,23,22,21,19,18,17,16,15] Q E D) (.func xn) [t0,t25] H1 fun g t26 H2=>W M c (kg 6) g Q ((7,t26)::(6,t20)::E) D H2) /\
 (∀ Q E D H,W M c (kg 6) true Q E D H =
  LK true (lk E 5) fun g t5=>B3 g ((Op.fieldAddr 0) [t5]) fun g t27=>B3 g (Op.load1 [t27] H) fun g t28=>B3 g ((Op.bin .eql) [t28,(.int .i64 11)]) fun g t30=>IF3 g t30 (fun g=>LK g (lk E 6) fun g t6=>LK g (lk E 7) fun g t7=>B3 g ((Op.bin .eql) [t6,t7]) fun g t33=>GO3 g (BLK3 0 (SEQ3 (W M c (kg 23)) Q)) .ret ((4,t33)::(28,t28)::E) D H) (fun g=>B3 g ((Op.bin .eql) [t28,(.int .i64 12)]) fun g t35=>IF3 g t35 (fun g=>LK g (lk E 6) fun g t6=>LK g (lk E 7) fun g t7=>B3 g ((Op.bin .neq) [t6,t7]) fun g t38=>GO3 g (BLK3 0 (SEQ3 (W M c (kg 23)) Q)) .ret ((4,t38)::(28,t28)::E) D H) (fun g=>GO3 g (BLK3 0 (SEQ3 (W M c (kg 23)) Q)) .normal ((28,t28)::E) D H))) /\
 (∀ Q E D H,W M c (kg 23) true Q E D H =
  LK true (lk E 6) fun g t6=>LK g (lk E 7) fun g t7=>B3 g ((Op.bin .lss) [t6,t7]) fun g t41=>GO3 g Q .ret ((4,t41)::E) D H):=by (repeat' apply And.intro)<;>(intro _ _ _ _; refine W_unf ?_; kernel_rfl)
theorem qlt:(cProg Tryd.prog).func y8 = some qd9 /\ qd9.results = [.tmp 4]:=xf (by kernel_rfl)
theorem qrg {M:Mac} [MK M]:M.func y8 = some qd9:=MK.at (by decide) qlt.1
theorem qs1 {M:Mac} [MK M] {a0 a1:AV} {H:AHeap} {Q:AEnd -> AHeap -> Prop} (h:W M ⟨none,y8⟩ (kg 0) true (FIN3 M [.tmp 4] Q) [(0,a0),(1,a1)] [] H):CALLE M y8 [a0,a1] H Q :=
 calle qrg (ks:=qlc) (by kernel_rfl) (by rw [qlt.2]; exact h)
def qbq:AFunc:=funcAt Tryd.prog jv
def qhy:Kp:=⟨[0,1,2,3,4,5,6],true,[0,4,8,10,18]⟩
def zk (k:Nat):Kp × ACode:=(qhy,part qbq.body k)
theorem qn9 (M:Mac) (c:Ctx):(∀ Q E D H,W M c (zk 0) true Q E D H =
 LK true (lk E 0) fun g t0=>A3 g jm (AV.cells t0) H fun g t2 H1=>LK g (lk E 1) fun g t1=>A3 g T_int (AV.cells t1) H1 fun g t3 H2=>B3 g (Op.load1 [t2] H2) fun g t7=>B3 g (Op.nilCheck [t7]) fun g t8=>B3 g ((Op.fieldAddr 1) [t8]) fun g t9=>B3 g ((Op.fieldAddr 0) [t9]) fun g t10=>B3 g (Op.load1 [t10] H2) fun g t11=>B3 g (Op.load1 [t2] H2) fun g t13=>B3 g (Op.nilCheck [t13]) fun g t14=>B3 g ((Op.fieldAddr 1) [t14]) fun g t15=>B3 g ((Op.fieldAddr 1) [t15]) fun g t16=>B3 g ((Op.loadN 8) [t16] H2) fun g t17=>P3 M g (PX none [17,16,15,14,13,11,10,9,8,7] Q ((3,t3)::(2,t2)::E) D) (.func zi) [t11] H2 fun g t12 H3=>CK3 g (Op.load1 [t2] H3) (some t13) fun g=>CK3 g ((Op.loadN 8) [t16] H3) (some t17) fun g=>A3 g T__21 [(.int .u64 0),(.int .u64 0),(.int .u64 0),(.int .u64 0),(.int .u64 0),(.int .u64 0),(.int .u64 0),(.int .u64 0)] H3 fun g t5 H4=>B32 g ((Op.store 8) [t5,t17] H4) fun g u H5=>W M c (zk 4) g Q ((4,t12)::(5,t5)::(3,t3)::(2,t2)::E) D H5) /\
 (∀ Q E D H,W M c (zk 4) true Q E D H =
  LK true (lk E 2) fun g t2=>B3 g (Op.load1 [t2] H) fun g t18=>B3 g (Op.nilCheck [t18]) fun g t19=>B3 g ((Op.fieldAddr 14) [t19]) fun g t20=>B32 g ((Op.store 1) [t20,(.bool true)] H) fun g u H1=>LK g (lk E 2) fun g t2_1=>B3 g (Op.load1 [t2_1] H1) fun g t21=>LK g (lk E 3) fun g t3=>B3 g ((Op.mkFunc zg 0) [t2_1,t3]) fun g t22=>P3 M g (PX (some []) [22,21] Q E D) (.func qbn) [t21,t22] H1 fun g t23 H2=>W M c (zk 8) g Q ((6,t23)::E) D H2) /\
 (∀ Q E D H,W M c (zk 8) true Q E D H =
  LK true (lk E 2) fun g t2=>B3 g (Op.load1 [t2] H) fun g t24=>B3 g (Op.nilCheck [t24]) fun g t25=>B3 g ((Op.fieldAddr 14) [t25]) fun g t26=>B32 g ((Op.store 1) [t26,(.bool false)] H) fun g u H1=>W M c (zk 10) g Q E D H1) /\
 (∀ Q E D H,W M c (zk 10) true Q E D H =
  LK true (lk E 6) fun g t6=>B3 g ((Op.bin .neq) [t6,(.int .i64 0)]) fun g t28=>IF3 g t28 (fun g=>LK g (lk E 2) fun g t2=>B3 g (Op.load1 [t2] H) fun g t29=>B3 g (Op.load1 [t2] H) fun g t30=>LK g (lk E 4) fun g t4=>LK g (lk E 5) fun g t5=>B3 g ((Op.loadN 8) [t5] H) fun g t32=>B3 g (Op.nilCheck [t29]) fun g t33=>B3 g ((Op.fieldAddr 1) [t33]) fun g t34=>B3 g ((Op.fieldAddr 0) [t34]) fun g t35=>B32 g ((Op.store 1) [t35,t4] H) fun g u H1=>CK3 g (Op.load1 [t2] H1) (some t30) fun g=>CK3 g ((Op.loadN 8) [t5] H1) (some t32) fun g=>B3 g (Op.nilCheck [t30]) fun g t36=>B3 g ((Op.fieldAddr 1) [t36]) fun g t37=>B3 g ((Op.fieldAddr 1) [t37]) fun g t38=>B32 g ((Op.store 8) [t38,t32] H1) fun g u_1 H2=>LK g (lk E 6) fun g t6_1=>B3 g ((Op.build [(.int .i64 0)] [(0,1)]) [t6_1]) fun g t40=>B3 g ((Op.mkIface x3) [t40]) fun g t41=>PANICK [t41] H2 (PX (some []) [41,40,39] (SEQ3 (W M c (zk 18)) Q) E D)) (fun g=>GO3 g (SEQ3 (W M c (zk 18)) Q) .normal E D H)) /\
 (∀ Q E D H,W M c (zk 18) true Q E D H =
  LK true (lk E 2) fun g t2=>B3 g (Op.load1 [t2] H) fun g t42=>B3 g (Op.nilCheck [t42]) fun g t43=>B3 g ((Op.fieldAddr 1) [t43]) fun g t44=>B3 g ((Op.fieldAddr 11) [t44]) fun g t45=>B3 g (Op.load1 [t45] H) fun g t46=>B3 g ((Op.bin .add) [t46,(.int .i64 1)]) fun g t47=>B3 g (Op.nilCheck [t42]) fun g t48=>B3 g ((Op.fieldAddr 1) [t48]) fun g t49=>B3 g ((Op.fieldAddr 11) [t49]) fun g t50=>B32 g ((Op.store 1) [t50,t47] H) fun g u H1=>GO3 g Q .normal E D H1):=by (repeat' apply And.intro)<;>(intro _ _ _ _; refine W_unf ?_; kernel_rfl)
theorem qh2:(cProg Tryd.prog).func jv = some qbq /\ qbq.results = []:=xf (by kernel_rfl)
theorem qmt {M:Mac} [MK M]:M.func jv = some qbq:=MK.at (by decide) qh2.1
theorem qoe {M:Mac} [MK M] {a0 a1:AV} {H:AHeap} {Q:AEnd -> AHeap -> Prop} (h:W M ⟨none,jv⟩ (zk 0) true (FIN3 M [] Q) [(0,a0),(1,a1)] [] H):CALLE M jv [a0,a1] H Q :=
 calle qmt (ks:=qhy) (by kernel_rfl) (by rw [qh2.2]; exact h)
def qaf:AFunc:=funcAt Tryd.prog zg
def qf7:Kp:=⟨[0,1],true,[0]⟩
def qf3 (k:Nat):Kp × ACode:=(qf7,part qaf.body k)
theorem qlu (M:Mac) (c:Ctx):(∀ Q E D H,W M c (qf3 0) true Q E D H =
 LK true (lk E 0) fun g t0=>B3 g (Op.load1 [t0] H) fun g t2=>LK g (lk E 1) fun g t1=>B3 g (Op.load1 [t1] H) fun g t3=>P3 M g (PX (some []) [3,2] Q E D) (.func xx) [t2,t3] H fun g t4 H1=>GO3 g Q .normal E D H1):=by intro _ _ _ _; refine W_unf ?_; kernel_rfl
theorem qfp:(cProg Tryd.prog).func zg = some qaf /\ qaf.results = []:=xf (by kernel_rfl)
theorem qke {M:Mac} [MK M]:M.func zg = some qaf:=MK.at (by decide) qfp.1
theorem qk0 {M:Mac} [MK M] {a0 a1:AV} {H:AHeap} {Q:AEnd -> AHeap -> Prop} (h:W M ⟨none,zg⟩ (qf3 0) true (FIN3 M [] Q) [(0,a0),(1,a1)] [] H):CALLE M zg [a0,a1] H Q :=
 calle qke (ks:=qf7) (by kernel_rfl) (by rw [qfp.2]; exact h)
end
end Go.Am
namespace Go.Am
abbrev vc:Nat:=21
abbrev vb:Nat:=24
noncomputable section
open Go.Proofs Go.Proofs.YtbimikjajohflaaDoor
def qed:AFunc:=funcAt Tryd.prog vc
def qk4:Kp:=⟨[0,1,2,6,7,8],false,[0,4,9,15,18,19,27]⟩
def zd (k:Nat):Kp × ACode:=(qk4,part qed.body k)
theorem qtj (M:Mac) (c:Ctx):(∀ Q E D H,W M c (zd 0) true Q E D H =
 W M c (zd 4) true Q ((7,(.int .i64 0))::(6,(.int .i64 0))::E) D H) /\
 (∀ Q E D H,W M c (zd 4) true Q E D H =
  LOOP3 (W M c (zd 9)) (BLK3 0 (SEQ3 (W M c (zd 19)) Q)) ((8,(.int .i64 0))::E) D H) /\
 (∀ Q E D H,W M c (zd 19) true Q E D H =
  LK true (lk E 7) fun g t7=>B3 g ((Op.bin .gtr) [t7,(.int .i64 1000)]) fun g t25=>JN (fun (k:Bool -> AV -> AV -> AV -> AHeap -> Prop)=>B3 g (wantV false (some t25)) fun g w=>IG3 g w (fun g=>LK g (lk E 1) fun g t1=>B3 g (Op.lenSl [t1]) fun g t28=>B3 g ((Op.bin .gtr) [t28,(.int .i64 5000)]) fun g t29=>k g t29 t28 t1 H) (fun g=>k g uu uu uu H)) (fun g t29_1 t28_1 t27_1 H1=>B3 g (Op.pick [t25,(.bool true),t29_1]) fun g t30=>JN (fun (k:Bool -> AV -> AV -> AV -> AHeap -> Prop)=>B3 g (wantV false (some t30)) fun g w=>IG3 g w (fun g=>LK g (lk E 2) fun g t2=>B3 g ((Op.bin .gtr) [t2,(.int .i64 2000)]) fun g t33=>k g t33 t33 t2 H1) (fun g=>k g uu uu uu H1)) (fun g t34_1 t33_1 t32_1 H2=>JN (fun (k:Bool -> AV -> AV -> AHeap -> Prop)=>B3 g (wantV true (some t34_1)) fun g w=>IG3 g w (fun g=>LK g (lk E 2) fun g t2_1=>B3 g ((Op.bin .leq) [t2_1,(.int .i64 1048576)]) fun g t36=>k g t36 t2_1 H2) (fun g=>k g uu uu H2)) (fun g t36_1 t35_1 H3=>JN (fun (k:Bool -> AV -> AHeap -> Prop)=>B3 g (wantV false (some t30)) fun g w=>IG3 g w (fun g=>B3 g (Op.pick [t34_1,t36_1,(.bool false)]) fun g t37=>k g t37 H3) (fun g=>k g uu H3)) (fun g t37_1 H4=>B3 g (Op.pick [t30,(.bool true),t37_1]) fun g t38=>IF3 g t38 (fun g=>GO3 g (SEQ3 (W M c (zd 27)) Q) .ret ((6,(.int .i64 1))::E) D H4) (fun g=>GO3 g (SEQ3 (W M c (zd 27)) Q) .normal E D H4)))))) /\
 (∀ Q E D H,W M c (zd 9) true Q E D H =
  LK true (lk E 8) fun g t8=>LK g (lk E 0) fun g t0=>B3 g (Op.lenSl [t0]) fun g t11=>B3 g ((Op.bin .lss) [t8,t11]) fun g t12=>IF3 g t12 (fun g=>GO3 g (SEQ3 (W M c (zd 15)) Q) .normal E D H) (fun g=>GO3 g (SEQ3 (W M c (zd 15)) Q) (.exit 0) E D H)) /\
 (∀ Q E D H,W M c (zd 27) true Q E D H =
  GO3 true Q .ret ((6,(.int .i64 0))::E) D H) /\
 (∀ Q E D H,W M c (zd 15) true Q E D H =
  LK true (lk E 7) fun g t7=>B3 g ((Op.bin .add) [t7,(.int .i64 1)]) fun g t16=>LK g (lk E 0) fun g t0=>LK g (lk E 8) fun g t8=>B3 g ((Op.indexSl 3) [t0,t8]) fun g t19=>B3 g ((Op.fieldAddr 2) [t19]) fun g t20=>B3 g (Op.load1 [t20] H) fun g t21=>B3 g (Op.lenSl [t21]) fun g t22=>B3 g ((Op.bin .add) [t16,t22]) fun g t23=>GO3 g (BLK3 1 (SEQ3 (W M c (zd 18)) Q)) .normal ((7,t23)::E) D H) /\
 (∀ Q E D H,W M c (zd 18) true Q E D H =
  LK true (lk E 8) fun g t8=>B3 g ((Op.bin .add) [t8,(.int .i64 1)]) fun g t14=>GO3 g Q .normal ((8,t14)::E) D H):=by (repeat' apply And.intro)<;>(intro _ _ _ _; refine W_unf ?_; kernel_rfl)
theorem qk5:(cProg Tryd.prog).func vc = some qed /\ qed.results = [.tmp 6]:=xf (by kernel_rfl)
theorem qrk {M:Mac} [MK M]:M.func vc = some qed:=MK.at (by decide) qk5.1
theorem qsx {M:Mac} [MK M] {a0 a1 a2:AV} {H:AHeap} {Q:AEnd -> AHeap -> Prop} (h:W M ⟨none,vc⟩ (zd 0) true (FIN3 M [.tmp 6] Q) [(0,a0),(1,a1),(2,a2)] [] H):CALLE M vc [a0,a1,a2] H Q :=
 calle qrk (ks:=qk4) (by kernel_rfl) (by rw [qk5.2]; exact h)
def qeb:AFunc:=funcAt Tryd.prog vb
def qlv:Kp:=⟨[0,1,4,5],false,[0,2,10,15,21,30,31]⟩
def x8 (k:Nat):Kp × ACode:=(qlv,part qeb.body k)
theorem quq (M:Mac) (c:Ctx):(∀ Q E D H,W M c (x8 0) true Q E D H =
 W M c (x8 2) true Q ((4,(.bool false))::E) D H) /\
 (∀ Q E D H,W M c (x8 2) true Q E D H =
  LK true (lk E 0) fun g t0=>B3 g (Op.lenSl [t0]) fun g t7=>LK g (lk E 1) fun g t1=>B3 g (Op.lenSl [t1]) fun g t9=>B3 g ((Op.bin .neq) [t7,t9]) fun g t10=>IF3 g t10 (fun g=>GO3 g (SEQ3 (W M c (x8 10)) Q) .ret ((4,(.bool false))::E) D H) (fun g=>GO3 g (SEQ3 (W M c (x8 10)) Q) .normal E D H)) /\
 (∀ Q E D H,W M c (x8 10) true Q E D H =
  LOOP3 (W M c (x8 15)) (BLK3 0 (SEQ3 (W M c (x8 31)) Q)) ((5,(.int .i64 0))::E) D H) /\
 (∀ Q E D H,W M c (x8 31) true Q E D H =
  GO3 true Q .ret ((4,(.bool true))::E) D H) /\
 (∀ Q E D H,W M c (x8 15) true Q E D H =
  LK true (lk E 5) fun g t5=>LK g (lk E 0) fun g t0=>B3 g (Op.lenSl [t0]) fun g t13=>B3 g ((Op.bin .lss) [t5,t13]) fun g t14=>IF3 g t14 (fun g=>GO3 g (SEQ3 (W M c (x8 21)) Q) .normal E D H) (fun g=>GO3 g (SEQ3 (W M c (x8 21)) Q) (.exit 0) E D H)) /\
 (∀ Q E D H,W M c (x8 21) true Q E D H =
  LK true (lk E 0) fun g t0=>LK g (lk E 5) fun g t5=>B3 g ((Op.indexSl 1) [t0,t5]) fun g t19=>B3 g (Op.load1 [t19] H) fun g t20=>LK g (lk E 1) fun g t1=>B3 g ((Op.indexSl 1) [t1,t5]) fun g t23=>B3 g (Op.load1 [t23] H) fun g t24=>B3 g ((Op.bin .neq) [t20,t24]) fun g t25=>IF3 g t25 (fun g=>GO3 g (BLK3 1 (SEQ3 (W M c (x8 30)) Q)) .ret ((4,(.bool false))::E) D H) (fun g=>GO3 g (BLK3 1 (SEQ3 (W M c (x8 30)) Q)) .normal E D H)) /\
 (∀ Q E D H,W M c (x8 30) true Q E D H =
  LK true (lk E 5) fun g t5=>B3 g ((Op.bin .add) [t5,(.int .i64 1)]) fun g t16=>GO3 g Q .normal ((5,t16)::E) D H):=by (repeat' apply And.intro)<;>(intro _ _ _ _; refine W_unf ?_; kernel_rfl)
theorem qk8:(cProg Tryd.prog).func vb = some qeb /\ qeb.results = [.tmp 4]:=xf (by kernel_rfl)
theorem qre {M:Mac} [MK M]:M.func vb = some qeb:=MK.at (by decide) qk8.1
theorem qua {M:Mac} [MK M] {a0 a1:AV} {H:AHeap} {Q:AEnd -> AHeap -> Prop} (h:W M ⟨none,vb⟩ (x8 0) true (FIN3 M [.tmp 4] Q) [(0,a0),(1,a1)] [] H):CALLE M vb [a0,a1] H Q :=
 calle qre (ks:=qlv) (by kernel_rfl) (by rw [qk8.2]; exact h)
end
end Go.Am
namespace Go.Am
abbrev jj:Nat:=10
abbrev kr:Nat:=32
abbrev v9:Nat:=31
noncomputable section
open Go.Proofs Go.Proofs.YtbimikjajohflaaDoor
def qbf:AFunc:=funcAt Tryd.prog jj
def qgz:Kp:=⟨[0,1,2,3,6,8,9,10,11,12,13,14,15,16],false,[0,4,12,14,22,26,31,37,41,49,53,58,59,67]⟩
def qg (k:Nat):Kp × ACode:=(qgz,part qbf.body k)
theorem qmz (M:Mac) (c:Ctx):(∀ Q E D H,W M c (qg 0) true Q E D H =
 LK true (lk E 2) fun g t2=>A3 g T__21 (AV.cells t2) H fun g t6 H1=>C3 M g (.func qlg) [] H1 fun g t17 H2=>W M c (qg 4) g Q ((9,t17)::(8,(.bool false))::(6,t6)::E) D H2) /\
 (∀ Q E D H,W M c (qg 4) true Q E D H =
  LK true (lk E 0) fun g t0=>LK g (lk E 1) fun g t1=>LK g (lk E 3) fun g t3=>C3 M g (.func vc) [t0,t1,t3] H fun g t21 H1=>B3 g ((Op.bin .gtr) [t21,(.int .i64 0)]) fun g t22=>JN (fun (k:Bool -> AV -> AV -> AHeap -> Prop)=>B3 g (wantV false (some t22)) fun g w=>IG3 g w (fun g=>LK g (lk E 9) fun g t9=>B3 g ((Op.un .not) [t9]) fun g t25=>k g t25 t9 H1) (fun g=>k g uu uu H1)) (fun g t25_1 t24_1 H2=>B3 g (Op.pick [t22,(.bool true),t25_1]) fun g t26=>IF3 g t26 (fun g=>LK g (lk E 9) fun g t9_1=>GO3 g (SEQ3 (W M c (qg 12)) Q) .ret ((8,t9_1)::E) D H2) (fun g=>GO3 g (SEQ3 (W M c (qg 12)) Q) .normal E D H2))) /\
 (∀ Q E D H,W M c (qg 12) true Q E D H =
  LK true (lk E 0) fun g t0=>LK g (lk E 1) fun g t1=>LK g (lk E 6) fun g t6=>B3 g ((Op.loadN 8) [t6] H) fun g t31=>LK g (lk E 3) fun g t3=>C3 M g (.func qa7) [t0,t1,t31,t3] H fun g t33 H1=>B3 g ((Op.extract 0) [t33]) fun g t34=>B3 g ((Op.extract 1) [t33]) fun g t35=>A3 g qx [.nils,(.int .u64 0),(.int .u64 0),(.int .u64 0),(.int .u64 0),(.int .u64 0),(.int .u64 0),(.int .u64 0),(.int .u64 0),(.int .i64 0),(.int .i64 0),(.int .i64 0),(.int .i64 0)] H1 fun g t10 H2=>B32 g ((Op.store 13) [t10,t34] H2) fun g u H3=>W M c (qg 14) g Q ((11,t35)::(10,t10)::E) D H3) /\
 (∀ Q E D H,W M c (qg 14) true Q E D H =
  LK true (lk E 11) fun g t11=>B3 g ((Op.bin .neq) [t11,(.int .i64 0)]) fun g t37=>IF3 g t37 (fun g=>LK g (lk E 9) fun g t9=>GO3 g (SEQ3 (W M c (qg 22)) Q) .ret ((8,t9)::E) D H) (fun g=>GO3 g (SEQ3 (W M c (qg 22)) Q) .normal E D H)) /\
 (∀ Q E D H,W M c (qg 22) true Q E D H =
  LK true (lk E 1) fun g t1=>LK g (lk E 6) fun g t6=>B3 g ((Op.loadN 8) [t6] H) fun g t42=>LK g (lk E 3) fun g t3=>B32 g ((Op.buildSlice jx 0 [(.int .u64 0)] []) []) fun g o1 k1=>B32 g ((Op.append jx 1 8) [(k1 H.next),t1] (H.alloc o1)) fun g t41 H2=>CK3 g ((Op.loadN 8) [t6] H2) (some t42) fun g=>B3 g ((Op.build [.nils,(.int .u64 0),(.int .u64 0),(.int .u64 0),(.int .u64 0),(.int .u64 0),(.int .u64 0),(.int .u64 0),(.int .u64 0),(.int .i64 0),(.int .i64 0),(.int .i64 0),(.int .i64 0)] [(0,1),(1,8),(10,1)]) [t41,t42,t3]) fun g t44=>A3 g qx [.nils,(.int .u64 0),(.int .u64 0),(.int .u64 0),(.int .u64 0),(.int .u64 0),(.int .u64 0),(.int .u64 0),(.int .u64 0),(.int .i64 0),(.int .i64 0),(.int .i64 0),(.int .i64 0)] H2 fun g t12 H3=>B32 g ((Op.store 13) [t12,t44] H3) fun g u H4=>LK g (lk E 0) fun g t0=>B3 g (Op.lenSl [t0]) fun g t47=>B3 g ((Op.bin .sub) [t47,(.int .i64 1)]) fun g t48=>B3 g ((Op.indexSl 3) [t0,t48]) fun g t49=>B3 g ((Op.fieldAddr 2) [t49]) fun g t50=>B3 g (Op.load1 [t50] H4) fun g t51=>W M c (qg 26) g Q ((13,t51)::(12,t12)::E) D H4) /\
 (∀ Q E D H,W M c (qg 26) true Q E D H =
  LOOP3 (W M c (qg 31)) (BLK3 0 (SEQ3 (W M c (qg 59)) Q)) ((14,(.int .i64 0))::E) D H) /\
 (∀ Q E D H,W M c (qg 59) true Q E D H =
  LK true (lk E 0) fun g t0=>C3 M g (.func kr) [t0] H fun g t94 H1=>IF3 g t94 (fun g=>LK g (lk E 9) fun g t9=>GO3 g (SEQ3 (W M c (qg 67)) Q) .ret ((8,t9)::E) D H1) (fun g=>GO3 g (SEQ3 (W M c (qg 67)) Q) .normal E D H1)) /\
 (∀ Q E D H,W M c (qg 31) true Q E D H =
  LK true (lk E 14) fun g t14=>LK g (lk E 13) fun g t13=>B3 g (Op.lenSl [t13]) fun g t54=>B3 g ((Op.bin .lss) [t14,t54]) fun g t55=>JN (fun (k:Bool -> AV -> AV -> AV -> AHeap -> Prop)=>B3 g (wantV true (some t55)) fun g w=>IG3 g w (fun g=>LK g (lk E 12) fun g t12=>B3 g ((Op.fieldAddr 12) [t12]) fun g t57=>B3 g (Op.load1 [t57] H) fun g t58=>B3 g ((Op.bin .eql) [t58,(.int .i64 0)]) fun g t59=>k g t59 t58 t57 H) (fun g=>k g uu uu uu H)) (fun g t59_1 t58_1 t57_1 H1=>B3 g (Op.pick [t55,t59_1,(.bool false)]) fun g t60=>IF3 g t60 (fun g=>GO3 g (SEQ3 (W M c (qg 37)) Q) .normal E D H1) (fun g=>GO3 g (SEQ3 (W M c (qg 37)) Q) (.exit 0) E D H1))) /\
 (∀ Q E D H,W M c (qg 67) true Q E D H =
  LK true (lk E 9) fun g t9=>JN (fun (k:Bool -> AV -> AV -> AV -> AV -> AV -> AHeap -> Prop)=>B3 g (wantV true (some t9)) fun g w=>IG3 g w (fun g=>LK g (lk E 10) fun g t10=>B3 g ((Op.fieldAddr 12) [t10]) fun g t98=>B3 g (Op.load1 [t98] H) fun g t99=>LK g (lk E 12) fun g t12=>B3 g ((Op.fieldAddr 12) [t12]) fun g t100=>B3 g (Op.load1 [t100] H) fun g t101=>B3 g ((Op.bin .eql) [t99,t101]) fun g t102=>k g t102 t101 t100 t99 t98 H) (fun g=>k g uu uu uu uu uu H)) (fun g t102_1 t101_1 t100_1 t99_1 t98_1 H1=>B3 g (Op.pick [t9,t102_1,(.bool false)]) fun g t103=>JN (fun (k:Bool -> AV -> AV -> AV -> AV -> AV -> AHeap -> Prop)=>B3 g (wantV true (some t103)) fun g w=>IG3 g w (fun g=>LK g (lk E 10) fun g t10_1=>B3 g ((Op.fieldAddr 10) [t10_1]) fun g t105=>B3 g (Op.load1 [t105] H1) fun g t106=>LK g (lk E 12) fun g t12_1=>B3 g ((Op.fieldAddr 10) [t12_1]) fun g t107=>B3 g (Op.load1 [t107] H1) fun g t108=>B3 g ((Op.bin .eql) [t106,t108]) fun g t109=>k g t109 t108 t107 t106 t105 H1) (fun g=>k g uu uu uu uu uu H1)) (fun g t109_1 t108_1 t107_1 t106_1 t105_1 H2=>B3 g (Op.pick [t103,t109_1,(.bool false)]) fun g t110=>JN (fun (k:Bool -> AV -> AV -> AV -> AV -> AV -> AHeap -> Prop)=>B3 g (wantV true (some t110)) fun g w=>IG3 g w (fun g=>LK g (lk E 10) fun g t10_2=>B3 g ((Op.fieldAddr 1) [t10_2]) fun g t112=>B3 g ((Op.loadN 8) [t112] H2) fun g t113=>LK g (lk E 12) fun g t12_2=>B3 g ((Op.fieldAddr 1) [t12_2]) fun g t114=>B3 g ((Op.loadN 8) [t114] H2) fun g t115=>B3 g ((Op.eq (.agg (.part 0 none .int (.part 1 none .int (.part 2 none .int (.part 3 none .int (.part 4 none .int (.part 5 none .int (.part 6 none .int (.part 7 none .int .nil))))))))) false) [t113,t115] H2) fun g t116=>k g t116 t115 t114 t113 t112 H2) (fun g=>k g uu uu uu uu uu H2)) (fun g t116_1 t115_1 t114_1 t113_1 t112_1 H3=>B3 g (Op.pick [t110,t116_1,(.bool false)]) fun g t117=>JN (fun (k:Bool -> AV -> AV -> AV -> AV -> AV -> AHeap -> Prop)=>B3 g (wantV true (some t117)) fun g w=>IG3 g w (fun g=>LK g (lk E 10) fun g t10_3=>B3 g ((Op.fieldAddr 11) [t10_3]) fun g t119=>B3 g (Op.load1 [t119] H3) fun g t120=>LK g (lk E 12) fun g t12_3=>B3 g ((Op.fieldAddr 11) [t12_3]) fun g t121=>B3 g (Op.load1 [t121] H3) fun g t122=>B3 g ((Op.bin .eql) [t120,t122]) fun g t123=>k g t123 t122 t121 t120 t119 H3) (fun g=>k g uu uu uu uu uu H3)) (fun g t123_1 t122_1 t121_1 t120_1 t119_1 H4=>B3 g (Op.pick [t117,t123_1,(.bool false)]) fun g t124=>JN (fun (k:Bool -> AV -> AV -> AV -> AV -> AV -> AHeap -> Prop)=>B3 g (wantV true (some t124)) fun g w=>IG3 g w (fun g=>LK g (lk E 10) fun g t10_4=>B3 g ((Op.fieldAddr 0) [t10_4]) fun g t126=>B3 g (Op.load1 [t126] H4) fun g t127=>LK g (lk E 12) fun g t12_4=>B3 g ((Op.fieldAddr 0) [t12_4]) fun g t128=>B3 g (Op.load1 [t128] H4) fun g t129=>C3 M g (.func vb) [t127,t129] H4 fun g t130 H5=>k g t130 t129 t128 t127 t126 H5) (fun g=>k g uu uu uu uu uu H4)) (fun g t130_1 t129_1 t128_1 t127_1 t126_1 H6=>B3 g (Op.pick [t124,t130_1,(.bool false)]) fun g t131=>GO3 g Q .ret ((8,t131)::E) D H6)))))) /\
 (∀ Q E D H,W M c (qg 37) true Q E D H =
  LK true (lk E 0) fun g t0=>LK g (lk E 13) fun g t13=>LK g (lk E 14) fun g t14=>B3 g ((Op.indexSl 1) [t13,t14]) fun g t67=>B3 g (Op.load1 [t67] H) fun g t68=>LK g (lk E 12) fun g t12=>B3 g ((Op.fieldAddr 0) [t12]) fun g t69=>B3 g (Op.load1 [t69] H) fun g t70=>B3 g ((Op.fieldAddr 1) [t12]) fun g t71=>B3 g ((Op.loadN 8) [t71] H) fun g t72=>B3 g ((Op.fieldAddr 10) [t12]) fun g t73=>B3 g (Op.load1 [t73] H) fun g t74=>C3 M g (.func ji) [t0,t68,t70,t72,t74] H fun g t75 H1=>B3 g ((Op.extract 0) [t75]) fun g t76=>B3 g ((Op.extract 1) [t75]) fun g t77=>A3 g qx [.nils,(.int .u64 0),(.int .u64 0),(.int .u64 0),(.int .u64 0),(.int .u64 0),(.int .u64 0),(.int .u64 0),(.int .u64 0),(.int .i64 0),(.int .i64 0),(.int .i64 0),(.int .i64 0)] H1 fun g t15 H2=>B32 g ((Op.store 13) [t15,t76] H2) fun g u H3=>W M c (qg 41) g (BLK3 1 (SEQ3 (W M c (qg 58)) Q)) ((16,t77)::(15,t15)::E) D H3) /\
 (∀ Q E D H,W M c (qg 58) true Q E D H =
  LK true (lk E 14) fun g t14=>B3 g ((Op.bin .add) [t14,(.int .i64 1)]) fun g t62=>GO3 g Q .normal ((14,t62)::E) D H) /\
 (∀ Q E D H,W M c (qg 41) true Q E D H =
  LK true (lk E 16) fun g t16=>B3 g ((Op.bin .neq) [t16,(.int .i64 0)]) fun g t79=>IF3 g t79 (fun g=>GO3 g (SEQ3 (W M c (qg 49)) Q) .ret ((8,(.bool false))::E) D H) (fun g=>GO3 g (SEQ3 (W M c (qg 49)) Q) .normal E D H)) /\
 (∀ Q E D H,W M c (qg 49) true Q E D H =
  LK true (lk E 15) fun g t15=>B3 g ((Op.fieldAddr 11) [t15]) fun g t80=>B3 g (Op.load1 [t80] H) fun g t81=>LK g (lk E 12) fun g t12=>B3 g ((Op.fieldAddr 11) [t12]) fun g t82=>B3 g (Op.load1 [t82] H) fun g t83=>B3 g ((Op.bin .add) [t81,t83]) fun g t84=>B3 g ((Op.fieldAddr 11) [t15]) fun g t85=>B32 g ((Op.store 1) [t85,t84] H) fun g u H1=>LK g (lk E 15) fun g t15_1=>B3 g ((Op.loadN 13) [t15_1] H1) fun g t86=>LK g (lk E 12) fun g t12_1=>B32 g ((Op.store 13) [t12_1,t86] H1) fun g u_1 H2=>W M c (qg 53) g Q E D H2) /\
 (∀ Q E D H,W M c (qg 53) true Q E D H =
  LK true (lk E 0) fun g t0=>LK g (lk E 13) fun g t13=>LK g (lk E 14) fun g t14=>B3 g ((Op.indexSl 1) [t13,t14]) fun g t90=>B3 g (Op.load1 [t90] H) fun g t91=>C3 M g (.func v9) [t0,t91] H fun g t92 H1=>IF3 g t92 (fun g=>GO3 g Q (.exit 0) E D H1) (fun g=>GO3 g Q .normal E D H1)):=by (repeat' apply And.intro)<;>(intro _ _ _ _; refine W_unf ?_; kernel_rfl)
theorem qg0:(cProg Tryd.prog).func jj = some qbf /\ qbf.results = [.tmp 8]:=xf (by kernel_rfl)
theorem qk3 {M:Mac} [MK M]:M.func jj = some qbf:=MK.at (by decide) qg0.1
theorem qm7 {M:Mac} [MK M] {a0 a1 a2 a3:AV} {H:AHeap} {Q:AEnd -> AHeap -> Prop} (h:W M ⟨none,jj⟩ (qg 0) true (FIN3 M [.tmp 8] Q) [(0,a0),(1,a1),(2,a2),(3,a3)] [] H):CALLE M jj [a0,a1,a2,a3] H Q :=
 calle qk3 (ks:=qgz) (by kernel_rfl) (by rw [qg0.2]; exact h)
def qd7:AFunc:=funcAt Tryd.prog v9
def ql5:Kp:=⟨[0,1,4],false,[0]⟩
def qk9 (k:Nat):Kp × ACode:=(ql5,part qd7.body k)
theorem qs9 (M:Mac) (c:Ctx):(∀ Q E D H,W M c (qk9 0) true Q E D H =
 LK true (lk E 0) fun g t0=>LK g (lk E 1) fun g t1=>B3 g ((Op.indexSl 3) [t0,t1]) fun g t7=>B3 g ((Op.fieldAddr 0) [t7]) fun g t8=>B3 g (Op.load1 [t8] H) fun g t9=>B3 g ((Op.bin .eql) [t9,(.int .i64 19)]) fun g t10=>GO3 g Q .ret ((4,t10)::(4,(.bool false))::E) D H):=by intro _ _ _ _; refine W_unf ?_; kernel_rfl
theorem qlf:(cProg Tryd.prog).func v9 = some qd7 /\ qd7.results = [.tmp 4]:=xf (by kernel_rfl)
theorem qra {M:Mac} [MK M]:M.func v9 = some qd7:=MK.at (by decide) qlf.1
theorem quc {M:Mac} [MK M] {a0 a1:AV} {H:AHeap} {Q:AEnd -> AHeap -> Prop} (h:W M ⟨none,v9⟩ (qk9 0) true (FIN3 M [.tmp 4] Q) [(0,a0),(1,a1)] [] H):CALLE M v9 [a0,a1] H Q :=
 calle qra (ks:=ql5) (by kernel_rfl) (by rw [qlf.2]; exact h)
def qch:AFunc:=funcAt Tryd.prog kr
def qiy:Kp:=⟨[0,2,3,4,5,6],false,[0,4,6,11,17,24,25,30,36,43,44]⟩
def qt (k:Nat):Kp × ACode:=(qiy,part qch.body k)
theorem qql (M:Mac) (c:Ctx):(∀ Q E D H,W M c (qt 0) true Q E D H =
 LK true (lk E 0) fun g t0=>B3 g (Op.lenSl [t0]) fun g t9=>B3 g ((Op.bin .sub) [t9,(.int .i64 1)]) fun g t10=>B3 g ((Op.indexSl 3) [t0,t10]) fun g t11=>B3 g ((Op.fieldAddr 2) [t11]) fun g t12=>B3 g (Op.load1 [t12] H) fun g t13=>W M c (qt 4) g Q ((3,t13)::(2,(.bool false))::E) D H) /\
 (∀ Q E D H,W M c (qt 4) true Q E D H =
  W M c (qt 6) true Q ((4,(.int .i64 0))::E) D H) /\
 (∀ Q E D H,W M c (qt 6) true Q E D H =
  LOOP3 (W M c (qt 11)) (BLK3 0 (SEQ3 (W M c (qt 25)) Q)) ((5,(.int .i64 0))::E) D H) /\
 (∀ Q E D H,W M c (qt 25) true Q E D H =
  LOOP3 (W M c (qt 30)) (BLK3 2 (SEQ3 (W M c (qt 44)) Q)) ((6,(.int .i64 0))::E) D H) /\
 (∀ Q E D H,W M c (qt 11) true Q E D H =
  LK true (lk E 5) fun g t5=>LK g (lk E 0) fun g t0=>B3 g (Op.lenSl [t0]) fun g t16=>B3 g ((Op.bin .lss) [t5,t16]) fun g t17=>IF3 g t17 (fun g=>GO3 g (SEQ3 (W M c (qt 17)) Q) .normal E D H) (fun g=>GO3 g (SEQ3 (W M c (qt 17)) Q) (.exit 0) E D H)) /\
 (∀ Q E D H,W M c (qt 44) true Q E D H =
  LK true (lk E 4) fun g t4=>B3 g ((Op.bin .gtr) [t4,(.int .i64 0)]) fun g t46=>GO3 g Q .ret ((2,t46)::E) D H) /\
 (∀ Q E D H,W M c (qt 30) true Q E D H =
  LK true (lk E 6) fun g t6=>LK g (lk E 3) fun g t3=>B3 g (Op.lenSl [t3]) fun g t30=>B3 g ((Op.bin .lss) [t6,t30]) fun g t31=>IF3 g t31 (fun g=>GO3 g (SEQ3 (W M c (qt 36)) Q) .normal E D H) (fun g=>GO3 g (SEQ3 (W M c (qt 36)) Q) (.exit 2) E D H)) /\
 (∀ Q E D H,W M c (qt 17) true Q E D H =
  LK true (lk E 0) fun g t0=>LK g (lk E 5) fun g t5=>B3 g ((Op.indexSl 3) [t0,t5]) fun g t22=>B3 g ((Op.fieldAddr 0) [t22]) fun g t23=>B3 g (Op.load1 [t23] H) fun g t24=>B3 g ((Op.bin .eql) [t24,(.int .i64 19)]) fun g t25=>IF3 g t25 (fun g=>LK g (lk E 4) fun g t4=>B3 g ((Op.bin .add) [t4,(.int .i64 1)]) fun g t27=>GO3 g (BLK3 1 (SEQ3 (W M c (qt 24)) Q)) .normal ((4,t27)::E) D H) (fun g=>GO3 g (BLK3 1 (SEQ3 (W M c (qt 24)) Q)) .normal E D H)) /\
 (∀ Q E D H,W M c (qt 36) true Q E D H =
  LK true (lk E 0) fun g t0=>LK g (lk E 3) fun g t3=>LK g (lk E 6) fun g t6=>B3 g ((Op.indexSl 1) [t3,t6]) fun g t37=>B3 g (Op.load1 [t37] H) fun g t38=>B3 g ((Op.indexSl 3) [t0,t38]) fun g t39=>B3 g ((Op.fieldAddr 0) [t39]) fun g t40=>B3 g (Op.load1 [t40] H) fun g t41=>B3 g ((Op.bin .eql) [t41,(.int .i64 19)]) fun g t42=>IF3 g t42 (fun g=>LK g (lk E 4) fun g t4=>B3 g ((Op.bin .sub) [t4,(.int .i64 1)]) fun g t44=>GO3 g (BLK3 3 (SEQ3 (W M c (qt 43)) Q)) .normal ((4,t44)::E) D H) (fun g=>GO3 g (BLK3 3 (SEQ3 (W M c (qt 43)) Q)) .normal E D H)) /\
 (∀ Q E D H,W M c (qt 24) true Q E D H =
  LK true (lk E 5) fun g t5=>B3 g ((Op.bin .add) [t5,(.int .i64 1)]) fun g t19=>GO3 g Q .normal ((5,t19)::E) D H) /\
 (∀ Q E D H,W M c (qt 43) true Q E D H =
  LK true (lk E 6) fun g t6=>B3 g ((Op.bin .add) [t6,(.int .i64 1)]) fun g t33=>GO3 g Q .normal ((6,t33)::E) D H):=by (repeat' apply And.intro)<;>(intro _ _ _ _; refine W_unf ?_; kernel_rfl)
theorem qia:(cProg Tryd.prog).func kr = some qch /\ qch.results = [.tmp 2]:=xf (by kernel_rfl)
theorem qoc {M:Mac} [MK M]:M.func kr = some qch:=MK.at (by decide) qia.1
theorem qqw {M:Mac} [MK M] {a0:AV} {H:AHeap} {Q:AEnd -> AHeap -> Prop} (h:W M ⟨none,kr⟩ (qt 0) true (FIN3 M [.tmp 2] Q) [(0,a0)] [] H):CALLE M kr [a0] H Q :=
 calle qoc (ks:=qiy) (by kernel_rfl) (by rw [qia.2]; exact h)
end
end Go.Am
namespace Go.Am
abbrev jc:Nat:=83
abbrev za:Nat:=25
noncomputable section
variable (AP:Mac)
def yx:List AStep:=[⟨false,none,none,[.tmp 4,.const (.int .i64 0)],.eff (Op.store 1),(some [])⟩]
def qb9:ACode:=.seq (.region yx) .ret
def yz:List AStep:=[⟨false,(some 6),none,[.tmp 1],.pure Op.move,(some [])⟩,
 ⟨false,(some 7),none,[.tmp 6],.callV,(some [])⟩]
def qcg:ACode:=.seq (.region yz) qb9
def yv:List AStep:=[⟨false,(some 5),none,[.tmp 4],.pure (Op.mkFunc jc 0),(some [])⟩,
 ⟨false,none,none,[.tmp 5],.defer,(some [])⟩]
def qcc:ACode:=.seq (.region yv) qcg
def y9:List AStep:=[⟨false,(some 4),none,[],.alloc (Op.alloc za [(.int .i64 0)]),(some [])⟩]
def qit:ACode:=.seq (.region y9) qcc
def qjz:AFunc:=⟨[.cell1 4],qit,[]⟩
theorem qgj (ctx:Ctx) (tm:T AV) (dfs:List ADef) (up:Option Chain) (H:AHeap) (Q:Post) :
 WP AP ctx qb9 ⟨tm,dfs,up,H⟩ Q =
 (GS AP dirty ctx yx ⟨tm,dfs,up,H⟩ (SEQ (WP AP ctx .ret) Q)):=Gxrseq AP ctx _ _ yx .ret
theorem qdx (ctx:Ctx) (tm:T AV) (dfs:List ADef) (up:Option Chain) (H:AHeap) (Q:Post) :
 GS AP true ctx yx ⟨tm,dfs,up,H⟩ Q =
 (LK dirty (tm.get 4) fun g ti4=>BI2 g ((Op.store 1) [ti4,(.int .i64 0)] H) fun g t_u H1 =>
 GO g Q .normal ⟨tm,dfs,up,H1⟩):=kz (l:=yx) (by kernel_rfl)
theorem qg5 (ctx:Ctx) (tm:T AV) (dfs:List ADef) (up:Option Chain) (H:AHeap) (Q:Post) :
 WP AP ctx qcg ⟨tm,dfs,up,H⟩ Q =
 (GS AP dirty ctx yz ⟨tm,dfs,up,H⟩ (SEQ (WP AP ctx qb9) Q)):=Gxrseq AP ctx _ _ yz qb9
theorem qdw (ctx:Ctx) (tm:T AV) (dfs:List ADef) (up:Option Chain) (H:AHeap) (Q:Post) :
 GS AP true ctx yz ⟨tm,dfs,up,H⟩ Q =
 (LK dirty (tm.get 1) fun g ti1=>BI g (Op.move [ti1]) fun g t6=>VI g [t6] fun g f vs=>CA AP g f vs H (fun g t7 H1 =>
 GO g Q .normal ⟨(setsE [(7,t7),(6,t6)] tm),dfs,up,H1⟩) (PAN (some []) (setsE [(6,t6)] tm) dfs up Q)):=kz (l:=yz) (by kernel_rfl)
theorem qg4 (ctx:Ctx) (tm:T AV) (dfs:List ADef) (up:Option Chain) (H:AHeap) (Q:Post) :
 WP AP ctx qcc ⟨tm,dfs,up,H⟩ Q =
 (GS AP dirty ctx yv ⟨tm,dfs,up,H⟩ (SEQ (WP AP ctx qcg) Q)):=Gxrseq AP ctx _ _ yv qcg
theorem qd1 (ctx:Ctx) (tm:T AV) (dfs:List ADef) (up:Option Chain) (H:AHeap) (Q:Post) :
 GS AP true ctx yv ⟨tm,dfs,up,H⟩ Q =
 (LK dirty (tm.get 4) fun g ti4=>BI g ((Op.mkFunc jc 0) [ti4]) fun g t5=>DF g ctx [t5] dfs fun g dfs1=>GO g Q .normal ⟨(setsE [(5,t5)] tm),dfs1,up,H⟩):=kz (l:=yv) (by kernel_rfl)
theorem qgg (ctx:Ctx) (tm:T AV) (dfs:List ADef) (up:Option Chain) (H:AHeap) (Q:Post) :
 WP AP ctx qit ⟨tm,dfs,up,H⟩ Q =
 (GS AP dirty ctx y9 ⟨tm,dfs,up,H⟩ (SEQ (WP AP ctx qcc) Q)):=Gxrseq AP ctx _ _ y9 qcc
theorem qd3 (ctx:Ctx) (tm:T AV) (dfs:List ADef) (up:Option Chain) (H:AHeap) (Q:Post) :
 GS AP true ctx y9 ⟨tm,dfs,up,H⟩ Q =
 (BI2 dirty ((Op.alloc za [(.int .i64 0)]) []) fun g o1 mk1=>GO g Q .normal ⟨(setsE [(4,(mk1 H.next))] tm),dfs,up,(H.alloc o1)⟩):=kz (l:=y9) (by kernel_rfl)
def yh:List AStep:=[⟨false,(some 1),none,[.tmp 4],.pure Op.move,(some [])⟩]
def qa4:ACode:=.region yh
def yd:List AStep:=[⟨false,(some 10),none,[.tmp 2],.pure (Op.fieldAddr 0),(some [])⟩,
 ⟨false,(some 11),none,[.tmp 10],.read Op.load1,(some [])⟩,
 ⟨false,none,none,[.tmp 0,.tmp 11],.eff (Op.store 1),(some [])⟩]
def qa2:ACode:=.region yd
def yg:List AStep:=[⟨false,(some 2),none,[],.alloc (Op.alloc x3 [(.int .i64 0)]),(some [])⟩,
 ⟨false,none,none,[.tmp 2,.tmp 9],.eff (Op.store 1),(some [])⟩]
def qa6:ACode:=.seq (.region yg) qa2
def kp:List AStep:=[⟨false,(some 5),none,[.tmp 3],.pure Op.move,(some [])⟩,
 ⟨false,none,none,[.tmp 5],.panic,(some [])⟩]
def wy:ACode:=.region kp
def kq:List AStep:=[⟨false,(some 3),none,[.tmp 4],.pure Op.move,(some [])⟩]
def qaj:ACode:=.seq (.region kq) wy
def qbc:ACode:=.cond (.tmp 8) qa6 qaj
def ya:List AStep:=[⟨false,(some 7),none,[.tmp 4],.pure (Op.typeAssert x3 true (.agg [(.int .i64 0)])),(some [])⟩,
 ⟨false,(some 8),none,[.tmp 7],.pure (Op.extract 1),(some [])⟩,
 ⟨false,(some 9),none,[.tmp 7],.pure (Op.extract 0),(some [])⟩]
def qbd:ACode:=.seq (.region ya) qbc
def qba:ACode:=.cond (.tmp 6) qa4 qbd
def yc:List AStep:=[⟨false,(some 6),none,[.tmp 4,.const .nili],.read (Op.eq .iface false),(some [])⟩]
def qa5:ACode:=.seq (.region yc) qba
def qa3:ACode:=.block 0 qa5
def yf:List AStep:=[⟨false,(some 4),none,[],.recover,(some [])⟩]
def qgr:ACode:=.seq (.region yf) qa3
def qdn:AFunc:=⟨[],qgr,[]⟩
theorem qfj (ctx:Ctx) (tm:T AV) (dfs:List ADef) (up:Option Chain) (H:AHeap) (Q:Post) :
 WP AP ctx qa4 ⟨tm,dfs,up,H⟩ Q =
 (GS AP dirty ctx yh ⟨tm,dfs,up,H⟩ Q):=qtu AP ctx _ _ yh
theorem qcs (ctx:Ctx) (tm:T AV) (dfs:List ADef) (up:Option Chain) (H:AHeap) (Q:Post) :
 GS AP true ctx yh ⟨tm,dfs,up,H⟩ Q =
 (LK dirty (tm.get 4) fun g ti4=>BI g (Op.move [ti4]) fun g t1=>GO g Q .normal ⟨(setsE [(1,t1)] tm),dfs,up,H⟩):=kz (l:=yh) (by kernel_rfl)
theorem qfh (ctx:Ctx) (tm:T AV) (dfs:List ADef) (up:Option Chain) (H:AHeap) (Q:Post) :
 WP AP ctx qa2 ⟨tm,dfs,up,H⟩ Q =
 (GS AP dirty ctx yd ⟨tm,dfs,up,H⟩ Q):=qtu AP ctx _ _ yd
theorem qcv (ctx:Ctx) (tm:T AV) (dfs:List ADef) (up:Option Chain) (H:AHeap) (Q:Post) :
 GS AP true ctx yd ⟨tm,dfs,up,H⟩ Q =
 (LK dirty (tm.get 2) fun g ti2=>BI g ((Op.fieldAddr 0) [ti2]) fun g t10=>BI g (Op.load1 [t10] H) fun g t11=>LK g (tm.get 0) fun g ti0=>BI2 g ((Op.store 1) [ti0,t11] H) fun g t_u H1 =>
 GO g Q .normal ⟨(setsE [(11,t11),(10,t10)] tm),dfs,up,H1⟩):=kz (l:=yd) (by kernel_rfl)
theorem qfd (ctx:Ctx) (tm:T AV) (dfs:List ADef) (up:Option Chain) (H:AHeap) (Q:Post) :
 WP AP ctx qa6 ⟨tm,dfs,up,H⟩ Q =
 (GS AP dirty ctx yg ⟨tm,dfs,up,H⟩ (SEQ (WP AP ctx qa2) Q)):=Gxrseq AP ctx _ _ yg qa2
theorem qct (ctx:Ctx) (tm:T AV) (dfs:List ADef) (up:Option Chain) (H:AHeap) (Q:Post) :
 GS AP true ctx yg ⟨tm,dfs,up,H⟩ Q =
 (BI2 dirty ((Op.alloc x3 [(.int .i64 0)]) []) fun g o1 mk1=>LK g (tm.get 9) fun g ti9=>BI2 g ((Op.store 1) [(mk1 H.next),ti9] (H.alloc o1)) fun g t_u H2 =>
 GO g Q .normal ⟨(setsE [(2,(mk1 H.next))] tm),dfs,up,H2⟩):=kz (l:=yg) (by kernel_rfl)
theorem qdy (ctx:Ctx) (tm:T AV) (dfs:List ADef) (up:Option Chain) (H:AHeap) (Q:Post) :
 WP AP ctx wy ⟨tm,dfs,up,H⟩ Q =
 (GS AP dirty ctx kp ⟨tm,dfs,up,H⟩ Q):=qtu AP ctx _ _ kp
theorem qcf (ctx:Ctx) (tm:T AV) (dfs:List ADef) (up:Option Chain) (H:AHeap) (Q:Post) :
 GS AP true ctx kp ⟨tm,dfs,up,H⟩ Q =
 (LK dirty (tm.get 3) fun g ti3=>BI g (Op.move [ti3]) fun g t5=>PANICK [t5] H (PAN (some []) (setsE [(5,t5)] tm) dfs up Q)):=kz (l:=kp) (by kernel_rfl)
theorem qd2 (ctx:Ctx) (tm:T AV) (dfs:List ADef) (up:Option Chain) (H:AHeap) (Q:Post) :
 WP AP ctx qaj ⟨tm,dfs,up,H⟩ Q =
 (GS AP dirty ctx kq ⟨tm,dfs,up,H⟩ (SEQ (WP AP ctx wy) Q)):=Gxrseq AP ctx _ _ kq wy
theorem qci (ctx:Ctx) (tm:T AV) (dfs:List ADef) (up:Option Chain) (H:AHeap) (Q:Post) :
 GS AP true ctx kq ⟨tm,dfs,up,H⟩ Q =
 (LK dirty (tm.get 4) fun g ti4=>BI g (Op.move [ti4]) fun g t3=>GO g Q .normal ⟨(setsE [(3,t3)] tm),dfs,up,H⟩):=kz (l:=kq) (by kernel_rfl)
theorem qe5 (ctx:Ctx) (tm:T AV) (dfs:List ADef) (up:Option Chain) (H:AHeap) (Q:Post) :
 WP AP ctx qbc ⟨tm,dfs,up,H⟩ Q =
 (BI dirty (tm.get 8) fun g v=>BI g (asBool v) fun g q=>IG g q (fun g=>GW AP g ctx qa6 ⟨tm,dfs,up,H⟩ Q) (fun g=>GW AP g ctx qaj ⟨tm,dfs,up,H⟩ Q)):=Gxcond AP ctx _ _ 8 qa6 qaj
theorem qe2 (ctx:Ctx) (tm:T AV) (dfs:List ADef) (up:Option Chain) (H:AHeap) (Q:Post) :
 WP AP ctx qbd ⟨tm,dfs,up,H⟩ Q =
 (GS AP dirty ctx ya ⟨tm,dfs,up,H⟩ (SEQ (WP AP ctx qbc) Q)):=Gxrseq AP ctx _ _ ya qbc
theorem qcz (ctx:Ctx) (tm:T AV) (dfs:List ADef) (up:Option Chain) (H:AHeap) (Q:Post) :
 GS AP true ctx ya ⟨tm,dfs,up,H⟩ Q =
 (LK dirty (tm.get 4) fun g ti4=>BI g ((Op.typeAssert x3 true (.agg [(.int .i64 0)])) [ti4]) fun g t7=>BI g ((Op.extract 1) [t7]) fun g t8=>BI g ((Op.extract 0) [t7]) fun g t9 =>
 GO g Q .normal ⟨(setsE [(9,t9),(8,t8),(7,t7)] tm),dfs,up,H⟩):=kz (l:=ya) (by kernel_rfl)
theorem qe9 (ctx:Ctx) (tm:T AV) (dfs:List ADef) (up:Option Chain) (H:AHeap) (Q:Post) :
 WP AP ctx qba ⟨tm,dfs,up,H⟩ Q =
 (BI dirty (tm.get 6) fun g v=>BI g (asBool v) fun g q=>IG g q (fun g=>GW AP g ctx qa4 ⟨tm,dfs,up,H⟩ Q) (fun g=>GW AP g ctx qbd ⟨tm,dfs,up,H⟩ Q)):=Gxcond AP ctx _ _ 6 qa4 qbd
theorem qey (ctx:Ctx) (tm:T AV) (dfs:List ADef) (up:Option Chain) (H:AHeap) (Q:Post) :
 WP AP ctx qa5 ⟨tm,dfs,up,H⟩ Q =
 (GS AP dirty ctx yc ⟨tm,dfs,up,H⟩ (SEQ (WP AP ctx qba) Q)):=Gxrseq AP ctx _ _ yc qba
theorem qc0 (ctx:Ctx) (tm:T AV) (dfs:List ADef) (up:Option Chain) (H:AHeap) (Q:Post) :
 GS AP true ctx yc ⟨tm,dfs,up,H⟩ Q =
 (LK dirty (tm.get 4) fun g ti4=>BI g ((Op.eq .iface false) [ti4,.nili] H) fun g t6=>GO g Q .normal ⟨(setsE [(6,t6)] tm),dfs,up,H⟩):=kz (l:=yc) (by kernel_rfl)
theorem qfl (ctx:Ctx) (tm:T AV) (dfs:List ADef) (up:Option Chain) (H:AHeap) (Q:Post) :
 WP AP ctx qa3 ⟨tm,dfs,up,H⟩ Q =
 (WP AP ctx qa5 ⟨tm,dfs,up,H⟩ (BLK 0 Q)):=WP_block AP ctx _ _ 0 qa5
theorem qex (ctx:Ctx) (tm:T AV) (dfs:List ADef) (up:Option Chain) (H:AHeap) (Q:Post) :
 WP AP ctx qgr ⟨tm,dfs,up,H⟩ Q =
 (GS AP dirty ctx yf ⟨tm,dfs,up,H⟩ (SEQ (WP AP ctx qa3) Q)):=Gxrseq AP ctx _ _ yf qa3
theorem qcw (ctx:Ctx) (tm:T AV) (dfs:List ADef) (up:Option Chain) (H:AHeap) (Q:Post) :
 GS AP true ctx yf ⟨tm,dfs,up,H⟩ Q =
 (RC dirty ctx up fun g t4 up1=>GO g Q .normal ⟨(setsE [(4,t4)] tm),dfs,up1,H⟩):=kz (l:=yf) (by kernel_rfl)
end
open Go.Proofs Go.Proofs.YtbimikjajohflaaDoor
theorem qqd:(cProg Tryd.prog).func qbn = some qjz:=by kernel_rfl
theorem qg6:(cProg Tryd.prog).func jc = some qdn:=by kernel_rfl
end Go.Am
