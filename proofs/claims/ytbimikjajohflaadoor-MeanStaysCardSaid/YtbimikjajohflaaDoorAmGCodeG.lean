/- CodeG: CodeS CodeLA CodeLB CodeMA CodeMF CodeMS CodeMT. -/
import Derived.Test.YtbimikjajohflaaDoorAmGB4
import Derived.Test.YtbimikjajohflaaDoorAmGB1
import Derived.KernelRfl
import Derived.Test.YtbimikjajohflaaDoorRows
set_option linter.unusedVariables false
set_option maxRecDepth 100000
namespace Go.Am
abbrev xm:Nat:=136
abbrev xu:Nat:=147
abbrev xc:Nat:=141
abbrev qdi:Nat:=142
abbrev xr:Nat:=145
abbrev xo:Nat:=140
abbrev zd:Nat:=139
abbrev qkw:Nat:=30
abbrev jj:Nat:=146
abbrev zz:Nat:=127
abbrev zl:Nat:=97
abbrev x3:Nat:=98
abbrev xk:Nat:=42
abbrev qz:Nat:=94
abbrev xj:Nat:=122
abbrev z6:Nat:=126
abbrev q23:Nat:=167
abbrev yv:Nat:=9
abbrev qbp:Nat:=5
abbrev xf:Nat:=1
def q1z:List UInt8:=[115,116,114,105,110,103,115,46,66,117,105,108,100,101,114,46,71,114,111,119,58,32,110,101,103,97,116,105,118,101,32,99,111,117,110,116]
def qqa:List UInt8:=[48,49,50,51,52,53,54,55,56,57,97,98,99,100,101,102,103,104,105,106,107,108,109,110,111,112,113,114,115,116,117,118,119,120,121,122]
def z8:List UInt8:=[48,48,48,49,48,50,48,51,48,52,48,53,48,54,48,55,48,56,48,57,49,48,49,49,49,50,49,51,49,52,49,53,49,54,49,55,49,56,49,57,50,48,50,49,50,50,50,51,50,52,50,53,50,54,50,55,50,56,50,57,51,48,51,49,51,50,51,51,51,52,51,53,51,54,51,55,51,56,51,57,52,48,52,49,52,50,52,51,52,52,52,53,52,54,52,55,52,56,52,57,53,48,53,49,53,50,53,51,53,52,53,53,53,54,53,55,53,56,53,57,54,48,54,49,54,50,54,51,54,52,54,53,54,54,54,55,54,56,54,57,55,48,55,49,55,50,55,51,55,52,55,53,55,54,55,55,55,56,55,57,56,48,56,49,56,50,56,51,56,52,56,53,56,54,56,55,56,56,56,57,57,48,57,49,57,50,57,51,57,52,57,53,57,54,57,55,57,56,57,57]
def qlp:List UInt8:=[0,1,2,2,3,3,3,3,4,4,4,4,4,4,4,4,5,5,5,5,5,5,5,5,5,5,5,5,5,5,5,5,6,6,6,6,6,6,6,6,6,6,6,6,6,6,6,6,6,6,6,6,6,6,6,6,6,6,6,6,6,6,6,6,7,7,7,7,7,7,7,7,7,7,7,7,7,7,7,7,7,7,7,7,7,7,7,7,7,7,7,7,7,7,7,7,7,7,7,7,7,7,7,7,7,7,7,7,7,7,7,7,7,7,7,7,7,7,7,7,7,7,7,7,7,7,7,7,8,8,8,8,8,8,8,8,8,8,8,8,8,8,8,8,8,8,8,8,8,8,8,8,8,8,8,8,8,8,8,8,8,8,8,8,8,8,8,8,8,8,8,8,8,8,8,8,8,8,8,8,8,8,8,8,8,8,8,8,8,8,8,8,8,8,8,8,8,8,8,8,8,8,8,8,8,8,8,8,8,8,8,8,8,8,8,8,8,8,8,8,8,8,8,8,8,8,8,8,8,8,8,8,8,8,8,8,8,8,8,8,8,8,8,8,8,8,8,8,8,8,8,8,8,8,8,8]
noncomputable section
open Go.Proofs Go.Proofs.YtbimikjajohflaaDoor
class MK (M:Mac):Prop where
 ok:∀ n,memN n [20,30] = false -> M.func n = (cProg Tryd.prog).func n
theorem MK.at {M:Mac} [h:MK M] {n:Nat} {F:AFunc} (hn:memN n [20,30] = false) (hF:(cProg Tryd.prog).func n = some F):M.func n = some F:=(h.ok n hn).trans hF
def ve:AFunc:=funcAt Tryd.prog zz
def qd0:Kp:=⟨[0,1,4],false,[0]⟩
def qdu (k:Nat):Kp × ACode:=(qd0,part ve.body k)
theorem qdy (M:Mac) (c:Ctx):(∀ Q E D H,W M c (qdu 0) true Q E D H =
 LK true (lk E 0) fun g t0=>LK g (lk E 1) fun g t1=>C3 M g (.func xm) [t0,t1] H fun g t7 H1=>GO3 g Q .ret ((4,t7)::(4,(.str []))::E) D H1):=by intro _ _ _ _; refine W_unf ?_; kernel_rfl
theorem qdr:(cProg Tryd.prog).func zz = some ve /\ ve.results = [.tmp 4]:=xd (by kernel_rfl)
theorem qit {M:Mac} [MK M]:M.func zz = some ve:=MK.at (by decide) qdr.1
theorem qjl {M:Mac} [MK M] {a0 a1:AV} {H:AHeap} {Q:AEnd -> AHeap -> Prop} (h:W M ⟨none,zz⟩ (qdu 0) true (FIN3 M [.tmp 4] Q) [(0,a0),(1,a1)] [] H):CALLE M zz [a0,a1] H Q :=
 calle qit (ks:=qd0) (by kernel_rfl) (by rw [qdr.2]; exact h)
def yn:AFunc:=funcAt Tryd.prog zl
def qco:Kp:=⟨[0,1],false,[0,2,8]⟩
def z5 (k:Nat):Kp × ACode:=(qco,part yn.body k)
theorem yl (M:Mac) (c:Ctx):(∀ Q E D H,W M c (z5 0) true Q E D H =
 LK true (lk E 0) fun g t0=>C3 M g (.func xj) [t0] H fun g t5 H1=>W M c (z5 2) g Q E D H1) /\
 (∀ Q E D H,W M c (z5 2) true Q E D H =
  LK true (lk E 1) fun g t1=>B3 g ((Op.bin .lss) [t1,(.int .i64 0)]) fun g t7=>IF3 g t7 (fun g=>B3 g ((Op.mkIface yv) [(.str q1z)]) fun g t8=>False) (fun g=>GO3 g (SEQ3 (W M c (z5 8)) Q) .normal E D H)) /\
 (∀ Q E D H,W M c (z5 8) true Q E D H =
  LK true (lk E 0) fun g t0=>B3 g (Op.nilCheck [t0]) fun g t10=>B3 g ((Op.fieldAddr 1) [t10]) fun g t11=>B3 g (Op.load1 [t11] H) fun g t12=>B3 g (Op.cap [t12]) fun g t13=>B3 g (Op.nilCheck [t0]) fun g t15=>B3 g ((Op.fieldAddr 1) [t15]) fun g t16=>B3 g (Op.load1 [t16] H) fun g t17=>B3 g (Op.lenSl [t17]) fun g t18=>B3 g ((Op.bin .sub) [t13,t18]) fun g t19=>LK g (lk E 1) fun g t1=>B3 g ((Op.bin .lss) [t19,t1]) fun g t21=>IF3 g t21 (fun g=>LK g (lk E 0) fun g t0_1=>LK g (lk E 1) fun g t1_1=>C3 M g (.func z6) [t0_1,t1_1] H fun g t24 H1=>GO3 g Q .normal E D H1) (fun g=>GO3 g Q .normal E D H)):=by (repeat' apply And.intro)<;>(intro _ _ _ _; refine W_unf ?_; kernel_rfl)
theorem qcm:(cProg Tryd.prog).func zl = some yn /\ yn.results = []:=xd (by kernel_rfl)
theorem qho {M:Mac} [MK M]:M.func zl = some yn:=MK.at (by decide) qcm.1
theorem qh1 {M:Mac} [MK M] {a0 a1:AV} {H:AHeap} {Q:AEnd -> AHeap -> Prop} (h:W M ⟨none,zl⟩ (z5 0) true (FIN3 M [] Q) [(0,a0),(1,a1)] [] H):CALLE M zl [a0,a1] H Q :=
 calle qho (ks:=qco) (by kernel_rfl) (by rw [qcm.2]; exact h)
def jd:AFunc:=funcAt Tryd.prog qz
def v9:Kp:=⟨[0,1,4,5],false,[0]⟩
def vy (k:Nat):Kp × ACode:=(v9,part jd.body k)
theorem kx (M:Mac) (c:Ctx):(∀ Q E D H,W M c (vy 0) true Q E D H =
 LK true (lk E 0) fun g t0=>C3 M g (.func xj) [t0] H fun g t7 H1=>LK g (lk E 0) fun g t0_1=>B3 g (Op.nilCheck [t0_1]) fun g t10=>B3 g ((Op.fieldAddr 1) [t10]) fun g t11=>B3 g (Op.load1 [t11] H1) fun g t12=>LK g (lk E 1) fun g t1=>B32 g ((Op.append qbp 1 1) [t12,t1] H1) fun g t14 H2=>B3 g (Op.nilCheck [t0_1]) fun g t15=>B3 g ((Op.fieldAddr 1) [t15]) fun g t16=>B32 g ((Op.store 1) [t16,t14] H2) fun g u H3=>LK g (lk E 1) fun g t1_1=>B3 g (Op.lenStr [t1_1]) fun g t18=>GO3 g Q .ret ((5,.nili)::(4,t18)::(5,.nili)::(4,(.int .i64 0))::E) D H3):=by intro _ _ _ _; refine W_unf ?_; kernel_rfl
theorem vx:(cProg Tryd.prog).func qz = some jd /\ jd.results = [.tmp 4,.tmp 5]:=xd (by kernel_rfl)
theorem qdd {M:Mac} [MK M]:M.func qz = some jd:=MK.at (by decide) vx.1
theorem qdm {M:Mac} [MK M] {a0 a1:AV} {H:AHeap} {Q:AEnd -> AHeap -> Prop} (h:W M ⟨none,qz⟩ (vy 0) true (FIN3 M [.tmp 4,.tmp 5] Q) [(0,a0),(1,a1)] [] H):CALLE M qz [a0,a1] H Q :=
 calle qdd (ks:=v9) (by kernel_rfl) (by rw [vx.2]; exact h)
def ko:AFunc:=funcAt Tryd.prog xk
def qbr:Kp:=⟨[0,2],false,[0]⟩
def qbu (k:Nat):Kp × ACode:=(qbr,part ko.body k)
theorem qb0 (M:Mac) (c:Ctx):(∀ Q E D H,W M c (qbu 0) true Q E D H =
 LK true (lk E 0) fun g t0=>B3 g (Op.nilCheck [t0]) fun g t4=>B3 g ((Op.fieldAddr 1) [t4]) fun g t5=>B3 g (Op.load1 [t5] H) fun g t6=>B3 g (Op.sliceData [t6]) fun g t7=>B3 g (Op.nilCheck [t0]) fun g t9=>B3 g ((Op.fieldAddr 1) [t9]) fun g t10=>B3 g (Op.load1 [t10] H) fun g t11=>B3 g (Op.lenSl [t11]) fun g t12=>B32 g ((Op.strOfPtr qbp) [t7,t12] H) fun g t13 H1=>GO3 g Q .ret ((2,t13)::(2,(.str []))::E) D H1):=by intro _ _ _ _; refine W_unf ?_; kernel_rfl
theorem qbz:(cProg Tryd.prog).func xk = some ko /\ ko.results = [.tmp 2]:=xd (by kernel_rfl)
theorem qf7 {M:Mac} [MK M]:M.func xk = some ko:=MK.at (by decide) qbz.1
theorem qgf {M:Mac} [MK M] {a0:AV} {H:AHeap} {Q:AEnd -> AHeap -> Prop} (h:W M ⟨none,xk⟩ (qbu 0) true (FIN3 M [.tmp 2] Q) [(0,a0)] [] H):CALLE M xk [a0] H Q :=
 calle qf7 (ks:=qbr) (by kernel_rfl) (by rw [qbz.2]; exact h)
def yw:AFunc:=funcAt Tryd.prog x3
def qde:Kp:=⟨[0,2],false,[0]⟩
def qc7 (k:Nat):Kp × ACode:=(qde,part yw.body k)
theorem qid (M:Mac) (c:Ctx):(∀ Q E D H,W M c (qc7 0) true Q E D H =
 LK true (lk E 0) fun g t0=>B3 g (Op.nilCheck [t0]) fun g t4=>B3 g ((Op.fieldAddr 1) [t4]) fun g t5=>B3 g (Op.load1 [t5] H) fun g t6=>B3 g (Op.lenSl [t6]) fun g t7=>GO3 g Q .ret ((2,t7)::(2,(.int .i64 0))::E) D H):=by intro _ _ _ _; refine W_unf ?_; kernel_rfl
theorem qc8:(cProg Tryd.prog).func x3 = some yw /\ yw.results = [.tmp 2]:=xd (by kernel_rfl)
theorem qh0 {M:Mac} [MK M]:M.func x3 = some yw:=MK.at (by decide) qc8.1
theorem qh5 {M:Mac} [MK M] {a0:AV} {H:AHeap} {Q:AEnd -> AHeap -> Prop} (h:W M ⟨none,x3⟩ (qc7 0) true (FIN3 M [.tmp 2] Q) [(0,a0)] [] H):CALLE M x3 [a0] H Q :=
 calle qh0 (ks:=qde) (by kernel_rfl) (by rw [qc8.2]; exact h)
def jg:AFunc:=funcAt Tryd.prog xm
def wc:Kp:=⟨[0,1,4,5,6,8],false,[0,2,6,14,24]⟩
def qn (k:Nat):Kp × ACode:=(wc,part jg.body k)
theorem jb (M:Mac) (c:Ctx):(∀ Q E D H,W M c (qn 0) true Q E D H =
 W M c (qn 2) true Q ((4,(.str []))::E) D H) /\
 (∀ Q E D H,W M c (qn 2) true Q E D H =
  LK true (lk E 1) fun g t1=>B3 g ((Op.bin .eql) [t1,(.int .i64 10)]) fun g t10=>IF3 g t10 (fun g=>W M c (qn 6) g (SEQ3 (W M c (qn 24)) Q) E D H) (fun g=>GO3 g (SEQ3 (W M c (qn 24)) Q) .normal E D H)) /\
 (∀ Q E D H,W M c (qn 24) true Q E D H =
  LK true (lk E 0) fun g t0=>LK g (lk E 1) fun g t1=>C3 M g (.func qdi) [.nils,t0,t1,(.bool false),(.bool false)] H fun g t28 H1=>B3 g ((Op.extract 0) [t28]) fun g t29=>B3 g ((Op.extract 1) [t28]) fun g t30=>GO3 g Q .ret ((4,t30)::(8,t30)::E) D H1) /\
 (∀ Q E D H,W M c (qn 6) true Q E D H =
  LK true (lk E 0) fun g t0=>B3 g ((Op.bin .lss) [t0,(.int .u64 100)]) fun g t12=>IF3 g t12 (fun g=>LK g (lk E 0) fun g t0_1=>B3 g ((Op.wrap .i64) [t0_1]) fun g t14=>C3 M g (.func zd) [t14] H fun g t15 H1=>GO3 g (SEQ3 (W M c (qn 14)) Q) .ret ((4,t15)::E) D H1) (fun g=>GO3 g (SEQ3 (W M c (qn 14)) Q) .normal E D H)) /\
 (∀ Q E D H,W M c (qn 14) true Q E D H =
  A3 true q23 (List.replicate 24 (.int .u8 0)) H fun g t5 H1=>LK g (lk E 0) fun g t0=>C3 M g (.func xo) [t0] H1 fun g t17 H2=>B3 g ((Op.sliceArr 24 1 [none,(some 0),none]) [t5,t17]) fun g t19=>LK g (lk E 0) fun g t0_1=>C3 M g (.func xc) [t19,t0_1] H2 fun g t21 H3=>B3 g ((Op.sliceArr 24 1 [none,(some 0),none]) [t5,t17]) fun g t23=>B3 g (Op.strOfBytes [t23] H3) fun g t24=>GO3 g Q .ret ((4,t24)::(6,t17)::(5,t5)::E) D H3):=by (repeat' apply And.intro)<;>(intro _ _ _ _; refine W_unf ?_; kernel_rfl)
theorem vv:(cProg Tryd.prog).func xm = some jg /\ jg.results = [.tmp 4]:=xd (by kernel_rfl)
theorem qdg {M:Mac} [MK M]:M.func xm = some jg:=MK.at (by decide) vv.1
theorem qdo {M:Mac} [MK M] {a0 a1:AV} {H:AHeap} {Q:AEnd -> AHeap -> Prop} (h:W M ⟨none,xm⟩ (qn 0) true (FIN3 M [.tmp 4] Q) [(0,a0),(1,a1)] [] H):CALLE M xm [a0,a1] H Q :=
 calle qdg (ks:=wc) (by kernel_rfl) (by rw [vv.2]; exact h)
def jq:AFunc:=funcAt Tryd.prog xj
def qaq:Kp:=⟨[0],false,[0]⟩
def qal (k:Nat):Kp × ACode:=(qaq,part jq.body k)
theorem qao (M:Mac) (c:Ctx):(∀ Q E D H,W M c (qal 0) true Q E D H =
 LK true (lk E 0) fun g t0=>B3 g (Op.nilCheck [t0]) fun g t3=>B3 g ((Op.fieldAddr 0) [t3]) fun g t4=>B3 g (Op.load1 [t4] H) fun g t5=>B3 g ((Op.eq .ptr false) [t5,.nilp] H) fun g t6=>IF3 g t6 (fun g=>LK g (lk E 0) fun g t0_1=>B3 g ((Op.castPtr (liesB Tryd.prog 78)) [t0_1] H) fun g t9=>B3 g (Op.noEscape [t9]) fun g t10=>B3 g ((Op.castPtr (liesB Tryd.prog 78)) [t10] H) fun g t11=>B3 g (Op.nilCheck [t0_1]) fun g t12=>B3 g ((Op.fieldAddr 0) [t12]) fun g t13=>B32 g ((Op.store 1) [t13,t11] H) fun g u H1=>GO3 g Q .normal E D H1) (fun g=>LK g (lk E 0) fun g t0_1=>B3 g (Op.nilCheck [t0_1]) fun g t15=>B3 g ((Op.fieldAddr 0) [t15]) fun g t16=>B3 g (Op.load1 [t16] H) fun g t17=>B3 g ((Op.eq .ptr true) [t17,t0_1] H) fun g t19=>IF3 g t19 (fun g=>False) (fun g=>GO3 g Q .normal E D H))):=by intro _ _ _ _; refine W_unf ?_; kernel_rfl
theorem qan:(cProg Tryd.prog).func xj = some jq /\ jq.results = []:=xd (by kernel_rfl)
theorem qed {M:Mac} [MK M]:M.func xj = some jq:=MK.at (by decide) qan.1
theorem qe1 {M:Mac} [MK M] {a0:AV} {H:AHeap} {Q:AEnd -> AHeap -> Prop} (h:W M ⟨none,xj⟩ (qal 0) true (FIN3 M [] Q) [(0,a0)] [] H):CALLE M xj [a0] H Q :=
 calle qed (ks:=qaq) (by kernel_rfl) (by rw [qan.2]; exact h)
def yk:AFunc:=funcAt Tryd.prog z6
def qcl:Kp:=⟨[0,1,4],false,[0]⟩
def qcr (k:Nat):Kp × ACode:=(qcl,part yk.body k)
theorem qh2 (M:Mac) (c:Ctx):(∀ Q E D H,W M c (qcr 0) true Q E D H =
 LK true (lk E 0) fun g t0=>B3 g (Op.nilCheck [t0]) fun g t6=>B3 g ((Op.fieldAddr 1) [t6]) fun g t7=>B3 g (Op.load1 [t7] H) fun g t8=>B3 g (Op.cap [t8]) fun g t9=>B3 g ((Op.bin .mul) [(.int .i64 2),t9]) fun g t10=>LK g (lk E 1) fun g t1=>B3 g ((Op.bin .add) [t10,t1]) fun g t12=>B3 g (Op.nilCheck [t0]) fun g t15=>B3 g ((Op.fieldAddr 1) [t15]) fun g t16=>B3 g (Op.load1 [t16] H) fun g t17=>B3 g (Op.lenSl [t17]) fun g t18=>B32 g ((Op.makeNoZero qbp) [t12]) fun g o1 k1=>B3 g ((Op.sliceSl 1 [none,(some 0),none]) [(k1 H.next),t18]) fun g t19=>LK g (lk E 0) fun g t0_1=>B3 g (Op.nilCheck [t0_1]) fun g t22=>B3 g ((Op.fieldAddr 1) [t22]) fun g t23=>B3 g (Op.load1 [t23] (H.alloc o1)) fun g t24=>B32 g ((Op.copy 1) [t19,t24] (H.alloc o1)) fun g t25 H2=>LK g (lk E 0) fun g t0_2=>B3 g (Op.nilCheck [t0_2]) fun g t28=>B3 g ((Op.fieldAddr 1) [t28]) fun g t29=>B32 g ((Op.store 1) [t29,t19] H2) fun g u H3=>GO3 g Q .normal ((4,t19)::E) D H3):=by intro _ _ _ _; refine W_unf ?_; kernel_rfl
theorem qcq:(cProg Tryd.prog).func z6 = some yk /\ yk.results = []:=xd (by kernel_rfl)
theorem qhb {M:Mac} [MK M]:M.func z6 = some yk:=MK.at (by decide) qcq.1
theorem qh3 {M:Mac} [MK M] {a0 a1:AV} {H:AHeap} {Q:AEnd -> AHeap -> Prop} (h:W M ⟨none,z6⟩ (qcr 0) true (FIN3 M [] Q) [(0,a0),(1,a1)] [] H):CALLE M z6 [a0,a1] H Q :=
 calle qhb (ks:=qcl) (by kernel_rfl) (by rw [qcq.2]; exact h)
def ku:AFunc:=funcAt Tryd.prog zd
def qby:Kp:=⟨[0,2],false,[0,2,10]⟩
def zb (k:Nat):Kp × ACode:=(qby,part ku.body k)
theorem qbt (M:Mac) (c:Ctx):(∀ Q E D H,W M c (zb 0) true Q E D H =
 W M c (zb 2) true Q ((2,(.str []))::E) D H) /\
 (∀ Q E D H,W M c (zb 2) true Q E D H =
  LK true (lk E 0) fun g t0=>B3 g ((Op.bin .lss) [t0,(.int .i64 10)]) fun g t4=>IF3 g t4 (fun g=>LK g (lk E 0) fun g t0_1=>B3 g ((Op.bin .add) [t0_1,(.int .i64 1)]) fun g t7=>B3 g ((Op.sliceStr [(some 0),(some 1)]) [(.str qqa),t0_1,t7]) fun g t8=>GO3 g (SEQ3 (W M c (zb 10)) Q) .ret ((2,t8)::E) D H) (fun g=>GO3 g (SEQ3 (W M c (zb 10)) Q) .normal E D H)) /\
 (∀ Q E D H,W M c (zb 10) true Q E D H =
  LK true (lk E 0) fun g t0=>B3 g ((Op.bin .mul) [t0,(.int .i64 2)]) fun g t10=>B3 g ((Op.bin .mul) [t0,(.int .i64 2)]) fun g t12=>B3 g ((Op.bin .add) [t12,(.int .i64 2)]) fun g t13=>B3 g ((Op.sliceStr [(some 0),(some 1)]) [(.str z8),t10,t13]) fun g t14=>GO3 g Q .ret ((2,t14)::E) D H):=by (repeat' apply And.intro)<;>(intro _ _ _ _; refine W_unf ?_; kernel_rfl)
theorem qbw:(cProg Tryd.prog).func zd = some ku /\ ku.results = [.tmp 2]:=xd (by kernel_rfl)
theorem qf6 {M:Mac} [MK M]:M.func zd = some ku:=MK.at (by decide) qbw.1
theorem qgr {M:Mac} [MK M] {a0:AV} {H:AHeap} {Q:AEnd -> AHeap -> Prop} (h:W M ⟨none,zd⟩ (zb 0) true (FIN3 M [.tmp 2] Q) [(0,a0)] [] H):CALLE M zd [a0] H Q :=
 calle qf6 (ks:=qby) (by kernel_rfl) (by rw [qbw.2]; exact h)
def jk:AFunc:=funcAt Tryd.prog xo
def qag:Kp:=⟨[0,2,3],false,[0]⟩
def wo (k:Nat):Kp × ACode:=(qag,part jk.body k)
theorem zo (M:Mac) (c:Ctx):(∀ Q E D H,W M c (wo 0) true Q E D H =
 LK true (lk E 0) fun g t0=>C3 M g (.func jj) [t0] H fun g t5 H1=>C3 M g (.func xr) [t5] H1 fun g t6 H2=>LK g (lk E 0) fun g t0_1=>B3 g ((Op.indexArr 20 1) [(.ptr xf 0),t6]) fun g t10=>B3 g (Op.load1 [t10] H2) fun g t11=>B3 g ((Op.bin .geq) [t0_1,t11]) fun g t12=>C3 M g (.func xu) [t12] H2 fun g t13 H3=>B3 g ((Op.bin .add) [t6,t13]) fun g t14=>GO3 g Q .ret ((2,t14)::(3,t6)::(2,(.int .i64 0))::E) D H3):=by intro _ _ _ _; refine W_unf ?_; kernel_rfl
theorem qaj:(cProg Tryd.prog).func xo = some jk /\ jk.results = [.tmp 2]:=xd (by kernel_rfl)
theorem qdp {M:Mac} [MK M]:M.func xo = some jk:=MK.at (by decide) qaj.1
theorem qd3 {M:Mac} [MK M] {a0:AV} {H:AHeap} {Q:AEnd -> AHeap -> Prop} (h:W M ⟨none,xo⟩ (wo 0) true (FIN3 M [.tmp 2] Q) [(0,a0)] [] H):CALLE M xo [a0] H Q :=
 calle qdp (ks:=qag) (by kernel_rfl) (by rw [qaj.2]; exact h)
def zw:AFunc:=funcAt Tryd.prog xc
def vf:Kp:=⟨[0,1,4,5,6,7,8,9,10,11,12,13,14,15,16],false,[0,2,5,11,16,20,24,31,33,39,43,49,61]⟩
def qb (k:Nat):Kp × ACode:=(vf,part zw.body k)
theorem xb (M:Mac) (c:Ctx):(∀ Q E D H,W M c (qb 0) true Q E D H =
 LK true (lk E 0) fun g t0=>B3 g (Op.lenSl [t0]) fun g t18=>W M c (qb 2) g Q ((4,t18)::E) D H) /\
 (∀ Q E D H,W M c (qb 2) true Q E D H =
  LOOP3 (W M c (qb 5)) (BLK3 0 (SEQ3 (W M c (qb 31)) Q)) E D H) /\
 (∀ Q E D H,W M c (qb 31) true Q E D H =
  LK true (lk E 1) fun g t1=>B3 g ((Op.wrap .u32) [t1]) fun g t97=>W M c (qb 33) g Q ((12,t97)::E) D H) /\
 (∀ Q E D H,W M c (qb 5) true Q E D H =
  LK true (lk E 4) fun g t4=>B3 g ((Op.bin .geq) [t4,(.int .i64 8)]) fun g t20=>IF3 g t20 (fun g=>GO3 g (SEQ3 (W M c (qb 11)) Q) .normal E D H) (fun g=>GO3 g (SEQ3 (W M c (qb 11)) Q) (.exit 0) E D H)) /\
 (∀ Q E D H,W M c (qb 33) true Q E D H =
  LK true (lk E 4) fun g t4=>B3 g ((Op.bin .geq) [t4,(.int .i64 4)]) fun g t99=>IF3 g t99 (fun g=>LK g (lk E 12) fun g t12=>B3 g ((Op.bin .rem) [t12,(.int .u32 10000)]) fun g t101=>W M c (qb 39) g (SEQ3 (W M c (qb 49)) Q) ((13,t101)::E) D H) (fun g=>GO3 g (SEQ3 (W M c (qb 49)) Q) .normal E D H)) /\
 (∀ Q E D H,W M c (qb 11) true Q E D H =
  LK true (lk E 1) fun g t1=>B3 g ((Op.bin .rem) [t1,(.int .u64 100000000)]) fun g t22=>B3 g ((Op.wrap .u32) [t22]) fun g t23=>LK g (lk E 1) fun g t1_1=>B3 g ((Op.bin .quo) [t1_1,(.int .u64 100000000)]) fun g t25=>W M c (qb 16) g (BLK3 1 Q) ((1,t25)::(5,t23)::E) D H) /\
 (∀ Q E D H,W M c (qb 49) true Q E D H =
  LK true (lk E 4) fun g t4=>B3 g ((Op.bin .geq) [t4,(.int .i64 2)]) fun g t139=>IF3 g t139 (fun g=>LK g (lk E 12) fun g t12=>B3 g ((Op.bin .rem) [t12,(.int .u32 100)]) fun g t141=>B3 g ((Op.bin .mul) [t141,(.int .u32 2)]) fun g t142=>LK g (lk E 12) fun g t12_1=>B3 g ((Op.bin .quo) [t12_1,(.int .u32 100)]) fun g t144=>LK g (lk E 0) fun g t0=>LK g (lk E 4) fun g t4_1=>B3 g ((Op.bin .sub) [t4_1,(.int .i64 1)]) fun g t147=>B3 g ((Op.bin .sub) [t4_1,(.int .i64 2)]) fun g t150=>B3 g ((Op.bin .add) [t142,(.int .u32 1)]) fun g t152=>B3 g (Op.indexStr [(.str z8),t152]) fun g t153=>B3 g (Op.indexStr [(.str z8),t142]) fun g t155=>B3 g ((Op.indexSl 1) [t0,t147]) fun g t156=>B32 g ((Op.store 1) [t156,t153] H) fun g u H1=>B3 g ((Op.indexSl 1) [t0,t150]) fun g t157=>B32 g ((Op.store 1) [t157,t155] H1) fun g u_1 H2=>LK g (lk E 4) fun g t4_2=>B3 g ((Op.bin .sub) [t4_2,(.int .i64 2)]) fun g t159=>GO3 g (SEQ3 (W M c (qb 61)) Q) .normal ((4,t159)::(12,t144)::(16,t142)::E) D H2) (fun g=>GO3 g (SEQ3 (W M c (qb 61)) Q) .normal E D H)) /\
 (∀ Q E D H,W M c (qb 39) true Q E D H =
  LK true (lk E 12) fun g t12=>B3 g ((Op.bin .quo) [t12,(.int .u32 10000)]) fun g t103=>LK g (lk E 13) fun g t13=>B3 g ((Op.bin .quo) [t13,(.int .u32 100)]) fun g t105=>B3 g ((Op.bin .mul) [t105,(.int .u32 2)]) fun g t106=>B3 g ((Op.bin .rem) [t13,(.int .u32 100)]) fun g t108=>B3 g ((Op.bin .mul) [t108,(.int .u32 2)]) fun g t109=>W M c (qb 43) g Q ((15,t109)::(14,t106)::(12,t103)::E) D H) /\
 (∀ Q E D H,W M c (qb 16) true Q E D H =
  LK true (lk E 5) fun g t5=>B3 g ((Op.bin .quo) [t5,(.int .u32 10000)]) fun g t27=>B3 g ((Op.bin .rem) [t5,(.int .u32 10000)]) fun g t29=>B3 g ((Op.bin .quo) [t29,(.int .u32 100)]) fun g t31=>B3 g ((Op.bin .mul) [t31,(.int .u32 2)]) fun g t32=>B3 g ((Op.bin .rem) [t29,(.int .u32 100)]) fun g t34=>B3 g ((Op.bin .mul) [t34,(.int .u32 2)]) fun g t35=>W M c (qb 20) g Q ((9,t35)::(8,t32)::(7,t29)::(6,t27)::E) D H) /\
 (∀ Q E D H,W M c (qb 61) true Q E D H =
  LK true (lk E 4) fun g t4=>B3 g ((Op.bin .gtr) [t4,(.int .i64 0)]) fun g t161=>IF3 g t161 (fun g=>LK g (lk E 0) fun g t0=>LK g (lk E 12) fun g t12=>B3 g ((Op.bin .add) [(.int .u32 48),t12]) fun g t164=>B3 g ((Op.wrap .u8) [t164]) fun g t165=>B3 g ((Op.indexSl 1) [t0,(.int .i64 0)]) fun g t166=>B32 g ((Op.store 1) [t166,t165] H) fun g u H1=>GO3 g Q .normal E D H1) (fun g=>GO3 g Q .normal E D H)) /\
 (∀ Q E D H,W M c (qb 43) true Q E D H =
  LK true (lk E 0) fun g t0=>LK g (lk E 4) fun g t4=>B3 g ((Op.bin .sub) [t4,(.int .i64 1)]) fun g t112=>B3 g ((Op.bin .sub) [t4,(.int .i64 2)]) fun g t115=>LK g (lk E 15) fun g t15=>B3 g ((Op.bin .add) [t15,(.int .u32 1)]) fun g t117=>B3 g (Op.indexStr [(.str z8),t117]) fun g t118=>B3 g (Op.indexStr [(.str z8),t15]) fun g t120=>B3 g ((Op.indexSl 1) [t0,t112]) fun g t121=>B32 g ((Op.store 1) [t121,t118] H) fun g u H1=>B3 g ((Op.indexSl 1) [t0,t115]) fun g t122=>B32 g ((Op.store 1) [t122,t120] H1) fun g u_1 H2=>LK g (lk E 0) fun g t0_1=>LK g (lk E 4) fun g t4_1=>B3 g ((Op.bin .sub) [t4_1,(.int .i64 3)]) fun g t125=>B3 g ((Op.bin .sub) [t4_1,(.int .i64 4)]) fun g t128=>LK g (lk E 14) fun g t14=>B3 g ((Op.bin .add) [t14,(.int .u32 1)]) fun g t130=>B3 g (Op.indexStr [(.str z8),t130]) fun g t131=>B3 g (Op.indexStr [(.str z8),t14]) fun g t133=>B3 g ((Op.indexSl 1) [t0_1,t125]) fun g t134=>B32 g ((Op.store 1) [t134,t131] H2) fun g u_2 H3=>B3 g ((Op.indexSl 1) [t0_1,t128]) fun g t135=>B32 g ((Op.store 1) [t135,t133] H3) fun g u_3 H4=>LK g (lk E 4) fun g t4_2=>B3 g ((Op.bin .sub) [t4_2,(.int .i64 4)]) fun g t137=>GO3 g Q .normal ((4,t137)::E) D H4) /\
 (∀ Q E D H,W M c (qb 20) true Q E D H =
  LK true (lk E 6) fun g t6=>B3 g ((Op.bin .quo) [t6,(.int .u32 100)]) fun g t37=>B3 g ((Op.bin .mul) [t37,(.int .u32 2)]) fun g t38=>B3 g ((Op.bin .rem) [t6,(.int .u32 100)]) fun g t40=>B3 g ((Op.bin .mul) [t40,(.int .u32 2)]) fun g t41=>LK g (lk E 0) fun g t0=>LK g (lk E 4) fun g t4=>B3 g ((Op.bin .sub) [t4,(.int .i64 1)]) fun g t44=>B3 g ((Op.bin .sub) [t4,(.int .i64 2)]) fun g t47=>LK g (lk E 9) fun g t9=>B3 g ((Op.bin .add) [t9,(.int .u32 1)]) fun g t49=>B3 g (Op.indexStr [(.str z8),t49]) fun g t50=>B3 g (Op.indexStr [(.str z8),t9]) fun g t52=>B3 g ((Op.indexSl 1) [t0,t44]) fun g t53=>B32 g ((Op.store 1) [t53,t50] H) fun g u H1=>B3 g ((Op.indexSl 1) [t0,t47]) fun g t54=>B32 g ((Op.store 1) [t54,t52] H1) fun g u_1 H2=>W M c (qb 24) g Q ((11,t41)::(10,t38)::E) D H2) /\
 (∀ Q E D H,W M c (qb 24) true Q E D H =
  LK true (lk E 0) fun g t0=>LK g (lk E 4) fun g t4=>B3 g ((Op.bin .sub) [t4,(.int .i64 3)]) fun g t57=>B3 g ((Op.bin .sub) [t4,(.int .i64 4)]) fun g t60=>LK g (lk E 8) fun g t8=>B3 g ((Op.bin .add) [t8,(.int .u32 1)]) fun g t62=>B3 g (Op.indexStr [(.str z8),t62]) fun g t63=>B3 g (Op.indexStr [(.str z8),t8]) fun g t65=>B3 g ((Op.indexSl 1) [t0,t57]) fun g t66=>B32 g ((Op.store 1) [t66,t63] H) fun g u H1=>B3 g ((Op.indexSl 1) [t0,t60]) fun g t67=>B32 g ((Op.store 1) [t67,t65] H1) fun g u_1 H2=>LK g (lk E 0) fun g t0_1=>LK g (lk E 4) fun g t4_1=>B3 g ((Op.bin .sub) [t4_1,(.int .i64 5)]) fun g t70=>B3 g ((Op.bin .sub) [t4_1,(.int .i64 6)]) fun g t73=>LK g (lk E 11) fun g t11=>B3 g ((Op.bin .add) [t11,(.int .u32 1)]) fun g t75=>B3 g (Op.indexStr [(.str z8),t75]) fun g t76=>B3 g (Op.indexStr [(.str z8),t11]) fun g t78=>B3 g ((Op.indexSl 1) [t0_1,t70]) fun g t79=>B32 g ((Op.store 1) [t79,t76] H2) fun g u_2 H3=>B3 g ((Op.indexSl 1) [t0_1,t73]) fun g t80=>B32 g ((Op.store 1) [t80,t78] H3) fun g u_3 H4=>LK g (lk E 0) fun g t0_2=>LK g (lk E 4) fun g t4_2=>B3 g ((Op.bin .sub) [t4_2,(.int .i64 7)]) fun g t83=>B3 g ((Op.bin .sub) [t4_2,(.int .i64 8)]) fun g t86=>LK g (lk E 10) fun g t10=>B3 g ((Op.bin .add) [t10,(.int .u32 1)]) fun g t88=>B3 g (Op.indexStr [(.str z8),t88]) fun g t89=>B3 g (Op.indexStr [(.str z8),t10]) fun g t91=>B3 g ((Op.indexSl 1) [t0_2,t83]) fun g t92=>B32 g ((Op.store 1) [t92,t89] H4) fun g u_4 H5=>B3 g ((Op.indexSl 1) [t0_2,t86]) fun g t93=>B32 g ((Op.store 1) [t93,t91] H5) fun g u_5 H6=>LK g (lk E 4) fun g t4_3=>B3 g ((Op.bin .sub) [t4_3,(.int .i64 8)]) fun g t95=>GO3 g Q .normal ((4,t95)::E) D H6):=by (repeat' apply And.intro)<;>(intro _ _ _ _; refine W_unf ?_; kernel_rfl)
theorem vj:(cProg Tryd.prog).func xc = some zw /\ zw.results = []:=xd (by kernel_rfl)
theorem qci {M:Mac} [MK M]:M.func xc = some zw:=MK.at (by decide) vj.1
theorem qc0 {M:Mac} [MK M] {a0 a1:AV} {H:AHeap} {Q:AEnd -> AHeap -> Prop} (h:W M ⟨none,xc⟩ (qb 0) true (FIN3 M [] Q) [(0,a0),(1,a1)] [] H):CALLE M xc [a0,a1] H Q :=
 calle qci (ks:=vf) (by kernel_rfl) (by rw [vj.2]; exact h)
def jl:AFunc:=funcAt Tryd.prog xr
def wq:Kp:=⟨[0,2],false,[0]⟩
def wy (k:Nat):Kp × ACode:=(wq,part jl.body k)
theorem qec (M:Mac) (c:Ctx):(∀ Q E D H,W M c (wy 0) true Q E D H =
 LK true (lk E 0) fun g t0=>B3 g ((Op.bin .mul) [t0,(.int .i64 78913)]) fun g t4=>B3 g ((Op.bin .shr) [t4,(.int .u64 18)]) fun g t5=>GO3 g Q .ret ((2,t5)::(2,(.int .i64 0))::E) D H):=by intro _ _ _ _; refine W_unf ?_; kernel_rfl
theorem wx:(cProg Tryd.prog).func xr = some jl /\ jl.results = [.tmp 2]:=xd (by kernel_rfl)
theorem qdj {M:Mac} [MK M]:M.func xr = some jl:=MK.at (by decide) wx.1
theorem qd1 {M:Mac} [MK M] {a0:AV} {H:AHeap} {Q:AEnd -> AHeap -> Prop} (h:W M ⟨none,xr⟩ (wy 0) true (FIN3 M [.tmp 2] Q) [(0,a0)] [] H):CALLE M xr [a0] H Q :=
 calle qdj (ks:=wq) (by kernel_rfl) (by rw [wx.2]; exact h)
def qa8:AFunc:=funcAt Tryd.prog jj
def qgm:Kp:=⟨[0,2],false,[0,2,10,18,26]⟩
def xe (k:Nat):Kp × ACode:=(qgm,part qa8.body k)
theorem qa6 (M:Mac) (c:Ctx):(∀ Q E D H,W M c (xe 0) true Q E D H =
 W M c (xe 2) true Q ((2,(.int .i64 0))::E) D H) /\
 (∀ Q E D H,W M c (xe 2) true Q E D H =
  LK true (lk E 0) fun g t0=>B3 g ((Op.bin .geq) [t0,(.int .u64 4294967296)]) fun g t4=>IF3 g t4 (fun g=>LK g (lk E 0) fun g t0_1=>B3 g ((Op.bin .shr) [t0_1,(.int .u64 32)]) fun g t6=>GO3 g (SEQ3 (W M c (xe 10)) Q) .normal ((2,(.int .i64 32))::(0,t6)::E) D H) (fun g=>GO3 g (SEQ3 (W M c (xe 10)) Q) .normal E D H)) /\
 (∀ Q E D H,W M c (xe 10) true Q E D H =
  LK true (lk E 0) fun g t0=>B3 g ((Op.bin .geq) [t0,(.int .u64 65536)]) fun g t8=>IF3 g t8 (fun g=>LK g (lk E 0) fun g t0_1=>B3 g ((Op.bin .shr) [t0_1,(.int .u64 16)]) fun g t10=>LK g (lk E 2) fun g t2=>B3 g ((Op.bin .add) [t2,(.int .i64 16)]) fun g t12=>GO3 g (SEQ3 (W M c (xe 18)) Q) .normal ((2,t12)::(0,t10)::E) D H) (fun g=>GO3 g (SEQ3 (W M c (xe 18)) Q) .normal E D H)) /\
 (∀ Q E D H,W M c (xe 18) true Q E D H =
  LK true (lk E 0) fun g t0=>B3 g ((Op.bin .geq) [t0,(.int .u64 256)]) fun g t14=>IF3 g t14 (fun g=>LK g (lk E 0) fun g t0_1=>B3 g ((Op.bin .shr) [t0_1,(.int .u64 8)]) fun g t16=>LK g (lk E 2) fun g t2=>B3 g ((Op.bin .add) [t2,(.int .i64 8)]) fun g t18=>GO3 g (SEQ3 (W M c (xe 26)) Q) .normal ((2,t18)::(0,t16)::E) D H) (fun g=>GO3 g (SEQ3 (W M c (xe 26)) Q) .normal E D H)) /\
 (∀ Q E D H,W M c (xe 26) true Q E D H =
  LK true (lk E 2) fun g t2=>LK g (lk E 0) fun g t0=>B3 g ((Op.wrap .u8) [t0]) fun g t21=>B3 g (Op.indexStr [(.str qlp),t21]) fun g t22=>B3 g ((Op.wrap .i64) [t22]) fun g t23=>B3 g ((Op.bin .add) [t2,t23]) fun g t24=>GO3 g Q .ret ((2,t24)::E) D H):=by (repeat' apply And.intro)<;>(intro _ _ _ _; refine W_unf ?_; kernel_rfl)
theorem qgy:(cProg Tryd.prog).func jj = some qa8 /\ qa8.results = [.tmp 2]:=xd (by kernel_rfl)
theorem qlf {M:Mac} [MK M]:M.func jj = some qa8:=MK.at (by decide) qgy.1
theorem qmc {M:Mac} [MK M] {a0:AV} {H:AHeap} {Q:AEnd -> AHeap -> Prop} (h:W M ⟨none,jj⟩ (xe 0) true (FIN3 M [.tmp 2] Q) [(0,a0)] [] H):CALLE M jj [a0] H Q :=
 calle qlf (ks:=qgm) (by kernel_rfl) (by rw [qgy.2]; exact h)
def jm:AFunc:=funcAt Tryd.prog xu
def wn:Kp:=⟨[0,2],false,[0,2,10]⟩
def xq (k:Nat):Kp × ACode:=(wn,part jm.body k)
theorem qee (M:Mac) (c:Ctx):(∀ Q E D H,W M c (xq 0) true Q E D H =
 W M c (xq 2) true Q ((2,(.int .i64 0))::E) D H) /\
 (∀ Q E D H,W M c (xq 2) true Q E D H =
  LK true (lk E 0) fun g t0=>IF3 g t0 (fun g=>GO3 g (SEQ3 (W M c (xq 10)) Q) .ret ((2,(.int .i64 1))::E) D H) (fun g=>GO3 g (SEQ3 (W M c (xq 10)) Q) .normal E D H)) /\
 (∀ Q E D H,W M c (xq 10) true Q E D H =
  GO3 true Q .ret ((2,(.int .i64 0))::E) D H):=by (repeat' apply And.intro)<;>(intro _ _ _ _; refine W_unf ?_; kernel_rfl)
theorem qae:(cProg Tryd.prog).func xu = some jm /\ jm.results = [.tmp 2]:=xd (by kernel_rfl)
theorem qdh {M:Mac} [MK M]:M.func xu = some jm:=MK.at (by decide) qae.1
theorem qd6 {M:Mac} [MK M] {a0:AV} {H:AHeap} {Q:AEnd -> AHeap -> Prop} (h:W M ⟨none,xu⟩ (xq 0) true (FIN3 M [.tmp 2] Q) [(0,a0)] [] H):CALLE M xu [a0] H Q :=
 calle qdh (ks:=wn) (by kernel_rfl) (by rw [qae.2]; exact h)
end
end Go.Am
namespace Go.Am
abbrev xn:Nat:=125
abbrev kj:Nat:=15
abbrev qas:Nat:=63
abbrev jz:Nat:=40
abbrev qau:Nat:=62
abbrev qbn:Nat:=129
abbrev qat:Nat:=128
abbrev x9:Nat:=101
abbrev jn:Nat:=100
abbrev xa:Nat:=99
abbrev z4:Nat:=41
abbrev qy:Nat:=66
abbrev qg:Nat:=64
abbrev kg:Nat:=95
abbrev qmj:Nat:=123
abbrev j0:Nat:=124
abbrev zt:Nat:=93
abbrev xv:Nat:=96
abbrev je:Nat:=65
abbrev qk:Nat:=58
abbrev qug:Nat:=4
abbrev T_int:Nat:=3
abbrev x6:Nat:=80
abbrev vl:Nat:=78
def qzk:List UInt8:=[115,116,114,105,110,103,115,58,32,110,101,103,97,116,105,118,101,32,82,101,112,101,97,116,32,99,111,117,110,116]
def qza:List UInt8:=[115,116,114,105,110,103,115,58,32,82,101,112,101,97,116,32,111,117,116,112,117,116,32,108,101,110,103,116,104,32,111,118,101,114,102,108,111,119]
def qcy:List UInt8:=[32,32,32,32,32,32,32,32,32,32,32,32,32,32,32,32,32,32,32,32,32,32,32,32,32,32,32,32,32,32,32,32,32,32,32,32,32,32,32,32,32,32,32,32,32,32,32,32,32,32,32,32,32,32,32,32,32,32,32,32,32,32,32,32,32,32,32,32,32,32,32,32,32,32,32,32,32,32,32,32,32,32,32,32,32,32,32,32,32,32,32,32,32,32,32,32,32,32,32,32,32,32,32,32,32,32,32,32,32,32,32,32,32,32,32,32,32,32,32,32,32,32,32,32,32,32,32,32]
def qru:List UInt8:=[45,45,45,45,45,45,45,45,45,45,45,45,45,45,45,45,45,45,45,45,45,45,45,45,45,45,45,45,45,45,45,45,45,45,45,45,45,45,45,45,45,45,45,45,45,45,45,45,45,45,45,45,45,45,45,45,45,45,45,45,45,45,45,45,45,45,45,45,45,45,45,45,45,45,45,45,45,45,45,45,45,45,45,45,45,45,45,45,45,45,45,45,45,45,45,45,45,45,45,45,45,45,45,45,45,45,45,45,45,45,45,45,45,45,45,45,45,45,45,45,45,45,45,45,45,45,45,45]
def qro:List UInt8:=[48,48,48,48,48,48,48,48,48,48,48,48,48,48,48,48,48,48,48,48,48,48,48,48,48,48,48,48,48,48,48,48,48,48,48,48,48,48,48,48,48,48,48,48,48,48,48,48,48,48,48,48,48,48,48,48,48,48,48,48,48,48,48,48]
def qq6:List UInt8:=[61,61,61,61,61,61,61,61,61,61,61,61,61,61,61,61,61,61,61,61,61,61,61,61,61,61,61,61,61,61,61,61,61,61,61,61,61,61,61,61,61,61,61,61,61,61,61,61,61,61,61,61,61,61,61,61,61,61,61,61,61,61,61,61,61,61,61,61,61,61,61,61,61,61,61,61,61,61,61,61,61,61,61,61,61,61,61,61,61,61,61,61,61,61,61,61,61,61,61,61,61,61,61,61,61,61,61,61,61,61,61,61,61,61,61,61,61,61,61,61,61,61,61,61,61,61,61,61]
def qrs:List UInt8:=[9,9,9,9,9,9,9,9,9,9,9,9,9,9,9,9,9,9,9,9,9,9,9,9,9,9,9,9,9,9,9,9,9,9,9,9,9,9,9,9,9,9,9,9,9,9,9,9,9,9,9,9,9,9,9,9,9,9,9,9,9,9,9,9]
def q0h:List UInt8:=[116,104,101,32,114,101,115,117,108,116,32,111,102,32,40,108,101,110,40,120,41,32,42,32,99,111,117,110,116,41,32,111,118,101,114,102,108,111,119,115]
noncomputable section
open Go.Proofs Go.Proofs.YtbimikjajohflaaDoor
def qfr:AFunc:=funcAt Tryd.prog kj
def qm5:Kp:=⟨[0,2,3,4],false,[0,2,10,14,22]⟩
def js (k:Nat):Kp × ACode:=(qm5,part qfr.body k)
theorem qng (M:Mac) (c:Ctx):(∀ Q E D H,W M c (js 0) true Q E D H =
 W M c (js 2) true Q ((3,(.int .i64 0))::(2,(.str []))::E) D H) /\
 (∀ Q E D H,W M c (js 2) true Q E D H =
  LK true (lk E 0) fun g t0=>C3 M g (.func jz) [t0] H fun g t6 H1=>B3 g ((Op.un .not) [t6]) fun g t7=>IF3 g t7 (fun g=>GO3 g (SEQ3 (W M c (js 10)) Q) .ret ((3,(.int .i64 2))::(2,(.str []))::E) D H1) (fun g=>GO3 g (SEQ3 (W M c (js 10)) Q) .normal E D H1)) /\
 (∀ Q E D H,W M c (js 10) true Q E D H =
  LK true (lk E 0) fun g t0=>B3 g ((Op.build [.nilp,.nils,.nils,(.int .i64 0),(.int .i64 0)] [(2,1)]) [t0]) fun g t9=>A3 g x6 (AV.cells t9) H fun g t10 H1=>LK g (lk E 0) fun g t0_1=>B3 g (Op.lenSl [t0_1]) fun g t13=>B3 g ((Op.bin .sub) [t13,(.int .i64 1)]) fun g t14=>C3 M g (.func z4) [t10,t14,(.int .i64 0)] H1 fun g t15 H2=>W M c (js 14) g Q ((4,t10)::E) D H2) /\
 (∀ Q E D H,W M c (js 14) true Q E D H =
  LK true (lk E 4) fun g t4=>B3 g (Op.nilCheck [t4]) fun g t17=>B3 g ((Op.fieldAddr 4) [t17]) fun g t18=>B3 g (Op.load1 [t18] H) fun g t19=>B3 g ((Op.bin .gtr) [t19,(.int .i64 50)]) fun g t20=>IF3 g t20 (fun g=>GO3 g (SEQ3 (W M c (js 22)) Q) .ret ((3,(.int .i64 2))::(2,(.str []))::E) D H) (fun g=>GO3 g (SEQ3 (W M c (js 22)) Q) .normal E D H)) /\
 (∀ Q E D H,W M c (js 22) true Q E D H =
  LK true (lk E 4) fun g t4=>B3 g (Op.nilCheck [t4]) fun g t22=>B3 g ((Op.fieldAddr 0) [t22]) fun g t23=>C3 M g (.func xk) [t23] H fun g t24 H1=>GO3 g Q .ret ((3,(.int .i64 0))::(2,t24)::E) D H1):=by (repeat' apply And.intro)<;>(intro _ _ _ _; refine W_unf ?_; kernel_rfl)
theorem qnp:(cProg Tryd.prog).func kj = some qfr /\ qfr.results = [.tmp 2,.tmp 3]:=xd (by kernel_rfl)
theorem qsw {M:Mac} [MK M]:M.func kj = some qfr:=MK.at (by decide) qnp.1
theorem qnc {M:Mac} [MK M] {a0:AV} {H:AHeap} {Q:AEnd -> AHeap -> Prop} (h:W M ⟨none,kj⟩ (js 0) true (FIN3 M [.tmp 2,.tmp 3] Q) [(0,a0)] [] H):CALLE M kj [a0] H Q :=
 calle qsw (ks:=qm5) (by kernel_rfl) (by rw [qnp.2]; exact h)
def qi9:AFunc:=funcAt Tryd.prog jz
def qrt:Kp:=⟨[0,2,3,4,5,6,7,8,9,10,11,33,34,35,70,71,72],false,[0,2,10,14,19,25,31,39,41,46,52,56,64,65,66,70,78,80,81,82]⟩
def qj (k:Nat):Kp × ACode:=(qrt,part qi9.body k)
theorem qq7 (M:Mac) (c:Ctx):(∀ Q E D H,W M c (qj 0) true Q E D H =
 W M c (qj 2) true Q ((2,(.bool false))::E) D H) /\
 (∀ Q E D H,W M c (qj 2) true Q E D H =
  LK true (lk E 0) fun g t0=>B3 g (Op.lenSl [t0]) fun g t13=>B3 g ((Op.bin .lss) [t13,(.int .i64 1)]) fun g t14=>JN (fun (k:Bool -> AV -> AV -> AV -> AHeap -> Prop)=>B3 g (wantV false (some t14)) fun g w=>IG3 g w (fun g=>B3 g (Op.lenSl [t0]) fun g t17=>B3 g ((Op.bin .gtr) [t17,(.int .i64 2000)]) fun g t18=>k g t18 t17 t0 H) (fun g=>k g uu uu uu H)) (fun g t18_1 t17_1 t16_1 H1=>B3 g (Op.pick [t14,(.bool true),t18_1]) fun g t19=>JN (fun (k:Bool -> AV -> AV -> AV -> AV -> AV -> AV -> AV -> AV -> AHeap -> Prop)=>B3 g (wantV false (some t19)) fun g w=>IG3 g w (fun g=>B3 g (Op.lenSl [t0]) fun g t23=>B3 g ((Op.bin .sub) [t23,(.int .i64 1)]) fun g t24=>B3 g ((Op.indexSl 3) [t0,t24]) fun g t25=>B3 g ((Op.fieldAddr 0) [t25]) fun g t26=>B3 g (Op.load1 [t26] H1) fun g t27=>B3 g ((Op.bin .neq) [t27,(.int .i64 20)]) fun g t28=>k g t28 t27 t26 t25 t24 t23 t0 t0 H1) (fun g=>k g uu uu uu uu uu uu uu uu H1)) (fun g t28_1 t27_1 t26_1 t25_1 t24_1 t23_1 t22_1 t21_1 H2=>B3 g (Op.pick [t19,(.bool true),t28_1]) fun g t29=>IF3 g t29 (fun g=>GO3 g (SEQ3 (W M c (qj 10)) Q) .ret ((2,(.bool false))::E) D H2) (fun g=>GO3 g (SEQ3 (W M c (qj 10)) Q) .normal E D H2)))) /\
 (∀ Q E D H,W M c (qj 10) true Q E D H =
  LK true (lk E 0) fun g t0=>B3 g (Op.lenSl [t0]) fun g t31=>B32 g ((Op.mkSlice qug 1 [(.bool false)]) [t31,t31]) fun g o1 k1=>W M c (qj 14) g Q ((4,(k1 H.next))::(3,.nils)::E) D (H.alloc o1)) /\
 (∀ Q E D H,W M c (qj 14) true Q E D H =
  LK true (lk E 0) fun g t0=>B3 g (Op.lenSl [t0]) fun g t34=>LOOP3 (W M c (qj 19)) (BLK3 0 (SEQ3 (W M c (qj 82)) Q)) ((35,(.int .i64 0))::(34,t34)::(33,t0)::E) D H) /\
 (∀ Q E D H,W M c (qj 82) true Q E D H =
  LK true (lk E 3) fun g t3=>B3 g (Op.lenSl [t3]) fun g t132=>B3 g ((Op.bin .eql) [t132,(.int .i64 1)]) fun g t133=>GO3 g Q .ret ((2,t133)::E) D H) /\
 (∀ Q E D H,W M c (qj 19) true Q E D H =
  LK true (lk E 35) fun g t35=>LK g (lk E 34) fun g t34=>B3 g ((Op.bin .lss) [t35,t34]) fun g t36=>IF3 g t36 (fun g=>GO3 g (SEQ3 (W M c (qj 25)) Q) .normal E D H) (fun g=>GO3 g (SEQ3 (W M c (qj 25)) Q) (.exit 0) E D H)) /\
 (∀ Q E D H,W M c (qj 25) true Q E D H =
  LK true (lk E 35) fun g t35=>LK g (lk E 33) fun g t33=>B3 g ((Op.indexSl 3) [t33,t35]) fun g t38=>B3 g ((Op.loadN 3) [t38] H) fun g t39=>A3 g qk [(.int .i64 0),(.int .u64 0),.nils] H fun g t6 H1=>B32 g ((Op.store 3) [t6,t39] H1) fun g u H2=>B3 g ((Op.loadN 3) [t6] H2) fun g t41=>C3 M g (.func qau) [t41] H2 fun g t42 H3=>B3 g ((Op.extract 0) [t42]) fun g t43=>B3 g ((Op.extract 1) [t42]) fun g t44=>W M c (qj 31) g (BLK3 1 (SEQ3 (W M c (qj 81)) Q)) ((8,t44)::(7,t43)::(5,t35)::(6,t6)::E) D H3) /\
 (∀ Q E D H,W M c (qj 81) true Q E D H =
  LK true (lk E 35) fun g t35=>B3 g ((Op.bin .add) [t35,(.int .i64 1)]) fun g t130=>GO3 g Q .normal ((35,t130)::E) D H) /\
 (∀ Q E D H,W M c (qj 31) true Q E D H =
  LK true (lk E 8) fun g t8=>B3 g ((Op.un .not) [t8]) fun g t46=>JN (fun (k:Bool -> AV -> AV -> AV -> AV -> AV -> AV -> AHeap -> Prop)=>B3 g (wantV false (some t46)) fun g w=>IG3 g w (fun g=>LK g (lk E 7) fun g t7=>B3 g (Op.lenSl [t7]) fun g t49=>LK g (lk E 6) fun g t6=>B3 g ((Op.fieldAddr 2) [t6]) fun g t50=>B3 g (Op.load1 [t50] H) fun g t51=>B3 g (Op.lenSl [t51]) fun g t52=>B3 g ((Op.bin .neq) [t49,t52]) fun g t53=>k g t53 t52 t51 t50 t49 t7 H) (fun g=>k g uu uu uu uu uu uu H)) (fun g t53_1 t52_1 t51_1 t50_1 t49_1 t48_1 H1=>B3 g (Op.pick [t46,(.bool true),t53_1]) fun g t54=>JN (fun (k:Bool -> AV -> AV -> AV -> AV -> AV -> AHeap -> Prop)=>B3 g (wantV false (some t54)) fun g w=>IG3 g w (fun g=>LK g (lk E 7) fun g t7_1=>B3 g (Op.lenSl [t7_1]) fun g t57=>LK g (lk E 3) fun g t3=>B3 g (Op.lenSl [t3]) fun g t59=>B3 g ((Op.bin .gtr) [t57,t59]) fun g t60=>k g t60 t59 t3 t57 t7_1 H1) (fun g=>k g uu uu uu uu uu H1)) (fun g t60_1 t59_1 t58_1 t57_1 t56_1 H2=>B3 g (Op.pick [t54,(.bool true),t60_1]) fun g t61=>IF3 g t61 (fun g=>GO3 g (SEQ3 (W M c (qj 39)) Q) .ret ((2,(.bool false))::E) D H2) (fun g=>GO3 g (SEQ3 (W M c (qj 39)) Q) .normal E D H2)))) /\
 (∀ Q E D H,W M c (qj 39) true Q E D H =
  LK true (lk E 3) fun g t3=>B3 g (Op.lenSl [t3]) fun g t64=>LK g (lk E 7) fun g t7=>B3 g (Op.lenSl [t7]) fun g t66=>B3 g ((Op.bin .sub) [t64,t66]) fun g t67=>B3 g ((Op.sliceSl 1 [(some 0),none,none]) [t3,t67]) fun g t68=>W M c (qj 41) g Q ((9,t68)::E) D H) /\
 (∀ Q E D H,W M c (qj 41) true Q E D H =
  LK true (lk E 6) fun g t6=>B3 g ((Op.fieldAddr 2) [t6]) fun g t69=>B3 g (Op.load1 [t69] H) fun g t70=>B3 g (Op.lenSl [t70]) fun g t71=>LOOP3 (W M c (qj 46)) (BLK3 2 (SEQ3 (W M c (qj 66)) Q)) ((72,(.int .i64 0))::(71,t71)::(70,t70)::E) D H) /\
 (∀ Q E D H,W M c (qj 66) true Q E D H =
  LK true (lk E 6) fun g t6=>B3 g ((Op.fieldAddr 0) [t6]) fun g t110=>B3 g (Op.load1 [t110] H) fun g t111=>B3 g ((Op.bin .eql) [t111,(.int .i64 18)]) fun g t112=>IF3 g t112 (fun g=>W M c (qj 70) g (SEQ3 (W M c (qj 80)) Q) E D H) (fun g=>GO3 g (SEQ3 (W M c (qj 80)) Q) .normal E D H)) /\
 (∀ Q E D H,W M c (qj 46) true Q E D H =
  LK true (lk E 72) fun g t72=>LK g (lk E 71) fun g t71=>B3 g ((Op.bin .lss) [t72,t71]) fun g t73=>IF3 g t73 (fun g=>GO3 g (SEQ3 (W M c (qj 52)) Q) .normal E D H) (fun g=>GO3 g (SEQ3 (W M c (qj 52)) Q) (.exit 2) E D H)) /\
 (∀ Q E D H,W M c (qj 80) true Q E D H =
  LK true (lk E 3) fun g t3=>B3 g (Op.lenSl [t3]) fun g t122=>LK g (lk E 7) fun g t7=>B3 g (Op.lenSl [t7]) fun g t124=>B3 g ((Op.bin .sub) [t122,t124]) fun g t125=>B3 g ((Op.sliceSl 1 [none,(some 0),none]) [t3,t125]) fun g t126=>LK g (lk E 5) fun g t5=>B32 g ((Op.buildSlice T_int 1 [(.int .i64 0)] [(0,1)]) [t5]) fun g o1 k1=>B32 g ((Op.append T_int 1 8) [t126,(k1 H.next)] (H.alloc o1)) fun g t129 H2=>GO3 g Q .normal ((3,t129)::E) D H2) /\
 (∀ Q E D H,W M c (qj 70) true Q E D H =
  LK true (lk E 4) fun g t4=>LK g (lk E 5) fun g t5=>B3 g ((Op.indexSl 1) [t4,t5]) fun g t115=>B3 g (Op.load1 [t115] H) fun g t116=>IF3 g t116 (fun g=>GO3 g (SEQ3 (W M c (qj 78)) Q) .ret ((2,(.bool false))::E) D H) (fun g=>GO3 g (SEQ3 (W M c (qj 78)) Q) .normal E D H)) /\
 (∀ Q E D H,W M c (qj 52) true Q E D H =
  LK true (lk E 72) fun g t72=>LK g (lk E 70) fun g t70=>B3 g ((Op.indexSl 1) [t70,t72]) fun g t75=>B3 g (Op.load1 [t75] H) fun g t76=>W M c (qj 56) g (BLK3 3 (SEQ3 (W M c (qj 65)) Q)) ((11,t76)::(10,t72)::E) D H) /\
 (∀ Q E D H,W M c (qj 78) true Q E D H =
  LK true (lk E 4) fun g t4=>LK g (lk E 5) fun g t5=>B3 g ((Op.indexSl 1) [t4,t5]) fun g t119=>B32 g ((Op.store 1) [t119,(.bool true)] H) fun g u H1=>GO3 g Q .normal E D H1) /\
 (∀ Q E D H,W M c (qj 65) true Q E D H =
  LK true (lk E 72) fun g t72=>B3 g ((Op.bin .add) [t72,(.int .i64 1)]) fun g t109=>GO3 g Q .normal ((72,t109)::E) D H) /\
 (∀ Q E D H,W M c (qj 56) true Q E D H =
  LK true (lk E 9) fun g t9=>LK g (lk E 10) fun g t10=>B3 g ((Op.indexSl 1) [t9,t10]) fun g t79=>B3 g (Op.load1 [t79] H) fun g t80=>LK g (lk E 11) fun g t11=>B3 g ((Op.bin .neq) [t80,t11]) fun g t82=>JN (fun (k:Bool -> AV -> AV -> AV -> AV -> AV -> AV -> AV -> AV -> AV -> AV -> AV -> AHeap -> Prop)=>B3 g (wantV false (some t82)) fun g w=>IG3 g w (fun g=>LK g (lk E 0) fun g t0=>B3 g ((Op.indexSl 3) [t0,t11]) fun g t86=>B3 g ((Op.fieldAddr 0) [t86]) fun g t87=>B3 g (Op.load1 [t87] H) fun g t88=>LK g (lk E 7) fun g t7=>B3 g ((Op.indexSl 1) [t7,t10]) fun g t92=>B3 g (Op.load1 [t92] H) fun g t93=>C3 M g (.func qas) [t88] H fun g t89 H1=>CK3 g (Op.load1 [t92] H1) (some t93) fun g=>B3 g ((Op.bin .neq) [t89,t93]) fun g t94=>k g t94 t89 t93 t92 t10 t7 t88 t87 t86 t11 t0 H1) (fun g=>k g uu uu uu uu uu uu uu uu uu uu uu H)) (fun g t94_1 t89_1 t93_1 t92_1 t91_1 t90_1 t88_1 t87_1 t86_1 t85_1 t84_1 H2=>B3 g (Op.pick [t82,(.bool true),t94_1]) fun g t95=>IF3 g t95 (fun g=>GO3 g (SEQ3 (W M c (qj 64)) Q) .ret ((2,(.bool false))::E) D H2) (fun g=>GO3 g (SEQ3 (W M c (qj 64)) Q) .normal E D H2))) /\
 (∀ Q E D H,W M c (qj 64) true Q E D H =
  LK true (lk E 4) fun g t4=>LK g (lk E 5) fun g t5=>B3 g ((Op.indexSl 1) [t4,t5]) fun g t100=>B3 g (Op.load1 [t100] H) fun g t101=>JN (fun (k:Bool -> AV -> AV -> AV -> AV -> AHeap -> Prop)=>B3 g (wantV false (some t101)) fun g w=>IG3 g w (fun g=>LK g (lk E 11) fun g t11=>B3 g ((Op.indexSl 1) [t4,t11]) fun g t105=>B3 g (Op.load1 [t105] H) fun g t106=>k g t106 t105 t11 t4 H) (fun g=>k g uu uu uu uu H)) (fun g t106_1 t105_1 t104_1 t103_1 H1=>B3 g (Op.pick [t101,(.bool true),t106_1]) fun g t107=>B3 g ((Op.indexSl 1) [t4,t5]) fun g t108=>B32 g ((Op.store 1) [t108,t107] H1) fun g u H2=>GO3 g Q .normal E D H2)):=by (repeat' apply And.intro)<;>(intro _ _ _ _; refine W_unf ?_; kernel_rfl)
theorem qrz:(cProg Tryd.prog).func jz = some qi9 /\ qi9.results = [.tmp 2]:=xd (by kernel_rfl)
theorem qxl {M:Mac} [MK M]:M.func jz = some qi9:=MK.at (by decide) qrz.1
theorem qzc {M:Mac} [MK M] {a0:AV} {H:AHeap} {Q:AEnd -> AHeap -> Prop} (h:W M ⟨none,jz⟩ (qj 0) true (FIN3 M [.tmp 2] Q) [(0,a0)] [] H):CALLE M jz [a0] H Q :=
 calle qxl (ks:=qrt) (by kernel_rfl) (by rw [qrz.2]; exact h)
def wz:AFunc:=funcAt Tryd.prog z4
def qfo:Kp:=⟨[0,1,2,7,15,16,17],false,[0,4,10,19]⟩
def zm (k:Nat):Kp × ACode:=(qfo,part wz.body k)
theorem kr (M:Mac) (c:Ctx):(∀ Q E D H,W M c (zm 0) true Q E D H =
 LK true (lk E 0) fun g t0=>B3 g (Op.nilCheck [t0]) fun g t9=>B3 g ((Op.fieldAddr 2) [t9]) fun g t10=>B3 g (Op.load1 [t10] H) fun g t11=>LK g (lk E 1) fun g t1=>B3 g ((Op.indexSl 3) [t11,t1]) fun g t13=>B3 g ((Op.fieldAddr 2) [t13]) fun g t14=>B3 g (Op.load1 [t14] H) fun g t15=>B3 g (Op.lenSl [t15]) fun g t16=>LOOP3 (W M c (zm 4)) (BLK3 0 Q) ((17,(.int .i64 0))::(16,t16)::(15,t15)::E) D H) /\
 (∀ Q E D H,W M c (zm 4) true Q E D H =
  LK true (lk E 17) fun g t17=>LK g (lk E 16) fun g t16=>B3 g ((Op.bin .lss) [t17,t16]) fun g t18=>IF3 g t18 (fun g=>GO3 g (SEQ3 (W M c (zm 10)) Q) .normal E D H) (fun g=>GO3 g (SEQ3 (W M c (zm 10)) Q) (.exit 0) E D H)) /\
 (∀ Q E D H,W M c (zm 10) true Q E D H =
  LK true (lk E 15) fun g t15=>LK g (lk E 17) fun g t17=>B3 g ((Op.indexSl 1) [t15,t17]) fun g t19=>B3 g (Op.load1 [t19] H) fun g t20=>LK g (lk E 0) fun g t0=>LK g (lk E 2) fun g t2=>C3 M g (.func je) [(.str [32,32]),t2] H fun g t23 H1=>C3 M g (.func qg) [t0,t23] H1 fun g t24 H2=>LK g (lk E 0) fun g t0_1=>LK g (lk E 2) fun g t2_1=>C3 M g (.func qy) [t0_1,t20,t2_1] H2 fun g t28 H3=>LK g (lk E 0) fun g t0_2=>C3 M g (.func qg) [t0_2,(.str [10])] H3 fun g t30 H4=>GO3 g (BLK3 1 (SEQ3 (W M c (zm 19)) Q)) .normal ((7,t20)::E) D H4) /\
 (∀ Q E D H,W M c (zm 19) true Q E D H =
  LK true (lk E 17) fun g t17=>B3 g ((Op.bin .add) [t17,(.int .i64 1)]) fun g t31=>GO3 g Q .normal ((17,t31)::E) D H):=by (repeat' apply And.intro)<;>(intro _ _ _ _; refine W_unf ?_; kernel_rfl)
theorem qfv:(cProg Tryd.prog).func z4 = some wz /\ wz.results = []:=xd (by kernel_rfl)
theorem qj0 {M:Mac} [MK M]:M.func z4 = some wz:=MK.at (by decide) qfv.1
theorem qlt {M:Mac} [MK M] {a0 a1 a2:AV} {H:AHeap} {Q:AEnd -> AHeap -> Prop} (h:W M ⟨none,z4⟩ (zm 0) true (FIN3 M [] Q) [(0,a0),(1,a1),(2,a2)] [] H):CALLE M z4 [a0,a1,a2] H Q :=
 calle qj0 (ks:=qfo) (by kernel_rfl) (by rw [qfv.2]; exact h)
def qfp:AFunc:=funcAt Tryd.prog qau
def qnm:Kp:=⟨[0,1,2,3,4,33,43,51,75],false,[0,4,12,24,28,34,38,44,54,60,70,77]⟩
def qu (k:Nat):Kp × ACode:=(qnm,part qfp.body k)
theorem x4 (M:Mac) (c:Ctx):(∀ Q E D H,W M c (qu 0) true Q E D H =
 LK true (lk E 0) fun g t0=>A3 g qk (AV.cells t0) H fun g t1 H1=>B3 g ((Op.fieldAddr 0) [t1]) fun g t5=>B3 g (Op.load1 [t5] H1) fun g t6=>B3 g ((Op.bin .eql) [t6,(.int .i64 2)]) fun g t7=>JN (fun (k:Bool -> AV -> AV -> AV -> AHeap -> Prop)=>B3 g (wantV false (some t7)) fun g w=>IG3 g w (fun g=>B3 g ((Op.fieldAddr 0) [t1]) fun g t9=>B3 g (Op.load1 [t9] H1) fun g t10=>B3 g ((Op.bin .eql) [t10,(.int .i64 14)]) fun g t11=>k g t11 t10 t9 H1) (fun g=>k g uu uu uu H1)) (fun g t11_1 t10_1 t9_1 H2=>B3 g (Op.pick [t7,(.bool true),t11_1]) fun g t12=>W M c (qu 4) g Q ((4,t12)::(3,(.bool false))::(2,.nils)::(1,t1)::E) D H2)) /\
 (∀ Q E D H,W M c (qu 4) true Q E D H =
  LK true (lk E 4) fun g t4=>JN (fun (k:Bool -> AV -> AV -> AV -> AHeap -> Prop)=>B3 g (wantV true (some t4)) fun g w=>IG3 g w (fun g=>LK g (lk E 1) fun g t1=>B3 g ((Op.fieldAddr 1) [t1]) fun g t15=>B3 g (Op.load1 [t15] H) fun g t16=>B3 g ((Op.bin .gtr) [t16,(.int .u64 7)]) fun g t17=>k g t17 t16 t15 H) (fun g=>k g uu uu uu H)) (fun g t17_1 t16_1 t15_1 H1=>B3 g (Op.pick [t4,t17_1,(.bool false)]) fun g t18=>JN (fun (k:Bool -> AV -> AV -> AV -> AHeap -> Prop)=>B3 g (wantV false (some t18)) fun g w=>IG3 g w (fun g=>B3 g ((Op.un .not) [t4]) fun g t21=>k g t21 t21 t4 H1) (fun g=>k g uu uu uu H1)) (fun g t22_1 t21_1 t20_1 H2=>JN (fun (k:Bool -> AV -> AV -> AV -> AHeap -> Prop)=>B3 g (wantV true (some t22_1)) fun g w=>IG3 g w (fun g=>LK g (lk E 1) fun g t1_1=>B3 g ((Op.fieldAddr 0) [t1_1]) fun g t23=>B3 g (Op.load1 [t23] H2) fun g t24=>B3 g ((Op.bin .neq) [t24,(.int .i64 1)]) fun g t25=>k g t25 t24 t23 H2) (fun g=>k g uu uu uu H2)) (fun g t25_1 t24_1 t23_1 H3=>JN (fun (k:Bool -> AV -> AV -> AHeap -> Prop)=>B3 g (wantV false (some t18)) fun g w=>IG3 g w (fun g=>B3 g (Op.pick [t22_1,t25_1,(.bool false)]) fun g t26=>k g t26 t26 H3) (fun g=>k g uu uu H3)) (fun g t27_1 t26_1 H4=>JN (fun (k:Bool -> AV -> AV -> AV -> AHeap -> Prop)=>B3 g (wantV true (some t27_1)) fun g w=>IG3 g w (fun g=>LK g (lk E 1) fun g t1_2=>B3 g ((Op.fieldAddr 1) [t1_2]) fun g t28=>B3 g (Op.load1 [t28] H4) fun g t29=>B3 g ((Op.bin .neq) [t29,(.int .u64 0)]) fun g t30=>k g t30 t29 t28 H4) (fun g=>k g uu uu uu H4)) (fun g t30_1 t29_1 t28_1 H5=>JN (fun (k:Bool -> AV -> AHeap -> Prop)=>B3 g (wantV false (some t18)) fun g w=>IG3 g w (fun g=>B3 g (Op.pick [t27_1,t30_1,(.bool false)]) fun g t31=>k g t31 H5) (fun g=>k g uu H5)) (fun g t31_1 H6=>B3 g (Op.pick [t18,(.bool true),t31_1]) fun g t32=>IF3 g t32 (fun g=>GO3 g (SEQ3 (W M c (qu 12)) Q) .ret ((3,(.bool false))::(2,.nils)::E) D H6) (fun g=>GO3 g (SEQ3 (W M c (qu 12)) Q) .normal E D H6)))))))) /\
 (∀ Q E D H,W M c (qu 12) true Q E D H =
  LK true (lk E 1) fun g t1=>B3 g ((Op.fieldAddr 0) [t1]) fun g t34=>B3 g (Op.load1 [t34] H) fun g t35=>B3 g ((Op.bin .eql) [t35,(.int .i64 1)]) fun g t36=>IF3 g t36 (fun g=>GO3 g (SEQ3 (W M c (qu 24)) (BLK3 0 (SEQ3 (W M c (qu 77)) Q))) .normal ((33,t36)::E) D H) (fun g=>LK g (lk E 1) fun g t1_1=>B3 g ((Op.fieldAddr 0) [t1_1]) fun g t37=>B3 g (Op.load1 [t37] H) fun g t38=>B3 g ((Op.bin .eql) [t38,(.int .i64 2)]) fun g t39=>IF3 g t39 (fun g=>GO3 g (SEQ3 (W M c (qu 24)) (BLK3 0 (SEQ3 (W M c (qu 77)) Q))) .normal ((33,t39)::(33,t36)::E) D H) (fun g=>LK g (lk E 1) fun g t1_2=>B3 g ((Op.fieldAddr 0) [t1_2]) fun g t40=>B3 g (Op.load1 [t40] H) fun g t41=>B3 g ((Op.bin .eql) [t41,(.int .i64 19)]) fun g t42=>GO3 g (SEQ3 (W M c (qu 24)) (BLK3 0 (SEQ3 (W M c (qu 77)) Q))) .normal ((33,t42)::(33,t39)::(33,t36)::E) D H))) /\
 (∀ Q E D H,W M c (qu 77) true Q E D H =
  GO3 true Q .ret ((3,(.bool false))::(2,.nils)::E) D H) /\
 (∀ Q E D H,W M c (qu 24) true Q E D H =
  LK true (lk E 33) fun g t33=>IF3 g t33 (fun g=>GO3 g Q .ret ((3,(.bool true))::(2,.nils)::E) D H) (fun g=>W M c (qu 28) g Q E D H)) /\
 (∀ Q E D H,W M c (qu 28) true Q E D H =
  LK true (lk E 1) fun g t1=>B3 g ((Op.fieldAddr 0) [t1]) fun g t44=>B3 g (Op.load1 [t44] H) fun g t45=>B3 g ((Op.bin .eql) [t45,(.int .i64 3)]) fun g t46=>IF3 g t46 (fun g=>GO3 g (SEQ3 (W M c (qu 34)) Q) .normal ((43,t46)::E) D H) (fun g=>LK g (lk E 1) fun g t1_1=>B3 g ((Op.fieldAddr 0) [t1_1]) fun g t47=>B3 g (Op.load1 [t47] H) fun g t48=>B3 g ((Op.bin .eql) [t48,(.int .i64 14)]) fun g t49=>GO3 g (SEQ3 (W M c (qu 34)) Q) .normal ((43,t49)::(43,t46)::E) D H)) /\
 (∀ Q E D H,W M c (qu 34) true Q E D H =
  LK true (lk E 43) fun g t43=>IF3 g t43 (fun g=>B32 g ((Op.buildSlice T_int 1 [(.int .i64 0)] [(0,1)]) [(.int .i64 1)]) fun g o1 k1=>GO3 g Q .ret ((3,(.bool true))::(2,(k1 H.next))::E) D (H.alloc o1)) (fun g=>W M c (qu 38) g Q E D H)) /\
 (∀ Q E D H,W M c (qu 38) true Q E D H =
  LK true (lk E 1) fun g t1=>B3 g ((Op.fieldAddr 0) [t1]) fun g t52=>B3 g (Op.load1 [t52] H) fun g t53=>B3 g ((Op.bin .geq) [t53,(.int .i64 4)]) fun g t54=>JN (fun (k:Bool -> AV -> AV -> AV -> AHeap -> Prop)=>B3 g (wantV true (some t54)) fun g w=>IG3 g w (fun g=>B3 g ((Op.fieldAddr 0) [t1]) fun g t56=>B3 g (Op.load1 [t56] H) fun g t57=>B3 g ((Op.bin .leq) [t57,(.int .i64 13)]) fun g t58=>k g t58 t57 t56 H) (fun g=>k g uu uu uu H)) (fun g t58_1 t57_1 t56_1 H1=>B3 g (Op.pick [t54,t58_1,(.bool false)]) fun g t59=>IF3 g t59 (fun g=>GO3 g (SEQ3 (W M c (qu 44)) Q) .normal ((51,t59)::E) D H1) (fun g=>LK g (lk E 1) fun g t1_1=>B3 g ((Op.fieldAddr 0) [t1_1]) fun g t60=>B3 g (Op.load1 [t60] H1) fun g t61=>B3 g ((Op.bin .eql) [t61,(.int .i64 15)]) fun g t62=>GO3 g (SEQ3 (W M c (qu 44)) Q) .normal ((51,t62)::(51,t59)::E) D H1))) /\
 (∀ Q E D H,W M c (qu 44) true Q E D H =
  LK true (lk E 51) fun g t51=>IF3 g t51 (fun g=>B32 g ((Op.buildSlice T_int 2 [(.int .i64 0)] [(0,1),(1,1)]) [(.int .i64 1),(.int .i64 1)]) fun g o1 k1=>GO3 g Q .ret ((3,(.bool true))::(2,(k1 H.next))::E) D (H.alloc o1)) (fun g=>LK g (lk E 1) fun g t1=>B3 g ((Op.fieldAddr 0) [t1]) fun g t65=>B3 g (Op.load1 [t65] H) fun g t66=>B3 g ((Op.bin .eql) [t66,(.int .i64 16)]) fun g t67=>JN (fun (k:Bool -> AV -> AV -> AV -> AV -> AHeap -> Prop)=>B3 g (wantV true (some t67)) fun g w=>IG3 g w (fun g=>B3 g ((Op.fieldAddr 2) [t1]) fun g t69=>B3 g (Op.load1 [t69] H) fun g t70=>B3 g (Op.lenSl [t70]) fun g t71=>B3 g ((Op.bin .eql) [t71,(.int .i64 3)]) fun g t72=>k g t72 t71 t70 t69 H) (fun g=>k g uu uu uu uu H)) (fun g t72_1 t71_1 t70_1 t69_1 H1=>B3 g (Op.pick [t67,t72_1,(.bool false)]) fun g t73=>IF3 g t73 (fun g=>B32 g ((Op.buildSlice T_int 3 [(.int .i64 0)] [(0,1),(1,1),(2,1)]) [(.int .i64 2),(.int .i64 4),(.int .i64 4)]) fun g o2 k2=>GO3 g Q .ret ((3,(.bool true))::(2,(k2 H1.next))::E) D (H1.alloc o2)) (fun g=>W M c (qu 54) g Q E D H1)))) /\
 (∀ Q E D H,W M c (qu 54) true Q E D H =
  LK true (lk E 1) fun g t1=>B3 g ((Op.fieldAddr 0) [t1]) fun g t76=>B3 g (Op.load1 [t76] H) fun g t77=>B3 g ((Op.bin .eql) [t77,(.int .i64 16)]) fun g t78=>IF3 g t78 (fun g=>GO3 g (SEQ3 (W M c (qu 60)) Q) .normal ((75,t78)::E) D H) (fun g=>LK g (lk E 1) fun g t1_1=>B3 g ((Op.fieldAddr 0) [t1_1]) fun g t79=>B3 g (Op.load1 [t79] H) fun g t80=>B3 g ((Op.bin .eql) [t80,(.int .i64 17)]) fun g t81=>GO3 g (SEQ3 (W M c (qu 60)) Q) .normal ((75,t81)::(75,t78)::E) D H)) /\
 (∀ Q E D H,W M c (qu 60) true Q E D H =
  LK true (lk E 75) fun g t75=>IF3 g t75 (fun g=>B32 g ((Op.buildSlice T_int 2 [(.int .i64 0)] [(0,1),(1,1)]) [(.int .i64 2),(.int .i64 4)]) fun g o1 k1=>GO3 g Q .ret ((3,(.bool true))::(2,(k1 H.next))::E) D (H.alloc o1)) (fun g=>LK g (lk E 1) fun g t1=>B3 g ((Op.fieldAddr 0) [t1]) fun g t84=>B3 g (Op.load1 [t84] H) fun g t85=>B3 g ((Op.bin .eql) [t85,(.int .i64 18)]) fun g t86=>IF3 g t86 (fun g=>B32 g ((Op.buildSlice T_int 1 [(.int .i64 0)] [(0,1)]) [(.int .i64 4)]) fun g o1 k1=>GO3 g Q .ret ((3,(.bool true))::(2,(k1 H.next))::E) D (H.alloc o1)) (fun g=>W M c (qu 70) g Q E D H))) /\
 (∀ Q E D H,W M c (qu 70) true Q E D H =
  LK true (lk E 1) fun g t1=>B3 g ((Op.fieldAddr 0) [t1]) fun g t89=>B3 g (Op.load1 [t89] H) fun g t90=>B3 g ((Op.bin .eql) [t90,(.int .i64 20)]) fun g t91=>IF3 g t91 (fun g=>B32 g ((Op.buildSlice T_int 1 [(.int .i64 0)] [(0,1)]) [(.int .i64 3)]) fun g o1 k1=>LK g (lk E 1) fun g t1_1=>B3 g ((Op.fieldAddr 2) [t1_1]) fun g t93=>B3 g (Op.load1 [t93] (H.alloc o1)) fun g t94=>B3 g (Op.lenSl [t94]) fun g t95=>C3 M g (.func zt) [(k1 H.next),t95] (H.alloc o1) fun g t96 H2=>GO3 g Q .ret ((3,(.bool true))::(2,t96)::E) D H2) (fun g=>GO3 g Q .normal E D H)):=by (repeat' apply And.intro)<;>(intro _ _ _ _; refine W_unf ?_; kernel_rfl)
theorem qnq:(cProg Tryd.prog).func qau = some qfp /\ qfp.results = [.tmp 2,.tmp 3]:=xd (by kernel_rfl)
theorem qtl {M:Mac} [MK M]:M.func qau = some qfp:=MK.at (by decide) qnq.1
theorem qu9 {M:Mac} [MK M] {a0:AV} {H:AHeap} {Q:AEnd -> AHeap -> Prop} (h:W M ⟨none,qau⟩ (qu 0) true (FIN3 M [.tmp 2,.tmp 3] Q) [(0,a0)] [] H):CALLE M qau [a0] H Q :=
 calle qtl (ks:=qnm) (by kernel_rfl) (by rw [qnq.2]; exact h)
def qfn:AFunc:=funcAt Tryd.prog qas
def qna:Kp:=⟨[0,2],false,[0,2,16,29]⟩
def yh (k:Nat):Kp × ACode:=(qna,part qfn.body k)
theorem qbx (M:Mac) (c:Ctx):(∀ Q E D H,W M c (yh 0) true Q E D H =
 W M c (yh 2) true Q ((2,(.int .i64 0))::E) D H) /\
 (∀ Q E D H,W M c (yh 2) true Q E D H =
  LK true (lk E 0) fun g t0=>B3 g ((Op.bin .geq) [t0,(.int .i64 1)]) fun g t5=>JN (fun (k:Bool -> AV -> AV -> AHeap -> Prop)=>B3 g (wantV true (some t5)) fun g w=>IG3 g w (fun g=>B3 g ((Op.bin .leq) [t0,(.int .i64 10)]) fun g t8=>k g t8 t0 H) (fun g=>k g uu uu H)) (fun g t8_1 t7_1 H1=>B3 g (Op.pick [t5,t8_1,(.bool false)]) fun g t9=>IF3 g t9 (fun g=>GO3 g (BLK3 0 (SEQ3 (W M c (yh 29)) Q)) .ret ((2,(.int .i64 1))::E) D H1) (fun g=>LK g (lk E 0) fun g t0_1=>B3 g ((Op.bin .geq) [t0_1,(.int .i64 11)]) fun g t12=>JN (fun (k:Bool -> AV -> AV -> AHeap -> Prop)=>B3 g (wantV true (some t12)) fun g w=>IG3 g w (fun g=>B3 g ((Op.bin .leq) [t0_1,(.int .i64 13)]) fun g t15=>k g t15 t0_1 H1) (fun g=>k g uu uu H1)) (fun g t15_1 t14_1 H2=>B3 g (Op.pick [t12,t15_1,(.bool false)]) fun g t16=>IF3 g t16 (fun g=>GO3 g (BLK3 0 (SEQ3 (W M c (yh 29)) Q)) .ret ((2,(.int .i64 2))::E) D H2) (fun g=>W M c (yh 16) g (BLK3 0 (SEQ3 (W M c (yh 29)) Q)) E D H2))))) /\
 (∀ Q E D H,W M c (yh 29) true Q E D H =
  GO3 true Q .ret ((2,(.int .i64 0))::E) D H) /\
 (∀ Q E D H,W M c (yh 16) true Q E D H =
  LK true (lk E 0) fun g t0=>B3 g ((Op.bin .geq) [t0,(.int .i64 14)]) fun g t19=>JN (fun (k:Bool -> AV -> AV -> AHeap -> Prop)=>B3 g (wantV true (some t19)) fun g w=>IG3 g w (fun g=>B3 g ((Op.bin .leq) [t0,(.int .i64 19)]) fun g t22=>k g t22 t0 H) (fun g=>k g uu uu H)) (fun g t22_1 t21_1 H1=>B3 g (Op.pick [t19,t22_1,(.bool false)]) fun g t23=>IF3 g t23 (fun g=>GO3 g Q .ret ((2,(.int .i64 3))::E) D H1) (fun g=>LK g (lk E 0) fun g t0_1=>B3 g ((Op.bin .eql) [t0_1,(.int .i64 20)]) fun g t26=>IF3 g t26 (fun g=>GO3 g Q .ret ((2,(.int .i64 4))::E) D H1) (fun g=>GO3 g Q .normal E D H1)))):=by (repeat' apply And.intro)<;>(intro _ _ _ _; refine W_unf ?_; kernel_rfl)
theorem qm4:(cProg Tryd.prog).func qas = some qfn /\ qfn.results = [.tmp 2]:=xd (by kernel_rfl)
theorem qtx {M:Mac} [MK M]:M.func qas = some qfn:=MK.at (by decide) qm4.1
theorem qup {M:Mac} [MK M] {a0:AV} {H:AHeap} {Q:AEnd -> AHeap -> Prop} (h:W M ⟨none,qas⟩ (yh 0) true (FIN3 M [.tmp 2] Q) [(0,a0)] [] H):CALLE M qas [a0] H Q :=
 calle qtx (ks:=qna) (by kernel_rfl) (by rw [qm4.2]; exact h)
def ww:AFunc:=funcAt Tryd.prog qg
def qf4:Kp:=⟨[0,1,5,7,8,11,12,34],false,[0,5,11,18,23,27,33,36]⟩
def qt (k:Nat):Kp × ACode:=(qf4,part ww.body k)
theorem qfg (M:Mac) (c:Ctx):(∀ Q E D H,W M c (qt 0) true Q E D H =
 LK true (lk E 1) fun g t1=>B32 g (Op.rangeStr [t1]) fun g o1 k1=>LOOP3 (W M c (qt 5)) (BLK3 0 (SEQ3 (W M c (qt 36)) Q)) ((7,(k1 H.next))::E) D (H.alloc o1)) /\
 (∀ Q E D H,W M c (qt 36) true Q E D H =
  LK true (lk E 0) fun g t0=>B3 g (Op.nilCheck [t0]) fun g t45=>B3 g ((Op.fieldAddr 0) [t45]) fun g t46=>LK g (lk E 1) fun g t1=>C3 M g (.func qz) [t46,t1] H fun g t48 H1=>GO3 g Q .normal E D H1) /\
 (∀ Q E D H,W M c (qt 5) true Q E D H =
  LK true (lk E 7) fun g t7=>B32 g (Op.nextStr [t7] H) fun g t8 H1=>B3 g ((Op.extract 0) [t8]) fun g t9=>IF3 g t9 (fun g=>GO3 g (SEQ3 (W M c (qt 11)) Q) .normal ((8,t8)::E) D H1) (fun g=>GO3 g (SEQ3 (W M c (qt 11)) Q) (.exit 0) ((8,t8)::E) D H1)) /\
 (∀ Q E D H,W M c (qt 11) true Q E D H =
  LK true (lk E 8) fun g t8=>B3 g ((Op.extract 2) [t8]) fun g t10=>W M c (qt 18) g (SEQ3 (W M c (qt 23)) (BLK3 2 (BLK3 1 Q))) ((11,t10)::(5,t10)::E) D H) /\
 (∀ Q E D H,W M c (qt 23) true Q E D H =
  LK true (lk E 12) fun g t12=>IF3 g t12 (fun g=>LK g (lk E 0) fun g t0=>B3 g (Op.nilCheck [t0]) fun g t16=>B3 g ((Op.fieldAddr 3) [t16]) fun g t17=>B3 g (Op.load1 [t17] H) fun g t18=>B3 g ((Op.bin .add) [t18,(.int .i64 1)]) fun g t19=>B3 g (Op.nilCheck [t0]) fun g t20=>B3 g ((Op.fieldAddr 3) [t20]) fun g t21=>B32 g ((Op.store 1) [t21,t19] H) fun g u H1=>LK g (lk E 0) fun g t0_1=>B3 g (Op.nilCheck [t0_1]) fun g t24=>B3 g ((Op.fieldAddr 4) [t24]) fun g t25=>B3 g (Op.load1 [t25] H1) fun g t26=>B3 g (Op.nilCheck [t0_1]) fun g t28=>B3 g ((Op.fieldAddr 3) [t28]) fun g t29=>B3 g (Op.load1 [t29] H1) fun g t30=>B3 g ((Op.minmax true) [t26,t30]) fun g t31=>B3 g (Op.nilCheck [t0_1]) fun g t32=>B3 g ((Op.fieldAddr 4) [t32]) fun g t33=>B32 g ((Op.store 1) [t33,t31] H1) fun g u_1 H2=>GO3 g Q .normal E D H2) (fun g=>W M c (qt 27) g Q E D H)) /\
 (∀ Q E D H,W M c (qt 18) true Q E D H =
  LK true (lk E 11) fun g t11=>B3 g ((Op.bin .eql) [t11,(.int .i32 40)]) fun g t13=>IF3 g t13 (fun g=>GO3 g Q .normal ((12,t13)::E) D H) (fun g=>LK g (lk E 11) fun g t11_1=>B3 g ((Op.bin .eql) [t11_1,(.int .i32 123)]) fun g t14=>GO3 g Q .normal ((12,t14)::(12,t13)::E) D H)) /\
 (∀ Q E D H,W M c (qt 27) true Q E D H =
  LK true (lk E 11) fun g t11=>B3 g ((Op.bin .eql) [t11,(.int .i32 41)]) fun g t35=>IF3 g t35 (fun g=>GO3 g (SEQ3 (W M c (qt 33)) Q) .normal ((34,t35)::E) D H) (fun g=>LK g (lk E 11) fun g t11_1=>B3 g ((Op.bin .eql) [t11_1,(.int .i32 125)]) fun g t36=>GO3 g (SEQ3 (W M c (qt 33)) Q) .normal ((34,t36)::(34,t35)::E) D H)) /\
 (∀ Q E D H,W M c (qt 33) true Q E D H =
  LK true (lk E 34) fun g t34=>IF3 g t34 (fun g=>LK g (lk E 0) fun g t0=>B3 g (Op.nilCheck [t0]) fun g t38=>B3 g ((Op.fieldAddr 3) [t38]) fun g t39=>B3 g (Op.load1 [t39] H) fun g t40=>B3 g ((Op.bin .sub) [t40,(.int .i64 1)]) fun g t41=>B3 g (Op.nilCheck [t0]) fun g t42=>B3 g ((Op.fieldAddr 3) [t42]) fun g t43=>B32 g ((Op.store 1) [t43,t41] H) fun g u H1=>GO3 g Q .normal E D H1) (fun g=>GO3 g Q .normal E D H)):=by (repeat' apply And.intro)<;>(intro _ _ _ _; refine W_unf ?_; kernel_rfl)
theorem qfk:(cProg Tryd.prog).func qg = some ww /\ ww.results = []:=xd (by kernel_rfl)
theorem qkh {M:Mac} [MK M]:M.func qg = some ww:=MK.at (by decide) qfk.1
theorem qks {M:Mac} [MK M] {a0 a1:AV} {H:AHeap} {Q:AEnd -> AHeap -> Prop} (h:W M ⟨none,qg⟩ (qt 0) true (FIN3 M [] Q) [(0,a0),(1,a1)] [] H):CALLE M qg [a0,a1] H Q :=
 calle qkh (ks:=qf4) (by kernel_rfl) (by rw [qfk.2]; exact h)
def qbm:AFunc:=funcAt Tryd.prog je
def qhy:Kp:=⟨[0,1,4,5,6,7,8,9,10,11,42,43],false,[0,2,19,25,27,33,35,43,52,60,65,79,91,99,101,107,113,117,119,122,128,132]⟩
def qd (k:Nat):Kp × ACode:=(qhy,part qbm.body k)
theorem qns (M:Mac) (c:Ctx):(∀ Q E D H,W M c (qd 0) true Q E D H =
 W M c (qd 2) true Q ((4,(.str []))::E) D H) /\
 (∀ Q E D H,W M c (qd 2) true Q E D H =
  LK true (lk E 1) fun g t1=>B3 g ((Op.bin .eql) [t1,(.int .i64 0)]) fun g t13=>IF3 g t13 (fun g=>GO3 g (BLK3 0 (SEQ3 (W M c (qd 19)) Q)) .ret ((4,(.str []))::(11,t1)::E) D H) (fun g=>B3 g ((Op.bin .eql) [t1,(.int .i64 1)]) fun g t15=>IF3 g t15 (fun g=>LK g (lk E 0) fun g t0=>GO3 g (BLK3 0 (SEQ3 (W M c (qd 19)) Q)) .ret ((4,t0)::(11,t1)::E) D H) (fun g=>GO3 g (BLK3 0 (SEQ3 (W M c (qd 19)) Q)) .normal ((11,t1)::E) D H))) /\
 (∀ Q E D H,W M c (qd 19) true Q E D H =
  LK true (lk E 1) fun g t1=>B3 g ((Op.bin .lss) [t1,(.int .i64 0)]) fun g t18=>IF3 g t18 (fun g=>B3 g ((Op.mkIface yv) [(.str qzk)]) fun g t19=>False) (fun g=>GO3 g (SEQ3 (W M c (qd 25)) Q) .normal E D H)) /\
 (∀ Q E D H,W M c (qd 25) true Q E D H =
  LK true (lk E 0) fun g t0=>B3 g (Op.lenStr [t0]) fun g t22=>B3 g ((Op.wrap .u64) [t22]) fun g t23=>LK g (lk E 1) fun g t1=>B3 g ((Op.wrap .u64) [t1]) fun g t25=>C3 M g (.func kg) [t23,t25] H fun g t26 H1=>B3 g ((Op.extract 0) [t26]) fun g t27=>B3 g ((Op.extract 1) [t26]) fun g t28=>W M c (qd 27) g Q ((6,t28)::(5,t27)::E) D H1) /\
 (∀ Q E D H,W M c (qd 27) true Q E D H =
  LK true (lk E 5) fun g t5=>B3 g ((Op.bin .gtr) [t5,(.int .u64 0)]) fun g t30=>JN (fun (k:Bool -> AV -> AV -> AHeap -> Prop)=>B3 g (wantV false (some t30)) fun g w=>IG3 g w (fun g=>LK g (lk E 6) fun g t6=>B3 g ((Op.bin .gtr) [t6,(.int .u64 9223372036854775807)]) fun g t33=>k g t33 t6 H) (fun g=>k g uu uu H)) (fun g t33_1 t32_1 H1=>B3 g (Op.pick [t30,(.bool true),t33_1]) fun g t34=>IF3 g t34 (fun g=>B3 g ((Op.mkIface yv) [(.str qza)]) fun g t35=>False) (fun g=>GO3 g (SEQ3 (W M c (qd 33)) Q) .normal E D H1))) /\
 (∀ Q E D H,W M c (qd 33) true Q E D H =
  LK true (lk E 6) fun g t6=>B3 g ((Op.wrap .i64) [t6]) fun g t37=>W M c (qd 35) g Q ((7,t37)::E) D H) /\
 (∀ Q E D H,W M c (qd 35) true Q E D H =
  LK true (lk E 0) fun g t0=>B3 g (Op.lenStr [t0]) fun g t39=>B3 g ((Op.bin .eql) [t39,(.int .i64 0)]) fun g t40=>IF3 g t40 (fun g=>GO3 g (SEQ3 (W M c (qd 43)) Q) .ret ((4,(.str []))::E) D H) (fun g=>GO3 g (SEQ3 (W M c (qd 43)) Q) .normal E D H)) /\
 (∀ Q E D H,W M c (qd 43) true Q E D H =
  LK true (lk E 0) fun g t0=>B3 g (Op.indexStr [t0,(.int .i64 0)]) fun g t42=>B3 g ((Op.bin .eql) [t42,(.int .u8 32)]) fun g t44=>IF3 g t44 (fun g=>GO3 g (SEQ3 (W M c (qd 65)) (BLK3 1 (SEQ3 (W M c (qd 99)) Q))) .normal ((43,t44)::(42,t42)::E) D H) (fun g=>W M c (qd 52) g (SEQ3 (W M c (qd 65)) (BLK3 1 (SEQ3 (W M c (qd 99)) Q))) ((43,t44)::(42,t42)::E) D H)) /\
 (∀ Q E D H,W M c (qd 99) true Q E D H =
  LK true (lk E 7) fun g t7=>W M c (qd 101) g Q ((8,t7)::E) D H) /\
 (∀ Q E D H,W M c (qd 65) true Q E D H =
  LK true (lk E 43) fun g t43=>IF3 g t43 (fun g=>LK g (lk E 7) fun g t7=>B3 g ((Op.bin .leq) [t7,(.int .i64 128)]) fun g t51=>JN (fun (k:Bool -> AV -> AV -> AHeap -> Prop)=>B3 g (wantV true (some t51)) fun g w=>IG3 g w (fun g=>LK g (lk E 0) fun g t0=>C3 M g (.func xv) [(.str qcy),t0] H fun g t54 H1=>k g t54 t0 H1) (fun g=>k g uu uu H)) (fun g t54_1 t53_1 H2=>B3 g (Op.pick [t51,t54_1,(.bool false)]) fun g t55=>IF3 g t55 (fun g=>LK g (lk E 7) fun g t7_1=>B3 g ((Op.sliceStr [none,(some 0)]) [(.str qcy),t7_1]) fun g t57=>GO3 g (BLK3 2 Q) .ret ((4,t57)::E) D H2) (fun g=>LK g (lk E 7) fun g t7_1=>B3 g ((Op.bin .leq) [t7_1,(.int .i64 128)]) fun g t60=>JN (fun (k:Bool -> AV -> AV -> AHeap -> Prop)=>B3 g (wantV true (some t60)) fun g w=>IG3 g w (fun g=>LK g (lk E 0) fun g t0_1=>C3 M g (.func xv) [(.str qru),t0_1] H2 fun g t63 H3=>k g t63 t0_1 H3) (fun g=>k g uu uu H2)) (fun g t63_1 t62_1 H4=>B3 g (Op.pick [t60,t63_1,(.bool false)]) fun g t64=>IF3 g t64 (fun g=>LK g (lk E 7) fun g t7_2=>B3 g ((Op.sliceStr [none,(some 0)]) [(.str qru),t7_2]) fun g t66=>GO3 g (BLK3 2 Q) .ret ((4,t66)::E) D H4) (fun g=>W M c (qd 79) g (BLK3 2 Q) E D H4))))) (fun g=>GO3 g Q .normal E D H)) /\
 (∀ Q E D H,W M c (qd 52) true Q E D H =
  LK true (lk E 42) fun g t42=>B3 g ((Op.bin .eql) [t42,(.int .u8 45)]) fun g t45=>IF3 g t45 (fun g=>GO3 g Q .normal ((43,t45)::E) D H) (fun g=>LK g (lk E 42) fun g t42_1=>B3 g ((Op.bin .eql) [t42_1,(.int .u8 48)]) fun g t46=>IF3 g t46 (fun g=>GO3 g Q .normal ((43,t46)::(43,t45)::E) D H) (fun g=>W M c (qd 60) g Q ((43,t46)::(43,t45)::E) D H))) /\
 (∀ Q E D H,W M c (qd 101) true Q E D H =
  LK true (lk E 7) fun g t7=>B3 g ((Op.bin .gtr) [t7,(.int .i64 8192)]) fun g t96=>IF3 g t96 (fun g=>LK g (lk E 0) fun g t0=>B3 g (Op.lenStr [t0]) fun g t98=>B3 g ((Op.bin .quo) [(.int .i64 8192),t98]) fun g t99=>B3 g (Op.lenStr [t0]) fun g t101=>B3 g ((Op.bin .mul) [t99,t101]) fun g t102=>W M c (qd 107) g (SEQ3 (W M c (qd 113)) Q) ((8,t102)::E) D H) (fun g=>GO3 g (SEQ3 (W M c (qd 113)) Q) .normal E D H)) /\
 (∀ Q E D H,W M c (qd 79) true Q E D H =
  LK true (lk E 7) fun g t7=>B3 g ((Op.bin .leq) [t7,(.int .i64 64)]) fun g t69=>JN (fun (k:Bool -> AV -> AV -> AHeap -> Prop)=>B3 g (wantV true (some t69)) fun g w=>IG3 g w (fun g=>LK g (lk E 0) fun g t0=>C3 M g (.func xv) [(.str qro),t0] H fun g t72 H1=>k g t72 t0 H1) (fun g=>k g uu uu H)) (fun g t72_1 t71_1 H2=>B3 g (Op.pick [t69,t72_1,(.bool false)]) fun g t73=>IF3 g t73 (fun g=>LK g (lk E 7) fun g t7_1=>B3 g ((Op.sliceStr [none,(some 0)]) [(.str qro),t7_1]) fun g t75=>GO3 g Q .ret ((4,t75)::E) D H2) (fun g=>LK g (lk E 7) fun g t7_1=>B3 g ((Op.bin .leq) [t7_1,(.int .i64 128)]) fun g t78=>JN (fun (k:Bool -> AV -> AV -> AHeap -> Prop)=>B3 g (wantV true (some t78)) fun g w=>IG3 g w (fun g=>LK g (lk E 0) fun g t0_1=>C3 M g (.func xv) [(.str qq6),t0_1] H2 fun g t81 H3=>k g t81 t0_1 H3) (fun g=>k g uu uu H2)) (fun g t81_1 t80_1 H4=>B3 g (Op.pick [t78,t81_1,(.bool false)]) fun g t82=>IF3 g t82 (fun g=>LK g (lk E 7) fun g t7_2=>B3 g ((Op.sliceStr [none,(some 0)]) [(.str qq6),t7_2]) fun g t84=>GO3 g Q .ret ((4,t84)::E) D H4) (fun g=>W M c (qd 91) g Q E D H4))))) /\
 (∀ Q E D H,W M c (qd 60) true Q E D H =
  LK true (lk E 42) fun g t42=>B3 g ((Op.bin .eql) [t42,(.int .u8 61)]) fun g t47=>IF3 g t47 (fun g=>GO3 g Q .normal ((43,t47)::E) D H) (fun g=>LK g (lk E 42) fun g t42_1=>B3 g ((Op.bin .eql) [t42_1,(.int .u8 9)]) fun g t48=>GO3 g Q .normal ((43,t48)::(43,t47)::E) D H)) /\
 (∀ Q E D H,W M c (qd 113) true Q E D H =
  A3 true vl [.nilp,.nils] H fun g t9 H1=>LK g (lk E 7) fun g t7=>C3 M g (.func zl) [t9,t7] H1 fun g t108 H2=>W M c (qd 117) g Q ((9,t9)::E) D H2) /\
 (∀ Q E D H,W M c (qd 107) true Q E D H =
  LK true (lk E 8) fun g t8=>B3 g ((Op.bin .eql) [t8,(.int .i64 0)]) fun g t104=>IF3 g t104 (fun g=>LK g (lk E 0) fun g t0=>B3 g (Op.lenStr [t0]) fun g t106=>GO3 g Q .normal ((8,t106)::E) D H) (fun g=>GO3 g Q .normal E D H)) /\
 (∀ Q E D H,W M c (qd 91) true Q E D H =
  LK true (lk E 7) fun g t7=>B3 g ((Op.bin .leq) [t7,(.int .i64 64)]) fun g t87=>JN (fun (k:Bool -> AV -> AV -> AHeap -> Prop)=>B3 g (wantV true (some t87)) fun g w=>IG3 g w (fun g=>LK g (lk E 0) fun g t0=>C3 M g (.func xv) [(.str qrs),t0] H fun g t90 H1=>k g t90 t0 H1) (fun g=>k g uu uu H)) (fun g t90_1 t89_1 H2=>B3 g (Op.pick [t87,t90_1,(.bool false)]) fun g t91=>IF3 g t91 (fun g=>LK g (lk E 7) fun g t7_1=>B3 g ((Op.sliceStr [none,(some 0)]) [(.str qrs),t7_1]) fun g t93=>GO3 g Q .ret ((4,t93)::E) D H2) (fun g=>GO3 g Q .normal E D H2))) /\
 (∀ Q E D H,W M c (qd 117) true Q E D H =
  LK true (lk E 0) fun g t0=>LK g (lk E 9) fun g t9=>C3 M g (.func qz) [t9,t0] H fun g t110 H1=>W M c (qd 119) g Q E D H1) /\
 (∀ Q E D H,W M c (qd 119) true Q E D H =
  LOOP3 (W M c (qd 122)) (BLK3 3 (SEQ3 (W M c (qd 132)) Q)) E D H) /\
 (∀ Q E D H,W M c (qd 132) true Q E D H =
  LK true (lk E 9) fun g t9=>C3 M g (.func xk) [t9] H fun g t124 H1=>GO3 g Q .ret ((4,t124)::E) D H1) /\
 (∀ Q E D H,W M c (qd 122) true Q E D H =
  LK true (lk E 9) fun g t9=>C3 M g (.func x3) [t9] H fun g t111 H1=>LK g (lk E 7) fun g t7=>B3 g ((Op.bin .lss) [t111,t7]) fun g t113=>IF3 g t113 (fun g=>GO3 g (SEQ3 (W M c (qd 128)) Q) .normal E D H1) (fun g=>GO3 g (SEQ3 (W M c (qd 128)) Q) (.exit 3) E D H1)) /\
 (∀ Q E D H,W M c (qd 128) true Q E D H =
  LK true (lk E 7) fun g t7=>LK g (lk E 9) fun g t9=>C3 M g (.func x3) [t9] H fun g t115 H1=>B3 g ((Op.bin .sub) [t7,t115]) fun g t116=>C3 M g (.func x3) [t9] H1 fun g t117 H2=>LK g (lk E 8) fun g t8=>B3 g ((Op.minmax false) [t116,t117,t8]) fun g t119=>LK g (lk E 9) fun g t9_1=>C3 M g (.func xk) [t9_1] H2 fun g t120 H3=>B3 g ((Op.sliceStr [none,(some 0)]) [t120,t119]) fun g t122=>C3 M g (.func qz) [t9_1,t122] H3 fun g t123 H4=>GO3 g (BLK3 4 Q) .normal ((10,t119)::E) D H4):=by (repeat' apply And.intro)<;>(intro _ _ _ _; refine W_unf ?_; kernel_rfl)
theorem qhx:(cProg Tryd.prog).func je = some qbm /\ qbm.results = [.tmp 4]:=xd (by kernel_rfl)
theorem qmy {M:Mac} [MK M]:M.func je = some qbm:=MK.at (by decide) qhx.1
theorem qnv {M:Mac} [MK M] {a0 a1:AV} {H:AHeap} {Q:AEnd -> AHeap -> Prop} (h:W M ⟨none,je⟩ (qd 0) true (FIN3 M [.tmp 4] Q) [(0,a0),(1,a1)] [] H):CALLE M je [a0,a1] H Q :=
 calle qmy (ks:=qhy) (by kernel_rfl) (by rw [qhx.2]; exact h)
def yf:AFunc:=funcAt Tryd.prog qy
def qb9:Kp:=⟨[0,1,2,6,15,54],false,[0,13,25,31,34,38,53]⟩
def qm (k:Nat):Kp × ACode:=(qb9,part yf.body k)
theorem qi (M:Mac) (c:Ctx):(∀ Q E D H,W M c (qm 0) true Q E D H =
 LK true (lk E 0) fun g t0=>B3 g (Op.nilCheck [t0]) fun g t8=>B3 g ((Op.fieldAddr 2) [t8]) fun g t9=>B3 g (Op.load1 [t9] H) fun g t10=>LK g (lk E 1) fun g t1=>B3 g ((Op.indexSl 3) [t10,t1]) fun g t12=>B3 g ((Op.loadN 3) [t12] H) fun g t13=>A3 g qk [(.int .i64 0),(.int .u64 0),.nils] H fun g t6 H1=>B32 g ((Op.store 3) [t6,t13] H1) fun g u H2=>B3 g ((Op.fieldAddr 0) [t6]) fun g t14=>B3 g (Op.load1 [t14] H2) fun g t15=>B3 g ((Op.bin .eql) [t15,(.int .i64 14)]) fun g t17=>IF3 g t17 (fun g=>LK g (lk E 0) fun g t0_1=>B3 g ((Op.fieldAddr 1) [t6]) fun g t19=>B3 g (Op.load1 [t19] H2) fun g t20=>B3 g ((Op.bin .add) [(.int .u64 97),t20]) fun g t21=>B3 g ((Op.wrap .i32) [t21]) fun g t22=>B3 g (Op.strOfInt [t22]) fun g t23=>B3 g ((Op.bin .add) [t23,(.str [32,61,32])]) fun g t24=>C3 M g (.func qg) [t0_1,t24] H2 fun g t25 H3=>LK g (lk E 0) fun g t0_2=>B3 g ((Op.fieldAddr 2) [t6]) fun g t27=>B3 g (Op.load1 [t27] H3) fun g t28=>B3 g ((Op.indexSl 1) [t28,(.int .i64 0)]) fun g t29=>B3 g (Op.load1 [t29] H3) fun g t30=>C3 M g (.func xa) [t0_2,t30,(.int .i64 0)] H3 fun g t31 H4=>LK g (lk E 0) fun g t0_3=>C3 M g (.func qg) [t0_3,(.str [59])] H4 fun g t33 H5=>GO3 g (BLK3 0 Q) .normal ((15,t15)::(6,t6)::E) D H5) (fun g=>W M c (qm 13) g (BLK3 0 Q) ((15,t15)::(6,t6)::E) D H2)) /\
 (∀ Q E D H,W M c (qm 13) true Q E D H =
  LK true (lk E 15) fun g t15=>B3 g ((Op.bin .eql) [t15,(.int .i64 15)]) fun g t35=>IF3 g t35 (fun g=>LK g (lk E 0) fun g t0=>C3 M g (.func qg) [t0,(.str [115,116,111,114,101,40])] H fun g t37 H1=>LK g (lk E 0) fun g t0_1=>LK g (lk E 6) fun g t6=>B3 g ((Op.fieldAddr 2) [t6]) fun g t39=>B3 g (Op.load1 [t39] H1) fun g t40=>B3 g ((Op.indexSl 1) [t40,(.int .i64 0)]) fun g t41=>B3 g (Op.load1 [t41] H1) fun g t42=>C3 M g (.func xa) [t0_1,t42,(.int .i64 0)] H1 fun g t43 H2=>LK g (lk E 0) fun g t0_2=>C3 M g (.func qg) [t0_2,(.str [44,32])] H2 fun g t45 H3=>LK g (lk E 0) fun g t0_3=>LK g (lk E 6) fun g t6_1=>B3 g ((Op.fieldAddr 2) [t6_1]) fun g t47=>B3 g (Op.load1 [t47] H3) fun g t48=>B3 g ((Op.indexSl 1) [t48,(.int .i64 1)]) fun g t49=>B3 g (Op.load1 [t49] H3) fun g t50=>C3 M g (.func xa) [t0_3,t50,(.int .i64 0)] H3 fun g t51 H4=>LK g (lk E 0) fun g t0_4=>C3 M g (.func qg) [t0_4,(.str [41,59])] H4 fun g t53 H5=>GO3 g Q .normal E D H5) (fun g=>W M c (qm 25) g Q E D H)) /\
 (∀ Q E D H,W M c (qm 25) true Q E D H =
  LK true (lk E 15) fun g t15=>B3 g ((Op.bin .eql) [t15,(.int .i64 16)]) fun g t55=>IF3 g t55 (fun g=>GO3 g (SEQ3 (W M c (qm 31)) Q) .normal ((54,t55)::E) D H) (fun g=>LK g (lk E 15) fun g t15_1=>B3 g ((Op.bin .eql) [t15_1,(.int .i64 17)]) fun g t56=>GO3 g (SEQ3 (W M c (qm 31)) Q) .normal ((54,t56)::(54,t55)::E) D H)) /\
 (∀ Q E D H,W M c (qm 31) true Q E D H =
  LK true (lk E 54) fun g t54=>IF3 g t54 (fun g=>LK g (lk E 0) fun g t0=>B32 g ((Op.buildSlice yv 2 [(.str [])] [(0,1),(1,1)]) [(.str [105,102,32,40]),(.str [119,104,105,108,101,32,40])]) fun g o1 k1=>LK g (lk E 6) fun g t6=>B3 g ((Op.fieldAddr 0) [t6]) fun g t59=>B3 g (Op.load1 [t59] (H.alloc o1)) fun g t60=>B3 g ((Op.bin .sub) [t60,(.int .i64 16)]) fun g t61=>B3 g ((Op.indexSl 1) [(k1 H.next),t61]) fun g t62=>B3 g (Op.load1 [t62] (H.alloc o1)) fun g t63=>C3 M g (.func qg) [t0,t63] (H.alloc o1) fun g t64 H2=>W M c (qm 34) g Q E D H2) (fun g=>LK g (lk E 15) fun g t15=>B3 g ((Op.bin .eql) [t15,(.int .i64 18)]) fun g t94=>IF3 g t94 (fun g=>LK g (lk E 0) fun g t0=>C3 M g (.func qg) [t0,(.str [97,116,111,109,105,99,32])] H fun g t96 H1=>LK g (lk E 0) fun g t0_1=>LK g (lk E 6) fun g t6=>B3 g ((Op.fieldAddr 2) [t6]) fun g t98=>B3 g (Op.load1 [t98] H1) fun g t99=>B3 g ((Op.indexSl 1) [t99,(.int .i64 0)]) fun g t100=>B3 g (Op.load1 [t100] H1) fun g t101=>LK g (lk E 2) fun g t2=>C3 M g (.func x9) [t0_1,t101,t2] H1 fun g t103 H2=>GO3 g Q .normal E D H2) (fun g=>W M c (qm 53) g Q E D H))) /\
 (∀ Q E D H,W M c (qm 34) true Q E D H =
  LK true (lk E 0) fun g t0=>LK g (lk E 6) fun g t6=>B3 g ((Op.fieldAddr 2) [t6]) fun g t66=>B3 g (Op.load1 [t66] H) fun g t67=>B3 g ((Op.indexSl 1) [t67,(.int .i64 0)]) fun g t68=>B3 g (Op.load1 [t68] H) fun g t69=>C3 M g (.func jn) [t0,t69] H fun g t70 H1=>LK g (lk E 0) fun g t0_1=>C3 M g (.func qg) [t0_1,(.str [41,32])] H1 fun g t72 H2=>W M c (qm 38) g Q E D H2) /\
 (∀ Q E D H,W M c (qm 53) true Q E D H =
  LK true (lk E 15) fun g t15=>B3 g ((Op.bin .eql) [t15,(.int .i64 19)]) fun g t105=>IF3 g t105 (fun g=>LK g (lk E 0) fun g t0=>C3 M g (.func qg) [t0,(.str [104,97,108,116,59])] H fun g t107 H1=>GO3 g Q .normal E D H1) (fun g=>GO3 g Q .normal E D H)) /\
 (∀ Q E D H,W M c (qm 38) true Q E D H =
  LK true (lk E 0) fun g t0=>LK g (lk E 6) fun g t6=>B3 g ((Op.fieldAddr 2) [t6]) fun g t74=>B3 g (Op.load1 [t74] H) fun g t75=>B3 g ((Op.indexSl 1) [t75,(.int .i64 1)]) fun g t76=>B3 g (Op.load1 [t76] H) fun g t77=>LK g (lk E 2) fun g t2=>C3 M g (.func x9) [t0,t77,t2] H fun g t79 H1=>LK g (lk E 6) fun g t6_1=>B3 g ((Op.fieldAddr 2) [t6_1]) fun g t80=>B3 g (Op.load1 [t80] H1) fun g t81=>B3 g (Op.lenSl [t81]) fun g t82=>B3 g ((Op.bin .eql) [t82,(.int .i64 3)]) fun g t83=>IF3 g t83 (fun g=>LK g (lk E 0) fun g t0_1=>C3 M g (.func qg) [t0_1,(.str [32,101,108,115,101,32])] H1 fun g t85 H2=>LK g (lk E 0) fun g t0_2=>LK g (lk E 6) fun g t6_2=>B3 g ((Op.fieldAddr 2) [t6_2]) fun g t87=>B3 g (Op.load1 [t87] H2) fun g t88=>B3 g ((Op.indexSl 1) [t88,(.int .i64 2)]) fun g t89=>B3 g (Op.load1 [t89] H2) fun g t90=>LK g (lk E 2) fun g t2_1=>C3 M g (.func x9) [t0_2,t90,t2_1] H2 fun g t92 H3=>GO3 g Q .normal E D H3) (fun g=>GO3 g Q .normal E D H1)):=by (repeat' apply And.intro)<;>(intro _ _ _ _; refine W_unf ?_; kernel_rfl)
theorem qce:(cProg Tryd.prog).func qy = some yf /\ yf.results = []:=xd (by kernel_rfl)
theorem qgx {M:Mac} [MK M]:M.func qy = some yf:=MK.at (by decide) qce.1
theorem zh {M:Mac} [MK M] {a0 a1 a2:AV} {H:AHeap} {Q:AEnd -> AHeap -> Prop} (h:W M ⟨none,qy⟩ (qm 0) true (FIN3 M [] Q) [(0,a0),(1,a1),(2,a2)] [] H):CALLE M qy [a0,a1,a2] H Q :=
 calle qgx (ks:=qb9) (by kernel_rfl) (by rw [qce.2]; exact h)
def vt:AFunc:=funcAt Tryd.prog zt
def qe7:Kp:=⟨[0,1,4,5,6,7,8],false,[0,2,8,10,16,20,23,29,31]⟩
def qq (k:Nat):Kp × ACode:=(qe7,part vt.body k)
theorem qj3 (M:Mac) (c:Ctx):(∀ Q E D H,W M c (qq 0) true Q E D H =
 W M c (qq 2) true Q ((4,.nils)::E) D H) /\
 (∀ Q E D H,W M c (qq 2) true Q E D H =
  LK true (lk E 1) fun g t1=>B3 g ((Op.bin .lss) [t1,(.int .i64 0)]) fun g t10=>IF3 g t10 (fun g=>B3 g ((Op.mkIface yv) [(.str [99,97,110,110,111,116,32,98,101,32,110,101,103,97,116,105,118,101])]) fun g t11=>False) (fun g=>GO3 g (SEQ3 (W M c (qq 8)) Q) .normal E D H)) /\
 (∀ Q E D H,W M c (qq 8) true Q E D H =
  LK true (lk E 0) fun g t0=>B3 g (Op.lenSl [t0]) fun g t14=>B3 g ((Op.wrap .u64) [t14]) fun g t15=>LK g (lk E 1) fun g t1=>B3 g ((Op.wrap .u64) [t1]) fun g t17=>C3 M g (.func kg) [t15,t17] H fun g t18 H1=>B3 g ((Op.extract 0) [t18]) fun g t19=>B3 g ((Op.extract 1) [t18]) fun g t20=>W M c (qq 10) g Q ((6,t20)::(5,t19)::E) D H1) /\
 (∀ Q E D H,W M c (qq 10) true Q E D H =
  LK true (lk E 5) fun g t5=>B3 g ((Op.bin .gtr) [t5,(.int .u64 0)]) fun g t22=>JN (fun (k:Bool -> AV -> AV -> AHeap -> Prop)=>B3 g (wantV false (some t22)) fun g w=>IG3 g w (fun g=>LK g (lk E 6) fun g t6=>B3 g ((Op.bin .gtr) [t6,(.int .u64 9223372036854775807)]) fun g t25=>k g t25 t6 H) (fun g=>k g uu uu H)) (fun g t25_1 t24_1 H1=>B3 g (Op.pick [t22,(.bool true),t25_1]) fun g t26=>IF3 g t26 (fun g=>B3 g ((Op.mkIface yv) [(.str q0h)]) fun g t27=>False) (fun g=>GO3 g (SEQ3 (W M c (qq 16)) Q) .normal E D H1))) /\
 (∀ Q E D H,W M c (qq 16) true Q E D H =
  LK true (lk E 6) fun g t6=>B3 g ((Op.wrap .i64) [t6]) fun g t29=>B32 g ((Op.mkSlice T_int 8 [(.int .i64 0)]) [t29,t29]) fun g o1 k1=>LK g (lk E 0) fun g t0=>B32 g ((Op.copy 1) [(k1 H.next),t0] (H.alloc o1)) fun g t33 H2=>W M c (qq 20) g Q ((8,t33)::(7,(k1 H.next))::E) D H2) /\
 (∀ Q E D H,W M c (qq 20) true Q E D H =
  LOOP3 (W M c (qq 23)) (BLK3 0 (SEQ3 (W M c (qq 31)) Q)) E D H) /\
 (∀ Q E D H,W M c (qq 31) true Q E D H =
  LK true (lk E 7) fun g t7=>GO3 g Q .ret ((4,t7)::E) D H) /\
 (∀ Q E D H,W M c (qq 23) true Q E D H =
  LK true (lk E 8) fun g t8=>LK g (lk E 7) fun g t7=>B3 g (Op.lenSl [t7]) fun g t36=>B3 g ((Op.bin .lss) [t8,t36]) fun g t37=>IF3 g t37 (fun g=>GO3 g (SEQ3 (W M c (qq 29)) Q) .normal E D H) (fun g=>GO3 g (SEQ3 (W M c (qq 29)) Q) (.exit 0) E D H)) /\
 (∀ Q E D H,W M c (qq 29) true Q E D H =
  LK true (lk E 8) fun g t8=>LK g (lk E 7) fun g t7=>B3 g ((Op.sliceSl 1 [(some 0),none,none]) [t7,t8]) fun g t41=>B3 g ((Op.sliceSl 1 [none,(some 0),none]) [t7,t8]) fun g t44=>B32 g ((Op.copy 1) [t41,t44] H) fun g t45 H1=>B3 g ((Op.bin .add) [t8,t45]) fun g t46=>GO3 g (BLK3 1 Q) .normal ((8,t46)::E) D H1):=by (repeat' apply And.intro)<;>(intro _ _ _ _; refine W_unf ?_; kernel_rfl)
theorem qe3:(cProg Tryd.prog).func zt = some vt /\ vt.results = [.tmp 4]:=xd (by kernel_rfl)
theorem qjm {M:Mac} [MK M]:M.func zt = some vt:=MK.at (by decide) qe3.1
theorem qkm {M:Mac} [MK M] {a0 a1:AV} {H:AHeap} {Q:AEnd -> AHeap -> Prop} (h:W M ⟨none,zt⟩ (qq 0) true (FIN3 M [.tmp 4] Q) [(0,a0),(1,a1)] [] H):CALLE M zt [a0,a1] H Q :=
 calle qjm (ks:=qe7) (by kernel_rfl) (by rw [qe3.2]; exact h)
def qb5:AFunc:=funcAt Tryd.prog kg
def qio:Kp:=⟨[0,1,4,5,6,7,8,9],false,[0,10]⟩
def qak (k:Nat):Kp × ACode:=(qio,part qb5.body k)
theorem qij (M:Mac) (c:Ctx):(∀ Q E D H,W M c (qak 0) true Q E D H =
 IF3 true (.bool false) (fun g=>LK g (lk E 0) fun g t0=>B3 g ((Op.wrap .u32) [t0]) fun g t12=>LK g (lk E 1) fun g t1=>B3 g ((Op.wrap .u32) [t1]) fun g t14=>C3 M g (.func qmj) [t12,t14] H fun g t15 H1=>B3 g ((Op.extract 0) [t15]) fun g t16=>B3 g ((Op.extract 1) [t15]) fun g t17=>B3 g ((Op.wrap .u64) [t16]) fun g t19=>B3 g ((Op.wrap .u64) [t17]) fun g t21=>GO3 g (SEQ3 (W M c (qak 10)) Q) .ret ((5,t21)::(4,t19)::(7,t17)::(6,t16)::(5,(.int .u64 0))::(4,(.int .u64 0))::E) D H1) (fun g=>GO3 g (SEQ3 (W M c (qak 10)) Q) .normal ((5,(.int .u64 0))::(4,(.int .u64 0))::E) D H)) /\
 (∀ Q E D H,W M c (qak 10) true Q E D H =
  LK true (lk E 0) fun g t0=>LK g (lk E 1) fun g t1=>C3 M g (.func j0) [t0,t1] H fun g t25 H1=>B3 g ((Op.extract 0) [t25]) fun g t26=>B3 g ((Op.extract 1) [t25]) fun g t27=>GO3 g Q .ret ((5,t27)::(4,t26)::(9,t27)::(8,t26)::E) D H1):=by (repeat' apply And.intro)<;>(intro _ _ _ _; refine W_unf ?_; kernel_rfl)
theorem qif:(cProg Tryd.prog).func kg = some qb5 /\ qb5.results = [.tmp 4,.tmp 5]:=xd (by kernel_rfl)
theorem qnu {M:Mac} [MK M]:M.func kg = some qb5:=MK.at (by decide) qif.1
theorem qqb {M:Mac} [MK M] {a0 a1:AV} {H:AHeap} {Q:AEnd -> AHeap -> Prop} (h:W M ⟨none,kg⟩ (qak 0) true (FIN3 M [.tmp 4,.tmp 5] Q) [(0,a0),(1,a1)] [] H):CALLE M kg [a0,a1] H Q :=
 calle qnu (ks:=qio) (by kernel_rfl) (by rw [qif.2]; exact h)
def vo:AFunc:=funcAt Tryd.prog xv
def qex:Kp:=⟨[0,1,4],false,[0]⟩
def qeq (k:Nat):Kp × ACode:=(qex,part vo.body k)
theorem qe8 (M:Mac) (c:Ctx):(∀ Q E D H,W M c (qeq 0) true Q E D H =
 LK true (lk E 0) fun g t0=>LK g (lk E 1) fun g t1=>C3 M g (.func xn) [t0,t1] H fun g t7 H1=>GO3 g Q .ret ((4,t7)::(4,(.bool false))::E) D H1):=by intro _ _ _ _; refine W_unf ?_; kernel_rfl
theorem qe4:(cProg Tryd.prog).func xv = some vo /\ vo.results = [.tmp 4]:=xd (by kernel_rfl)
theorem qjk {M:Mac} [MK M]:M.func xv = some vo:=MK.at (by decide) qe4.1
theorem qj8 {M:Mac} [MK M] {a0 a1:AV} {H:AHeap} {Q:AEnd -> AHeap -> Prop} (h:W M ⟨none,xv⟩ (qeq 0) true (FIN3 M [.tmp 4] Q) [(0,a0),(1,a1)] [] H):CALLE M xv [a0,a1] H Q :=
 calle qjk (ks:=qex) (by kernel_rfl) (by rw [qe4.2]; exact h)
def wk:AFunc:=funcAt Tryd.prog xa
def qfy:Kp:=⟨[0,1,2,6,7,9,18],false,[0,9,21,25,31,35]⟩
def xi (k:Nat):Kp × ACode:=(qfy,part wk.body k)
theorem zn (M:Mac) (c:Ctx):(∀ Q E D H,W M c (xi 0) true Q E D H =
 LK true (lk E 0) fun g t0=>B3 g (Op.nilCheck [t0]) fun g t11=>B3 g ((Op.fieldAddr 2) [t11]) fun g t12=>B3 g (Op.load1 [t12] H) fun g t13=>LK g (lk E 1) fun g t1=>B3 g ((Op.indexSl 3) [t13,t1]) fun g t15=>B3 g ((Op.loadN 3) [t15] H) fun g t16=>A3 g qk [(.int .i64 0),(.int .u64 0),.nils] H fun g t6 H1=>B32 g ((Op.store 3) [t6,t16] H1) fun g u H2=>B3 g ((Op.fieldAddr 0) [t6]) fun g t17=>B3 g (Op.load1 [t17] H2) fun g t18=>B3 g ((Op.bin .eql) [t18,(.int .i64 1)]) fun g t58=>IF3 g t58 (fun g=>LK g (lk E 0) fun g t0_1=>B3 g ((Op.fieldAddr 1) [t6]) fun g t60=>B3 g (Op.load1 [t60] H2) fun g t61=>C3 M g (.func zz) [t61,(.int .i64 10)] H2 fun g t62 H3=>C3 M g (.func qg) [t0_1,t62] H3 fun g t63 H4=>GO3 g (BLK3 0 Q) .normal ((18,t18)::(6,t6)::E) D H4) (fun g=>W M c (xi 9) g (BLK3 0 Q) ((18,t18)::(6,t6)::E) D H2)) /\
 (∀ Q E D H,W M c (xi 9) true Q E D H =
  LK true (lk E 18) fun g t18=>B3 g ((Op.bin .eql) [t18,(.int .i64 2)]) fun g t65=>IF3 g t65 (fun g=>LK g (lk E 0) fun g t0=>LK g (lk E 6) fun g t6=>B3 g ((Op.fieldAddr 1) [t6]) fun g t67=>B3 g (Op.load1 [t67] H) fun g t68=>B3 g ((Op.bin .add) [(.int .u64 97),t68]) fun g t69=>B3 g ((Op.wrap .i32) [t69]) fun g t70=>B3 g (Op.strOfInt [t70]) fun g t71=>C3 M g (.func qg) [t0,t71] H fun g t72 H1=>GO3 g Q .normal E D H1) (fun g=>LK g (lk E 18) fun g t18_1=>B3 g ((Op.bin .eql) [t18_1,(.int .i64 3)]) fun g t74=>IF3 g t74 (fun g=>LK g (lk E 0) fun g t0=>C3 M g (.func qg) [t0,(.str [108,111,97,100,40])] H fun g t76 H1=>LK g (lk E 0) fun g t0_1=>LK g (lk E 6) fun g t6=>B3 g ((Op.fieldAddr 2) [t6]) fun g t78=>B3 g (Op.load1 [t78] H1) fun g t79=>B3 g ((Op.indexSl 1) [t79,(.int .i64 0)]) fun g t80=>B3 g (Op.load1 [t80] H1) fun g t81=>C3 M g (.func xa) [t0_1,t81,(.int .i64 0)] H1 fun g t82 H2=>LK g (lk E 0) fun g t0_2=>C3 M g (.func qg) [t0_2,(.str [41])] H2 fun g t84 H3=>GO3 g Q .normal E D H3) (fun g=>W M c (xi 21) g Q E D H))) /\
 (∀ Q E D H,W M c (xi 21) true Q E D H =
  LK true (lk E 6) fun g t6=>B3 g ((Op.fieldAddr 0) [t6]) fun g t19=>B3 g (Op.load1 [t19] H) fun g t20=>C3 M g (.func qat) [t20] H fun g t21 H1=>C3 M g (.func qbn) [t21] H1 fun g t24 H2=>B3 g ((Op.extract 0) [t24]) fun g t25=>B3 g ((Op.extract 1) [t24]) fun g t26=>W M c (xi 25) g Q ((9,t26)::(7,t21)::E) D H2) /\
 (∀ Q E D H,W M c (xi 25) true Q E D H =
  LK true (lk E 9) fun g t9=>LK g (lk E 2) fun g t2=>B3 g ((Op.bin .lss) [t9,t2]) fun g t29=>IF3 g t29 (fun g=>LK g (lk E 0) fun g t0=>C3 M g (.func qg) [t0,(.str [40])] H fun g t31 H1=>GO3 g (SEQ3 (W M c (xi 31)) Q) .normal E D H1) (fun g=>GO3 g (SEQ3 (W M c (xi 31)) Q) .normal E D H)) /\
 (∀ Q E D H,W M c (xi 31) true Q E D H =
  LK true (lk E 0) fun g t0=>LK g (lk E 6) fun g t6=>B3 g ((Op.fieldAddr 2) [t6]) fun g t33=>B3 g (Op.load1 [t33] H) fun g t34=>B3 g ((Op.indexSl 1) [t34,(.int .i64 0)]) fun g t35=>B3 g (Op.load1 [t35] H) fun g t36=>LK g (lk E 9) fun g t9=>C3 M g (.func xa) [t0,t36,t9] H fun g t38 H1=>LK g (lk E 0) fun g t0_1=>LK g (lk E 7) fun g t7=>B3 g ((Op.bin .add) [(.str [32]),t7]) fun g t41=>B3 g ((Op.bin .add) [t41,(.str [32])]) fun g t42=>C3 M g (.func qg) [t0_1,t42] H1 fun g t43 H2=>W M c (xi 35) g Q E D H2) /\
 (∀ Q E D H,W M c (xi 35) true Q E D H =
  LK true (lk E 0) fun g t0=>LK g (lk E 6) fun g t6=>B3 g ((Op.fieldAddr 2) [t6]) fun g t45=>B3 g (Op.load1 [t45] H) fun g t46=>B3 g ((Op.indexSl 1) [t46,(.int .i64 1)]) fun g t47=>B3 g (Op.load1 [t47] H) fun g t48=>LK g (lk E 9) fun g t9=>B3 g ((Op.bin .add) [t9,(.int .i64 1)]) fun g t50=>C3 M g (.func xa) [t0,t48,t50] H fun g t51 H1=>LK g (lk E 9) fun g t9_1=>LK g (lk E 2) fun g t2=>B3 g ((Op.bin .lss) [t9_1,t2]) fun g t54=>IF3 g t54 (fun g=>LK g (lk E 0) fun g t0_1=>C3 M g (.func qg) [t0_1,(.str [41])] H1 fun g t56 H2=>GO3 g Q .normal E D H2) (fun g=>GO3 g Q .normal E D H1)):=by (repeat' apply And.intro)<;>(intro _ _ _ _; refine W_unf ?_; kernel_rfl)
theorem qf3:(cProg Tryd.prog).func xa = some wk /\ wk.results = []:=xd (by kernel_rfl)
theorem qj2 {M:Mac} [MK M]:M.func xa = some wk:=MK.at (by decide) qf3.1
theorem qad {M:Mac} [MK M] {a0 a1 a2:AV} {H:AHeap} {Q:AEnd -> AHeap -> Prop} (h:W M ⟨none,xa⟩ (xi 0) true (FIN3 M [] Q) [(0,a0),(1,a1),(2,a2)] [] H):CALLE M xa [a0,a1,a2] H Q :=
 calle qj2 (ks:=qfy) (by kernel_rfl) (by rw [qf3.2]; exact h)
def qab:AFunc:=funcAt Tryd.prog jn
def qfs:Kp:=⟨[0,1,4],false,[0]⟩
def qft (k:Nat):Kp × ACode:=(qfs,part qab.body k)
theorem qah (M:Mac) (c:Ctx):(∀ Q E D H,W M c (qft 0) true Q E D H =
 LK true (lk E 0) fun g t0=>B3 g (Op.nilCheck [t0]) fun g t6=>B3 g ((Op.fieldAddr 2) [t6]) fun g t7=>B3 g (Op.load1 [t7] H) fun g t8=>LK g (lk E 1) fun g t1=>B3 g ((Op.indexSl 3) [t8,t1]) fun g t10=>B3 g ((Op.loadN 3) [t10] H) fun g t11=>A3 g qk [(.int .i64 0),(.int .u64 0),.nils] H fun g t4 H1=>B32 g ((Op.store 3) [t4,t11] H1) fun g u H2=>LK g (lk E 0) fun g t0_1=>B3 g ((Op.fieldAddr 2) [t4]) fun g t13=>B3 g (Op.load1 [t13] H2) fun g t14=>B3 g ((Op.indexSl 1) [t14,(.int .i64 0)]) fun g t15=>B3 g (Op.load1 [t15] H2) fun g t16=>C3 M g (.func xa) [t0_1,t16,(.int .i64 0)] H2 fun g t17 H3=>LK g (lk E 0) fun g t0_2=>B32 g ((Op.buildSlice yv 3 [(.str [])] [(0,1),(1,1),(2,1)]) [(.str [32,61,61,32]),(.str [32,33,61,32]),(.str [32,60,32])]) fun g o4 k4=>B3 g ((Op.fieldAddr 0) [t4]) fun g t20=>B3 g (Op.load1 [t20] (H3.alloc o4)) fun g t21=>B3 g ((Op.bin .sub) [t21,(.int .i64 11)]) fun g t22=>B3 g ((Op.indexSl 1) [(k4 H3.next),t22]) fun g t23=>B3 g (Op.load1 [t23] (H3.alloc o4)) fun g t24=>C3 M g (.func qg) [t0_2,t24] (H3.alloc o4) fun g t25 H5=>LK g (lk E 0) fun g t0_3=>B3 g ((Op.fieldAddr 2) [t4]) fun g t27=>B3 g (Op.load1 [t27] H5) fun g t28=>B3 g ((Op.indexSl 1) [t28,(.int .i64 1)]) fun g t29=>B3 g (Op.load1 [t29] H5) fun g t30=>C3 M g (.func xa) [t0_3,t30,(.int .i64 0)] H5 fun g t31 H6=>GO3 g Q .normal ((4,t4)::E) D H6):=by intro _ _ _ _; refine W_unf ?_; kernel_rfl
theorem qfx:(cProg Tryd.prog).func jn = some qab /\ qab.results = []:=xd (by kernel_rfl)
theorem qkd {M:Mac} [MK M]:M.func jn = some qab:=MK.at (by decide) qfx.1
theorem qlw {M:Mac} [MK M] {a0 a1:AV} {H:AHeap} {Q:AEnd -> AHeap -> Prop} (h:W M ⟨none,jn⟩ (qft 0) true (FIN3 M [] Q) [(0,a0),(1,a1)] [] H):CALLE M jn [a0,a1] H Q :=
 calle qkd (ks:=qfs) (by kernel_rfl) (by rw [qfx.2]; exact h)
def vu:AFunc:=funcAt Tryd.prog x9
def qfe:Kp:=⟨[0,1,2],false,[0]⟩
def qe6 (k:Nat):Kp × ACode:=(qfe,part vu.body k)
theorem yj (M:Mac) (c:Ctx):(∀ Q E D H,W M c (qe6 0) true Q E D H =
 LK true (lk E 0) fun g t0=>C3 M g (.func qg) [t0,(.str [123,10])] H fun g t7 H1=>LK g (lk E 0) fun g t0_1=>LK g (lk E 1) fun g t1=>LK g (lk E 2) fun g t2=>B3 g ((Op.bin .add) [t2,(.int .i64 1)]) fun g t11=>C3 M g (.func z4) [t0_1,t1,t11] H1 fun g t12 H2=>LK g (lk E 0) fun g t0_2=>LK g (lk E 2) fun g t2_1=>C3 M g (.func je) [(.str [32,32]),t2_1] H2 fun g t15 H3=>B3 g ((Op.bin .add) [t15,(.str [125])]) fun g t16=>C3 M g (.func qg) [t0_2,t16] H3 fun g t17 H4=>GO3 g Q .normal E D H4):=by intro _ _ _ _; refine W_unf ?_; kernel_rfl
theorem qe0:(cProg Tryd.prog).func x9 = some vu /\ vu.results = []:=xd (by kernel_rfl)
theorem qji {M:Mac} [MK M]:M.func x9 = some vu:=MK.at (by decide) qe0.1
theorem qj1 {M:Mac} [MK M] {a0 a1 a2:AV} {H:AHeap} {Q:AEnd -> AHeap -> Prop} (h:W M ⟨none,x9⟩ (qe6 0) true (FIN3 M [] Q) [(0,a0),(1,a1),(2,a2)] [] H):CALLE M x9 [a0,a1,a2] H Q :=
 calle qji (ks:=qfe) (by kernel_rfl) (by rw [qe0.2]; exact h)
def qa9:AFunc:=funcAt Tryd.prog j0
def qgg:Kp:=⟨[0,1,4,5,6,7,8,9,10,11,12,13],false,[0,4,8,12]⟩
def jh (k:Nat):Kp × ACode:=(qgg,part qa9.body k)
theorem qmt (M:Mac) (c:Ctx):(∀ Q E D H,W M c (jh 0) true Q E D H =
 LK true (lk E 0) fun g t0=>B3 g ((Op.bin .and) [t0,(.int .u64 4294967295)]) fun g t15=>W M c (jh 4) g Q ((6,t15)::(5,(.int .u64 0))::(4,(.int .u64 0))::E) D H) /\
 (∀ Q E D H,W M c (jh 4) true Q E D H =
  LK true (lk E 0) fun g t0=>B3 g ((Op.bin .shr) [t0,(.int .u64 32)]) fun g t17=>LK g (lk E 1) fun g t1=>B3 g ((Op.bin .and) [t1,(.int .u64 4294967295)]) fun g t19=>W M c (jh 8) g Q ((8,t19)::(7,t17)::E) D H) /\
 (∀ Q E D H,W M c (jh 8) true Q E D H =
  LK true (lk E 1) fun g t1=>B3 g ((Op.bin .shr) [t1,(.int .u64 32)]) fun g t21=>LK g (lk E 6) fun g t6=>LK g (lk E 8) fun g t8=>B3 g ((Op.bin .mul) [t6,t8]) fun g t24=>W M c (jh 12) g Q ((10,t24)::(9,t21)::E) D H) /\
 (∀ Q E D H,W M c (jh 12) true Q E D H =
  LK true (lk E 7) fun g t7=>LK g (lk E 8) fun g t8=>B3 g ((Op.bin .mul) [t7,t8]) fun g t27=>LK g (lk E 10) fun g t10=>B3 g ((Op.bin .shr) [t10,(.int .u64 32)]) fun g t29=>B3 g ((Op.bin .add) [t27,t29]) fun g t30=>B3 g ((Op.bin .and) [t30,(.int .u64 4294967295)]) fun g t32=>B3 g ((Op.bin .shr) [t30,(.int .u64 32)]) fun g t34=>LK g (lk E 6) fun g t6=>LK g (lk E 9) fun g t9=>B3 g ((Op.bin .mul) [t6,t9]) fun g t38=>B3 g ((Op.bin .add) [t32,t38]) fun g t39=>LK g (lk E 7) fun g t7_1=>LK g (lk E 9) fun g t9_1=>B3 g ((Op.bin .mul) [t7_1,t9_1]) fun g t42=>B3 g ((Op.bin .add) [t42,t34]) fun g t44=>B3 g ((Op.bin .shr) [t39,(.int .u64 32)]) fun g t46=>B3 g ((Op.bin .add) [t44,t46]) fun g t47=>LK g (lk E 0) fun g t0=>LK g (lk E 1) fun g t1=>B3 g ((Op.bin .mul) [t0,t1]) fun g t50=>GO3 g Q .ret ((5,t50)::(4,t47)::(12,t39)::(13,t34)::(12,t32)::(11,t30)::E) D H):=by (repeat' apply And.intro)<;>(intro _ _ _ _; refine W_unf ?_; kernel_rfl)
theorem qgq:(cProg Tryd.prog).func j0 = some qa9 /\ qa9.results = [.tmp 4,.tmp 5]:=xd (by kernel_rfl)
theorem qlh {M:Mac} [MK M]:M.func j0 = some qa9:=MK.at (by decide) qgq.1
theorem qmm {M:Mac} [MK M] {a0 a1:AV} {H:AHeap} {Q:AEnd -> AHeap -> Prop} (h:W M ⟨none,j0⟩ (jh 0) true (FIN3 M [.tmp 4,.tmp 5] Q) [(0,a0),(1,a1)] [] H):CALLE M j0 [a0,a1] H Q :=
 calle qlh (ks:=qgg) (by kernel_rfl) (by rw [qgq.2]; exact h)
def zq:AFunc:=funcAt Tryd.prog xn
def vc:Kp:=⟨[0,1,4],false,[0]⟩
def vb (k:Nat):Kp × ACode:=(vc,part zq.body k)
theorem qcj (M:Mac) (c:Ctx):(∀ Q E D H,W M c (vb 0) true Q E D H =
 LK true (lk E 0) fun g t0=>B3 g (Op.lenStr [t0]) fun g t6=>LK g (lk E 1) fun g t1=>B3 g (Op.lenStr [t1]) fun g t8=>B3 g ((Op.bin .geq) [t6,t8]) fun g t9=>JN (fun (k:Bool -> AV -> AV -> AV -> AV -> AV -> AV -> AHeap -> Prop)=>B3 g (wantV true (some t9)) fun g w=>IG3 g w (fun g=>B3 g (Op.lenStr [t1]) fun g t13=>B3 g ((Op.sliceStr [none,(some 0)]) [t0,t13]) fun g t14=>B3 g ((Op.bin .eql) [t14,t1]) fun g t16=>k g t16 t1 t14 t13 t1 t0 H) (fun g=>k g uu uu uu uu uu uu H)) (fun g t16_1 t15_1 t14_1 t13_1 t12_1 t11_1 H1=>B3 g (Op.pick [t9,t16_1,(.bool false)]) fun g t17=>GO3 g Q .ret ((4,t17)::(4,(.bool false))::E) D H1)):=by intro _ _ _ _; refine W_unf ?_; kernel_rfl
theorem vd:(cProg Tryd.prog).func xn = some zq /\ zq.results = [.tmp 4]:=xd (by kernel_rfl)
theorem qb6 {M:Mac} [MK M]:M.func xn = some zq:=MK.at (by decide) vd.1
theorem qck {M:Mac} [MK M] {a0 a1:AV} {H:AHeap} {Q:AEnd -> AHeap -> Prop} (h:W M ⟨none,xn⟩ (vb 0) true (FIN3 M [.tmp 4] Q) [(0,a0),(1,a1)] [] H):CALLE M xn [a0,a1] H Q :=
 calle qb6 (ks:=vc) (by kernel_rfl) (by rw [vd.2]; exact h)
def qf2:AFunc:=funcAt Tryd.prog qat
def qne:Kp:=⟨[0,2],false,[0]⟩
def qnl (k:Nat):Kp × ACode:=(qne,part qf2.body k)
theorem qvg (M:Mac) (c:Ctx):(∀ Q E D H,W M c (qnl 0) true Q E D H =
 B32 true ((Op.buildSlice yv 7 [(.str [])] [(0,1),(1,1),(2,1),(3,1),(4,1),(5,1),(6,1)]) [(.str [43]),(.str [45]),(.str [42]),(.str [38]),(.str [94]),(.str [60,60]),(.str [62,62])]) fun g o1 k1=>LK g (lk E 0) fun g t0=>B3 g ((Op.bin .sub) [t0,(.int .i64 4)]) fun g t5=>B3 g ((Op.indexSl 1) [(k1 H.next),t5]) fun g t6=>B3 g (Op.load1 [t6] (H.alloc o1)) fun g t7=>GO3 g Q .ret ((2,t7)::(2,(.str []))::E) D (H.alloc o1)):=by intro _ _ _ _; refine W_unf ?_; kernel_rfl
theorem qm9:(cProg Tryd.prog).func qat = some qf2 /\ qf2.results = [.tmp 2]:=xd (by kernel_rfl)
theorem qs8 {M:Mac} [MK M]:M.func qat = some qf2:=MK.at (by decide) qm9.1
theorem que {M:Mac} [MK M] {a0:AV} {H:AHeap} {Q:AEnd -> AHeap -> Prop} (h:W M ⟨none,qat⟩ (qnl 0) true (FIN3 M [.tmp 2] Q) [(0,a0)] [] H):CALLE M qat [a0] H Q :=
 calle qs8 (ks:=qne) (by kernel_rfl) (by rw [qm9.2]; exact h)
def qg7:AFunc:=funcAt Tryd.prog qbn
def qoy:Kp:=⟨[0,2,3,4],false,[0,2,18,30,42,49]⟩
def jp (k:Nat):Kp × ACode:=(qoy,part qg7.body k)
theorem qw1 (M:Mac) (c:Ctx):(∀ Q E D H,W M c (jp 0) true Q E D H =
 W M c (jp 2) true Q ((3,(.int .i64 0))::(2,(.int .i64 0))::E) D H) /\
 (∀ Q E D H,W M c (jp 2) true Q E D H =
  LK true (lk E 0) fun g t0=>B3 g ((Op.bin .eql) [t0,(.str [43])]) fun g t6=>IF3 g t6 (fun g=>GO3 g (BLK3 0 (SEQ3 (W M c (jp 49)) Q)) .ret ((3,(.int .i64 1))::(2,(.int .i64 4))::(4,t0)::E) D H) (fun g=>B3 g ((Op.bin .eql) [t0,(.str [45])]) fun g t8=>IF3 g t8 (fun g=>GO3 g (BLK3 0 (SEQ3 (W M c (jp 49)) Q)) .ret ((3,(.int .i64 1))::(2,(.int .i64 5))::(4,t0)::E) D H) (fun g=>W M c (jp 18) g (BLK3 0 (SEQ3 (W M c (jp 49)) Q)) ((4,t0)::E) D H))) /\
 (∀ Q E D H,W M c (jp 49) true Q E D H =
  GO3 true Q .ret ((3,(.int .i64 0))::(2,(.int .i64 0))::E) D H) /\
 (∀ Q E D H,W M c (jp 18) true Q E D H =
  LK true (lk E 4) fun g t4=>B3 g ((Op.bin .eql) [t4,(.str [94])]) fun g t10=>IF3 g t10 (fun g=>GO3 g Q .ret ((3,(.int .i64 1))::(2,(.int .i64 8))::E) D H) (fun g=>LK g (lk E 4) fun g t4_1=>B3 g ((Op.bin .eql) [t4_1,(.str [42])]) fun g t12=>IF3 g t12 (fun g=>GO3 g Q .ret ((3,(.int .i64 2))::(2,(.int .i64 6))::E) D H) (fun g=>W M c (jp 30) g Q E D H))) /\
 (∀ Q E D H,W M c (jp 30) true Q E D H =
  LK true (lk E 4) fun g t4=>B3 g ((Op.bin .eql) [t4,(.str [38])]) fun g t14=>IF3 g t14 (fun g=>GO3 g Q .ret ((3,(.int .i64 2))::(2,(.int .i64 7))::E) D H) (fun g=>LK g (lk E 4) fun g t4_1=>B3 g ((Op.bin .eql) [t4_1,(.str [60,60])]) fun g t16=>IF3 g t16 (fun g=>GO3 g Q .ret ((3,(.int .i64 2))::(2,(.int .i64 9))::E) D H) (fun g=>W M c (jp 42) g Q E D H))) /\
 (∀ Q E D H,W M c (jp 42) true Q E D H =
  LK true (lk E 4) fun g t4=>B3 g ((Op.bin .eql) [t4,(.str [62,62])]) fun g t18=>IF3 g t18 (fun g=>GO3 g Q .ret ((3,(.int .i64 2))::(2,(.int .i64 10))::E) D H) (fun g=>GO3 g Q .normal E D H)):=by (repeat' apply And.intro)<;>(intro _ _ _ _; refine W_unf ?_; kernel_rfl)
theorem qqh:(cProg Tryd.prog).func qbn = some qg7 /\ qg7.results = [.tmp 2,.tmp 3]:=xd (by kernel_rfl)
theorem quw {M:Mac} [MK M]:M.func qbn = some qg7:=MK.at (by decide) qqh.1
theorem qv9 {M:Mac} [MK M] {a0:AV} {H:AHeap} {Q:AEnd -> AHeap -> Prop} (h:W M ⟨none,qbn⟩ (jp 0) true (FIN3 M [.tmp 2,.tmp 3] Q) [(0,a0)] [] H):CALLE M qbn [a0] H Q :=
 calle quw (ks:=qoy) (by kernel_rfl) (by rw [qqh.2]; exact h)
end
end Go.Am
namespace Go.Am
noncomputable section
open Go.Proofs Go.Proofs.YtbimikjajohflaaDoor
end
end Go.Am
namespace Go.Am
abbrev qa2:Nat:=22
abbrev jr:Nat:=26
abbrev j8:Nat:=53
abbrev qbv:Nat:=50
abbrev jt:Nat:=87
abbrev ze:Nat:=119
abbrev xp:Nat:=54
abbrev yg:Nat:=84
abbrev yy:Nat:=86
abbrev qbe:Nat:=52
abbrev xl:Nat:=56
abbrev kc:Nat:=85
abbrev zf:Nat:=51
abbrev T__21:Nat:=39
abbrev zi:Nat:=42
abbrev zp:Nat:=103
abbrev xx:Nat:=129
abbrev ji:Nat:=100
abbrev qbj:Nat:=38
noncomputable section
open Go.Proofs Go.Proofs.YtbimikjajohflaaDoor
def qjg:AFunc:=funcAt Tryd.prog qa2
def qq5:Kp:=⟨[0,1,2,3,6,8,9,13],false,[0]⟩
def qrv (k:Nat):Kp × ACode:=(qq5,part qjg.body k)
theorem qrd (M:Mac) (c:Ctx):(∀ Q E D H,W M c (qrv 0) true Q E D H =
 LK true (lk E 2) fun g t2=>A3 g T__21 (AV.cells t2) H fun g t6 H1=>A3 g zi [.nils,(.int .u64 0),(.int .u64 0),(.int .u64 0),(.int .u64 0),(.int .u64 0),(.int .u64 0),(.int .u64 0),(.int .u64 0),(.int .i64 0),(.int .i64 0),(.int .i64 0),(.int .i64 0)] H1 fun g t8 H2=>LK g (lk E 0) fun g t0=>B3 g (Op.lenSl [t0]) fun g t12=>B3 g ((Op.bin .sub) [t12,(.int .i64 1)]) fun g t13=>LK g (lk E 1) fun g t1=>B3 g ((Op.loadN 8) [t6] H2) fun g t15=>LK g (lk E 3) fun g t3=>C3 M g (.func jr) [t0,t13,t1,t15,t3] H2 fun g t17 H3=>B3 g ((Op.extract 0) [t17]) fun g t18=>B3 g ((Op.extract 1) [t17]) fun g t19=>B32 g ((Op.store 13) [t8,t18] H3) fun g u H4=>GO3 g Q .ret ((9,t19)::(13,t13)::(9,(.int .i64 0))::(8,t8)::(6,t6)::E) D H4):=by intro _ _ _ _; refine W_unf ?_; kernel_rfl
theorem qrp:(cProg Tryd.prog).func qa2 = some qjg /\ qjg.results = [.cellN 13 8,.tmp 9]:=xd (by kernel_rfl)
theorem qv7 {M:Mac} [MK M]:M.func qa2 = some qjg:=MK.at (by decide) qrp.1
theorem qyt {M:Mac} [MK M] {a0 a1 a2 a3:AV} {H:AHeap} {Q:AEnd -> AHeap -> Prop} (h:W M ⟨none,qa2⟩ (qrv 0) true (FIN3 M [.cellN 13 8,.tmp 9] Q) [(0,a0),(1,a1),(2,a2),(3,a3)] [] H):CALLE M qa2 [a0,a1,a2,a3] H Q :=
 calle qv7 (ks:=qq5) (by kernel_rfl) (by rw [qrp.2]; exact h)
def qhk:AFunc:=funcAt Tryd.prog jr
def qp5:Kp:=⟨[0,1,2,3,4,6,8,10,11,12,13],false,[0,2,10]⟩
def qap (k:Nat):Kp × ACode:=(qp5,part qhk.body k)
theorem qj9 (M:Mac) (c:Ctx):(∀ Q E D H,W M c (qap 0) true Q E D H =
 LK true (lk E 1) fun g t1=>A3 g T_int (AV.cells t1) H fun g t6 H1=>LK g (lk E 3) fun g t3=>A3 g T__21 (AV.cells t3) H1 fun g t8 H2=>A3 g zi [.nils,(.int .u64 0),(.int .u64 0),(.int .u64 0),(.int .u64 0),(.int .u64 0),(.int .u64 0),(.int .u64 0),(.int .u64 0),(.int .i64 0),(.int .i64 0),(.int .i64 0),(.int .i64 0)] H2 fun g t10 H3=>W M c (qap 2) g Q ((11,(.int .i64 0))::(10,t10)::(8,t8)::(6,t6)::E) D H3) /\
 (∀ Q E D H,W M c (qap 2) true Q E D H =
  LK true (lk E 0) fun g t0=>LK g (lk E 2) fun g t2=>LK g (lk E 4) fun g t4=>C3 M g (.func qbv) [t0,t2,t4] H fun g t16 H1=>B3 g ((Op.un .not) [t16]) fun g t17=>JN (fun (k:Bool -> AV -> AV -> AHeap -> Prop)=>B3 g (wantV false (some t17)) fun g w=>IG3 g w (fun g=>LK g (lk E 6) fun g t6=>B3 g (Op.load1 [t6] H1) fun g t19=>B3 g ((Op.bin .lss) [t19,(.int .i64 0)]) fun g t20=>k g t20 t19 H1) (fun g=>k g uu uu H1)) (fun g t20_1 t19_1 H2=>B3 g (Op.pick [t17,(.bool true),t20_1]) fun g t21=>JN (fun (k:Bool -> AV -> AV -> AV -> AV -> AHeap -> Prop)=>B3 g (wantV false (some t21)) fun g w=>IG3 g w (fun g=>LK g (lk E 6) fun g t6_1=>B3 g (Op.load1 [t6_1] H2) fun g t23=>B3 g (Op.lenSl [t0]) fun g t25=>B3 g ((Op.bin .geq) [t23,t25]) fun g t26=>k g t26 t25 t0 t23 H2) (fun g=>k g uu uu uu uu H2)) (fun g t26_1 t25_1 t24_1 t23_1 H3=>B3 g (Op.pick [t21,(.bool true),t26_1]) fun g t27=>JN (fun (k:Bool -> AV -> AV -> AV -> AV -> AV -> AV -> AHeap -> Prop)=>B3 g (wantV false (some t27)) fun g w=>IG3 g w (fun g=>LK g (lk E 6) fun g t6_2=>B3 g (Op.load1 [t6_2] H3) fun g t30=>B3 g ((Op.indexSl 3) [t0,t30]) fun g t31=>B3 g ((Op.fieldAddr 0) [t31]) fun g t32=>B3 g (Op.load1 [t32] H3) fun g t33=>B3 g ((Op.bin .lss) [t33,(.int .i64 14)]) fun g t34=>k g t34 t33 t32 t31 t30 t0 H3) (fun g=>k g uu uu uu uu uu uu H3)) (fun g t34_1 t33_1 t32_1 t31_1 t30_1 t29_1 H4=>B3 g (Op.pick [t27,(.bool true),t34_1]) fun g t35=>IF3 g t35 (fun g=>B3 g ((Op.build [.nils,(.int .u64 0),(.int .u64 0),(.int .u64 0),(.int .u64 0),(.int .u64 0),(.int .u64 0),(.int .u64 0),(.int .u64 0),(.int .i64 0),(.int .i64 0),(.int .i64 0),(.int .i64 0)] []) []) fun g t36=>LK g (lk E 10) fun g t10=>B32 g ((Op.store 13) [t10,t36] H4) fun g u H5=>GO3 g (SEQ3 (W M c (qap 10)) Q) .ret ((11,(.int .i64 2))::(13,t0)::E) D H5) (fun g=>GO3 g (SEQ3 (W M c (qap 10)) Q) .normal ((13,t0)::E) D H4))))) /\
 (∀ Q E D H,W M c (qap 10) true Q E D H =
  LK true (lk E 0) fun g t0=>LK g (lk E 2) fun g t2=>LK g (lk E 8) fun g t8=>B3 g ((Op.loadN 8) [t8] H) fun g t40=>LK g (lk E 4) fun g t4=>C3 M g (.func zf) [t2] H fun g t39 H1=>CK3 g ((Op.loadN 8) [t8] H1) (some t40) fun g=>B3 g ((Op.build [.nils,(.int .u64 0),(.int .u64 0),(.int .u64 0),(.int .u64 0),(.int .u64 0),(.int .u64 0),(.int .u64 0),(.int .u64 0),(.int .i64 0),(.int .i64 0),(.int .i64 0),(.int .i64 0)] [(0,1),(1,8),(10,1)]) [t39,t40,t4]) fun g t42=>B3 g ((Op.build [.nils,.nils,(.int .u64 0),(.int .u64 0),(.int .u64 0),(.int .u64 0),(.int .u64 0),(.int .u64 0),(.int .u64 0),(.int .u64 0),(.int .i64 0),(.int .i64 0),(.int .i64 0),(.int .i64 0),(.bool false),(.bool false)] [(0,1),(1,13)]) [t0,t42]) fun g t43=>A3 g zp (AV.cells t43) H1 fun g t44 H2=>A3 g ji [.nilp] H2 fun g t12 H3=>B32 g ((Op.store 1) [t12,t44] H3) fun g u H4=>B3 g (Op.load1 [t12] H4) fun g t45=>B3 g (Op.load1 [t12] H4) fun g t46=>LK g (lk E 6) fun g t6=>B3 g ((Op.mkFunc j8 0) [t12,t6]) fun g t47=>C3 M g (.func qbe) [t46,t47] H4 fun g t48 H5=>CK3 g (Op.load1 [t12] H5) (some t45) fun g=>B3 g (Op.nilCheck [t45]) fun g t49=>B3 g ((Op.fieldAddr 1) [t49]) fun g t50=>B3 g ((Op.fieldAddr 12) [t50]) fun g t51=>B32 g ((Op.store 1) [t51,t48] H5) fun g u_1 H6=>B3 g (Op.load1 [t12] H6) fun g t52=>B3 g (Op.nilCheck [t52]) fun g t53=>B3 g ((Op.fieldAddr 1) [t53]) fun g t54=>B3 g ((Op.loadN 13) [t54] H6) fun g t55=>LK g (lk E 10) fun g t10=>B32 g ((Op.store 13) [t10,t55] H6) fun g u_2 H7=>GO3 g Q .ret ((11,(.int .i64 0))::(12,t12)::E) D H7):=by (repeat' apply And.intro)<;>(intro _ _ _ _; refine W_unf ?_; kernel_rfl)
theorem qp3:(cProg Tryd.prog).func jr = some qhk /\ qhk.results = [.cellN 13 10,.tmp 11]:=xd (by kernel_rfl)
theorem qt7 {M:Mac} [MK M]:M.func jr = some qhk:=MK.at (by decide) qp3.1
theorem qxa {M:Mac} [MK M] {a0 a1 a2 a3 a4:AV} {H:AHeap} {Q:AEnd -> AHeap -> Prop} (h:W M ⟨none,jr⟩ (qap 0) true (FIN3 M [.cellN 13 10,.tmp 11] Q) [(0,a0),(1,a1),(2,a2),(3,a3),(4,a4)] [] H):CALLE M jr [a0,a1,a2,a3,a4] H Q :=
 calle qt7 (ks:=qp5) (by kernel_rfl) (by rw [qp3.2]; exact h)
def qjh:AFunc:=funcAt Tryd.prog qbv
def qr1:Kp:=⟨[0,1,2,6,8],false,[0,2,10]⟩
def qcz (k:Nat):Kp × ACode:=(qr1,part qjh.body k)
theorem qyv (M:Mac) (c:Ctx):(∀ Q E D H,W M c (qcz 0) true Q E D H =
 W M c (qcz 2) true Q ((6,(.bool false))::E) D H) /\
 (∀ Q E D H,W M c (qcz 2) true Q E D H =
  LK true (lk E 1) fun g t1=>B3 g (Op.lenSl [t1]) fun g t10=>B3 g ((Op.bin .gtr) [t10,(.int .i64 4096)]) fun g t11=>JN (fun (k:Bool -> AV -> AV -> AHeap -> Prop)=>B3 g (wantV false (some t11)) fun g w=>IG3 g w (fun g=>LK g (lk E 2) fun g t2=>B3 g ((Op.bin .lss) [t2,(.int .i64 0)]) fun g t14=>k g t14 t2 H) (fun g=>k g uu uu H)) (fun g t14_1 t13_1 H1=>B3 g (Op.pick [t11,(.bool true),t14_1]) fun g t15=>JN (fun (k:Bool -> AV -> AV -> AHeap -> Prop)=>B3 g (wantV false (some t15)) fun g w=>IG3 g w (fun g=>LK g (lk E 2) fun g t2_1=>B3 g ((Op.bin .gtr) [t2_1,(.int .i64 1048576)]) fun g t18=>k g t18 t2_1 H1) (fun g=>k g uu uu H1)) (fun g t18_1 t17_1 H2=>B3 g (Op.pick [t15,(.bool true),t18_1]) fun g t19=>IF3 g t19 (fun g=>GO3 g (SEQ3 (W M c (qcz 10)) Q) .ret ((6,(.bool false))::E) D H2) (fun g=>GO3 g (SEQ3 (W M c (qcz 10)) Q) .normal E D H2)))) /\
 (∀ Q E D H,W M c (qcz 10) true Q E D H =
  LK true (lk E 0) fun g t0=>C3 M g (.func kj) [t0] H fun g t22 H1=>B3 g ((Op.extract 0) [t22]) fun g t23=>B3 g ((Op.extract 1) [t22]) fun g t24=>B3 g ((Op.bin .eql) [t24,(.int .i64 0)]) fun g t26=>GO3 g Q .ret ((6,t26)::(8,t24)::E) D H1):=by (repeat' apply And.intro)<;>(intro _ _ _ _; refine W_unf ?_; kernel_rfl)
theorem qrx:(cProg Tryd.prog).func qbv = some qjh /\ qjh.results = [.tmp 6]:=xd (by kernel_rfl)
theorem qwy {M:Mac} [MK M]:M.func qbv = some qjh:=MK.at (by decide) qrx.1
theorem qz2 {M:Mac} [MK M] {a0 a1 a2:AV} {H:AHeap} {Q:AEnd -> AHeap -> Prop} (h:W M ⟨none,qbv⟩ (qcz 0) true (FIN3 M [.tmp 6] Q) [(0,a0),(1,a1),(2,a2)] [] H):CALLE M qbv [a0,a1,a2] H Q :=
 calle qwy (ks:=qr1) (by kernel_rfl) (by rw [qrx.2]; exact h)
def yx:AFunc:=funcAt Tryd.prog zf
def qc9:Kp:=⟨[0,2],false,[0,2,10]⟩
def zr (k:Nat):Kp × ACode:=(qc9,part yx.body k)
theorem qar (M:Mac) (c:Ctx):(∀ Q E D H,W M c (zr 0) true Q E D H =
 W M c (zr 2) true Q ((2,.nils)::E) D H) /\
 (∀ Q E D H,W M c (zr 2) true Q E D H =
  LK true (lk E 0) fun g t0=>B3 g ((Op.eq .slice false) [t0,.nils] H) fun g t4=>IF3 g t4 (fun g=>GO3 g (SEQ3 (W M c (zr 10)) Q) .ret ((2,.nils)::E) D H) (fun g=>GO3 g (SEQ3 (W M c (zr 10)) Q) .normal E D H)) /\
 (∀ Q E D H,W M c (zr 10) true Q E D H =
  B32 true ((Op.buildSlice qbj 0 [(.int .u64 0)] []) []) fun g o1 k1=>LK g (lk E 0) fun g t0=>B32 g ((Op.append qbj 1 8) [(k1 H.next),t0] (H.alloc o1)) fun g t7 H2=>GO3 g Q .ret ((2,t7)::E) D H2):=by (repeat' apply And.intro)<;>(intro _ _ _ _; refine W_unf ?_; kernel_rfl)
theorem qdc:(cProg Tryd.prog).func zf = some yx /\ yx.results = [.tmp 2]:=xd (by kernel_rfl)
theorem qh4 {M:Mac} [MK M]:M.func zf = some yx:=MK.at (by decide) qdc.1
theorem qh6 {M:Mac} [MK M] {a0:AV} {H:AHeap} {Q:AEnd -> AHeap -> Prop} (h:W M ⟨none,zf⟩ (zr 0) true (FIN3 M [.tmp 2] Q) [(0,a0)] [] H):CALLE M zf [a0] H Q :=
 calle qh4 (ks:=qc9) (by kernel_rfl) (by rw [qdc.2]; exact h)
def qeb:AFunc:=funcAt Tryd.prog j8
def qli:Kp:=⟨[0,1],true,[0]⟩
def qlc (k:Nat):Kp × ACode:=(qli,part qeb.body k)
theorem qs3 (M:Mac) (c:Ctx):(∀ Q E D H,W M c (qlc 0) true Q E D H =
 LK true (lk E 0) fun g t0=>B3 g (Op.load1 [t0] H) fun g t2=>LK g (lk E 1) fun g t1=>B3 g (Op.load1 [t1] H) fun g t3=>P3 M g (PX (some []) [3,2] Q E D) (.func xp) [t2,t3] H fun g t4 H1=>GO3 g Q .normal E D H1):=by intro _ _ _ _; refine W_unf ?_; kernel_rfl
theorem qkv:(cProg Tryd.prog).func j8 = some qeb /\ qeb.results = []:=xd (by kernel_rfl)
theorem qqk {M:Mac} [MK M]:M.func j8 = some qeb:=MK.at (by decide) qkv.1
theorem qtd {M:Mac} [MK M] {a0 a1:AV} {H:AHeap} {Q:AEnd -> AHeap -> Prop} (h:W M ⟨none,j8⟩ (qlc 0) true (FIN3 M [] Q) [(0,a0),(1,a1)] [] H):CALLE M j8 [a0,a1] H Q :=
 calle qqk (ks:=qli) (by kernel_rfl) (by rw [qkv.2]; exact h)
def qbl:AFunc:=funcAt Tryd.prog xl
def qhu:Kp:=⟨[0,1,4,5,6,7,16,61],true,[0,4,20,27,29,46,52,58,64,70,76,81,82,83,87,88,92,93,97,98,102,103,107,108]⟩
def qc (k:Nat):Kp × ACode:=(qhu,part qbl.body k)
theorem xh (M:Mac) (c:Ctx):(∀ Q E D H,W M c (qc 0) true Q E D H =
 LK true (lk E 0) fun g t0=>B3 g (Op.nilCheck [t0]) fun g t9=>B3 g ((Op.fieldAddr 0) [t9]) fun g t10=>B3 g (Op.load1 [t10] H) fun g t11=>LK g (lk E 1) fun g t1=>B3 g ((Op.indexSl 3) [t11,t1]) fun g t13=>B3 g ((Op.loadN 3) [t13] H) fun g t14=>A3 g qk [(.int .i64 0),(.int .u64 0),.nils] H fun g t5 H1=>B32 g ((Op.store 3) [t5,t14] H1) fun g u H2=>W M c (qc 4) g Q ((5,t5)::(4,(.int .u64 0))::E) D H2) /\
 (∀ Q E D H,W M c (qc 4) true Q E D H =
  LK true (lk E 5) fun g t5=>B3 g ((Op.fieldAddr 0) [t5]) fun g t15=>B3 g (Op.load1 [t15] H) fun g t16=>B3 g ((Op.bin .eql) [t16,(.int .i64 1)]) fun g t18=>IF3 g t18 (fun g=>LK g (lk E 5) fun g t5_1=>B3 g ((Op.fieldAddr 1) [t5_1]) fun g t19=>B3 g (Op.load1 [t19] H) fun g t20=>GO3 g (BLK3 0 (SEQ3 (W M c (qc 27)) Q)) .ret ((4,t20)::(16,t16)::E) D H) (fun g=>B3 g ((Op.bin .eql) [t16,(.int .i64 2)]) fun g t22=>IF3 g t22 (fun g=>LK g (lk E 0) fun g t0=>LK g (lk E 5) fun g t5_1=>B3 g ((Op.fieldAddr 1) [t5_1]) fun g t24=>B3 g (Op.load1 [t24] H) fun g t25=>B3 g (Op.nilCheck [t0]) fun g t26=>B3 g ((Op.fieldAddr 1) [t26]) fun g t27=>B3 g ((Op.fieldAddr 1) [t27]) fun g t28=>B3 g ((Op.indexArr 8 1) [t28,t25]) fun g t29=>B3 g (Op.load1 [t29] H) fun g t30=>GO3 g (BLK3 0 (SEQ3 (W M c (qc 27)) Q)) .ret ((4,t30)::(16,t16)::E) D H) (fun g=>W M c (qc 20) g (BLK3 0 (SEQ3 (W M c (qc 27)) Q)) ((16,t16)::E) D H))) /\
 (∀ Q E D H,W M c (qc 27) true Q E D H =
  LK true (lk E 0) fun g t0=>LK g (lk E 5) fun g t5=>B3 g ((Op.fieldAddr 2) [t5]) fun g t49=>B3 g (Op.load1 [t49] H) fun g t50=>B3 g ((Op.indexSl 1) [t50,(.int .i64 0)]) fun g t51=>B3 g (Op.load1 [t51] H) fun g t52=>B3 g ((Op.fieldAddr 2) [t5]) fun g t55=>B3 g (Op.load1 [t55] H) fun g t56=>B3 g ((Op.indexSl 1) [t56,(.int .i64 1)]) fun g t57=>B3 g (Op.load1 [t57] H) fun g t58=>P3 M g (PX (some [48,49,50,51,52,53,54,55,56,57,58,59,6,7]) [58,57,56,55,54,52,51,50,49,48] Q E D) (.func xl) [t0,t52] H fun g t53 H1=>CK3 g (Op.load1 [t55] H1) (some t56) fun g=>CK3 g (Op.load1 [t57] H1) (some t58) fun g=>P3 M g (PX (some [48,49,50,51,52,53,54,55,56,57,58,59,6,7]) [53,58,57,56,55,54,52,51,50,49,48] Q E D) (.func xl) [t0,t58] H1 fun g t59 H2=>W M c (qc 29) g Q ((7,t59)::(6,t53)::E) D H2) /\
 (∀ Q E D H,W M c (qc 20) true Q E D H =
  LK true (lk E 16) fun g t16=>B3 g ((Op.bin .eql) [t16,(.int .i64 3)]) fun g t32=>IF3 g t32 (fun g=>LK g (lk E 0) fun g t0=>B3 g (Op.nilCheck [t0]) fun g t34=>B3 g ((Op.fieldAddr 1) [t34]) fun g t35=>B3 g ((Op.fieldAddr 0) [t35]) fun g t36=>B3 g (Op.load1 [t36] H) fun g t37=>LK g (lk E 5) fun g t5=>B3 g ((Op.fieldAddr 2) [t5]) fun g t40=>B3 g (Op.load1 [t40] H) fun g t41=>B3 g ((Op.indexSl 1) [t41,(.int .i64 0)]) fun g t42=>B3 g (Op.load1 [t42] H) fun g t43=>P3 M g (PX (some [33,34,35,36,37,38,39,40,41,42,43,44,45,46,47,4]) [43,42,41,40,39,38,37,36,35,34,33] Q E D) (.func xl) [t0,t43] H fun g t44 H1=>CK3 g (Op.load1 [t36] H1) (some t37) fun g=>P3 M g (PX (some [33,34,35,36,37,38,39,40,41,42,43,44,45,46,47,4]) [44,43,42,41,40,39,38,37,36,35,34,33] Q E D) (.func kc) [t0,t44] H1 fun g t45 H2=>CK3 g (Op.load1 [t36] H2) (some t37) fun g=>B3 g ((Op.indexSl 1) [t37,t45]) fun g t46=>B3 g (Op.load1 [t46] H2) fun g t47=>GO3 g Q .ret ((4,t47)::E) D H2) (fun g=>GO3 g Q .normal E D H)) /\
 (∀ Q E D H,W M c (qc 29) true Q E D H =
  LK true (lk E 5) fun g t5=>B3 g ((Op.fieldAddr 0) [t5]) fun g t60=>B3 g (Op.load1 [t60] H) fun g t61=>W M c (qc 46) g (SEQ3 (W M c (qc 81)) (BLK3 2 (SEQ3 (W M c (qc 82)) (BLK3 3 (SEQ3 (W M c (qc 83)) (BLK3 4 (SEQ3 (W M c (qc 88)) (BLK3 5 (SEQ3 (W M c (qc 93)) (BLK3 6 (SEQ3 (W M c (qc 98)) (BLK3 7 (SEQ3 (W M c (qc 103)) (BLK3 1 (SEQ3 (W M c (qc 108)) Q))))))))))))))) ((61,t61)::E) D H) /\
 (∀ Q E D H,W M c (qc 108) true Q E D H =
  LK true (lk E 6) fun g t6=>LK g (lk E 7) fun g t7=>B3 g ((Op.bin .rem) [t7,(.int .u64 64)]) fun g t94=>B3 g ((Op.bin .shr) [t6,t94]) fun g t95=>GO3 g Q .ret ((4,t95)::E) D H) /\
 (∀ Q E D H,W M c (qc 103) true Q E D H =
  LK true (lk E 6) fun g t6=>LK g (lk E 7) fun g t7=>B3 g ((Op.bin .rem) [t7,(.int .u64 64)]) fun g t90=>B3 g ((Op.bin .shl) [t6,t90]) fun g t91=>GO3 g (SEQ3 (W M c (qc 107)) Q) .ret ((4,t91)::E) D H) /\
 (∀ Q E D H,W M c (qc 98) true Q E D H =
  LK true (lk E 6) fun g t6=>LK g (lk E 7) fun g t7=>B3 g ((Op.bin .xor) [t6,t7]) fun g t87=>GO3 g (SEQ3 (W M c (qc 102)) Q) .ret ((4,t87)::E) D H) /\
 (∀ Q E D H,W M c (qc 93) true Q E D H =
  LK true (lk E 6) fun g t6=>LK g (lk E 7) fun g t7=>B3 g ((Op.bin .and) [t6,t7]) fun g t84=>GO3 g (SEQ3 (W M c (qc 97)) Q) .ret ((4,t84)::E) D H) /\
 (∀ Q E D H,W M c (qc 88) true Q E D H =
  LK true (lk E 6) fun g t6=>LK g (lk E 7) fun g t7=>B3 g ((Op.bin .mul) [t6,t7]) fun g t81=>GO3 g (SEQ3 (W M c (qc 92)) Q) .ret ((4,t81)::E) D H) /\
 (∀ Q E D H,W M c (qc 83) true Q E D H =
  LK true (lk E 6) fun g t6=>LK g (lk E 7) fun g t7=>B3 g ((Op.bin .add) [t6,t7]) fun g t78=>GO3 g (SEQ3 (W M c (qc 87)) Q) .ret ((4,t78)::E) D H) /\
 (∀ Q E D H,W M c (qc 82) true Q E D H =
  LK true (lk E 7) fun g t7=>B3 g ((Op.un .neg) [t7]) fun g t75=>GO3 g Q .normal ((7,t75)::E) D H) /\
 (∀ Q E D H,W M c (qc 81) true Q E D H =
  GO3 true Q (.exit 1) E D H) /\
 (∀ Q E D H,W M c (qc 46) true Q E D H =
  LK true (lk E 61) fun g t61=>B3 g ((Op.bin .eql) [t61,(.int .i64 5)]) fun g t63=>IF3 g t63 (fun g=>GO3 g (SEQ3 (W M c (qc 52)) Q) (.exit 2) E D H) (fun g=>GO3 g (SEQ3 (W M c (qc 52)) Q) .normal E D H)) /\
 (∀ Q E D H,W M c (qc 107) true Q E D H =
  GO3 true Q (.exit 1) E D H) /\
 (∀ Q E D H,W M c (qc 102) true Q E D H =
  GO3 true Q (.exit 1) E D H) /\
 (∀ Q E D H,W M c (qc 97) true Q E D H =
  GO3 true Q (.exit 1) E D H) /\
 (∀ Q E D H,W M c (qc 92) true Q E D H =
  GO3 true Q (.exit 1) E D H) /\
 (∀ Q E D H,W M c (qc 87) true Q E D H =
  GO3 true Q (.exit 1) E D H) /\
 (∀ Q E D H,W M c (qc 52) true Q E D H =
  LK true (lk E 61) fun g t61=>B3 g ((Op.bin .eql) [t61,(.int .i64 4)]) fun g t65=>IF3 g t65 (fun g=>GO3 g (SEQ3 (W M c (qc 58)) Q) (.exit 3) E D H) (fun g=>GO3 g (SEQ3 (W M c (qc 58)) Q) .normal E D H)) /\
 (∀ Q E D H,W M c (qc 58) true Q E D H =
  LK true (lk E 61) fun g t61=>B3 g ((Op.bin .eql) [t61,(.int .i64 6)]) fun g t67=>IF3 g t67 (fun g=>GO3 g (SEQ3 (W M c (qc 64)) Q) (.exit 4) E D H) (fun g=>GO3 g (SEQ3 (W M c (qc 64)) Q) .normal E D H)) /\
 (∀ Q E D H,W M c (qc 64) true Q E D H =
  LK true (lk E 61) fun g t61=>B3 g ((Op.bin .eql) [t61,(.int .i64 7)]) fun g t69=>IF3 g t69 (fun g=>GO3 g (SEQ3 (W M c (qc 70)) Q) (.exit 5) E D H) (fun g=>GO3 g (SEQ3 (W M c (qc 70)) Q) .normal E D H)) /\
 (∀ Q E D H,W M c (qc 70) true Q E D H =
  LK true (lk E 61) fun g t61=>B3 g ((Op.bin .eql) [t61,(.int .i64 8)]) fun g t71=>IF3 g t71 (fun g=>GO3 g (SEQ3 (W M c (qc 76)) Q) (.exit 6) E D H) (fun g=>GO3 g (SEQ3 (W M c (qc 76)) Q) .normal E D H)) /\
 (∀ Q E D H,W M c (qc 76) true Q E D H =
  LK true (lk E 61) fun g t61=>B3 g ((Op.bin .eql) [t61,(.int .i64 9)]) fun g t73=>IF3 g t73 (fun g=>GO3 g Q (.exit 7) E D H) (fun g=>GO3 g Q .normal E D H)):=by (repeat' apply And.intro)<;>(intro _ _ _ _; refine W_unf ?_; kernel_rfl)
theorem qhs:(cProg Tryd.prog).func xl = some qbl /\ qbl.results = [.tmp 4]:=xd (by kernel_rfl)
theorem qmx {M:Mac} [MK M]:M.func xl = some qbl:=MK.at (by decide) qhs.1
theorem qbh {M:Mac} [MK M] {a0 a1:AV} {H:AHeap} {Q:AEnd -> AHeap -> Prop} (h:W M ⟨none,xl⟩ (qc 0) true (FIN3 M [.tmp 4] Q) [(0,a0),(1,a1)] [] H):CALLE M xl [a0,a1] H Q :=
 calle qmx (ks:=qhu) (by kernel_rfl) (by rw [qhs.2]; exact h)
def qd4:AFunc:=funcAt Tryd.prog xp
def qll:Kp:=⟨[0,1,4,6,7,8,27,31,32,33],true,[0,2,8,14,15,17,21,27,31,37,38,43,59,64,69,75,78,84,89,92,98]⟩
def qf (k:Nat):Kp × ACode:=(qll,part qd4.body k)
theorem qo (M:Mac) (c:Ctx):(∀ Q E D H,W M c (qf 0) true Q E D H =
 LK true (lk E 0) fun g t0=>B3 g (Op.nilCheck [t0]) fun g t10=>B3 g ((Op.fieldAddr 0) [t10]) fun g t11=>B3 g (Op.load1 [t11] H) fun g t12=>LK g (lk E 1) fun g t1=>B3 g ((Op.indexSl 3) [t12,t1]) fun g t14=>B3 g ((Op.loadN 3) [t14] H) fun g t15=>A3 g qk [(.int .i64 0),(.int .u64 0),.nils] H fun g t4 H1=>B32 g ((Op.store 3) [t4,t15] H1) fun g u H2=>W M c (qf 2) g Q ((4,t4)::E) D H2) /\
 (∀ Q E D H,W M c (qf 2) true Q E D H =
  LK true (lk E 4) fun g t4=>B3 g ((Op.fieldAddr 0) [t4]) fun g t16=>B3 g (Op.load1 [t16] H) fun g t17=>B3 g ((Op.bin .neq) [t17,(.int .i64 20)]) fun g t18=>JN (fun (k:Bool -> AV -> AV -> AV -> AHeap -> Prop)=>B3 g (wantV true (some t18)) fun g w=>IG3 g w (fun g=>B3 g ((Op.fieldAddr 0) [t4]) fun g t20=>B3 g (Op.load1 [t20] H) fun g t21=>B3 g ((Op.bin .neq) [t21,(.int .i64 17)]) fun g t22=>k g t22 t21 t20 H) (fun g=>k g uu uu uu H)) (fun g t22_1 t21_1 t20_1 H1=>B3 g (Op.pick [t18,t22_1,(.bool false)]) fun g t23=>IF3 g t23 (fun g=>LK g (lk E 0) fun g t0=>P3 M g (PX (some []) [24] (SEQ3 (W M c (qf 8)) Q) E D) (.func yg) [t0] H1 fun g t25 H2=>GO3 g (SEQ3 (W M c (qf 8)) Q) .normal E D H2) (fun g=>GO3 g (SEQ3 (W M c (qf 8)) Q) .normal E D H1))) /\
 (∀ Q E D H,W M c (qf 8) true Q E D H =
  LK true (lk E 4) fun g t4=>B3 g ((Op.fieldAddr 0) [t4]) fun g t26=>B3 g (Op.load1 [t26] H) fun g t27=>B3 g ((Op.bin .eql) [t27,(.int .i64 20)]) fun g t29=>IF3 g t29 (fun g=>W M c (qf 14) g (BLK3 0 Q) ((27,t27)::E) D H) (fun g=>B3 g ((Op.bin .eql) [t27,(.int .i64 14)]) fun g t46=>IF3 g t46 (fun g=>LK g (lk E 0) fun g t0=>LK g (lk E 4) fun g t4_1=>B3 g ((Op.fieldAddr 1) [t4_1]) fun g t48=>B3 g (Op.load1 [t48] H) fun g t49=>B3 g ((Op.fieldAddr 2) [t4_1]) fun g t51=>B3 g (Op.load1 [t51] H) fun g t52=>B3 g ((Op.indexSl 1) [t52,(.int .i64 0)]) fun g t53=>B3 g (Op.load1 [t53] H) fun g t54=>B3 g (Op.nilCheck [t0]) fun g t56=>B3 g ((Op.fieldAddr 1) [t56]) fun g t57=>B3 g ((Op.fieldAddr 1) [t57]) fun g t58=>P3 M g (PX (some [47,48,49,50,51,52,53,54,55,56,57,58,59]) [58,57,56,54,53,52,51,50,49,48,47] (BLK3 0 Q) ((27,t27)::E) D) (.func xl) [t0,t54] H fun g t55 H1=>CK3 g (Op.load1 [t48] H1) (some t49) fun g=>B3 g ((Op.indexArr 8 1) [t58,t49]) fun g t59=>B32 g ((Op.store 1) [t59,t55] H1) fun g u H2=>GO3 g (BLK3 0 Q) .normal ((27,t27)::E) D H2) (fun g=>W M c (qf 43) g (BLK3 0 Q) ((27,t27)::E) D H))) /\
 (∀ Q E D H,W M c (qf 14) true Q E D H =
  W M c (qf 15) true (SCP3 (qf 15).2 Q) E D H) /\
 (∀ Q E D H,W M c (qf 43) true Q E D H =
  LK true (lk E 27) fun g t27=>B3 g ((Op.bin .eql) [t27,(.int .i64 15)]) fun g t61=>IF3 g t61 (fun g=>LK g (lk E 0) fun g t0=>LK g (lk E 4) fun g t4=>B3 g ((Op.fieldAddr 2) [t4]) fun g t63=>B3 g (Op.load1 [t63] H) fun g t64=>B3 g ((Op.indexSl 1) [t64,(.int .i64 0)]) fun g t65=>B3 g (Op.load1 [t65] H) fun g t66=>P3 M g (PX (some []) [66,65,64,63,62] Q E D) (.func xl) [t0,t66] H fun g t67 H1=>LK g (lk E 0) fun g t0_1=>LK g (lk E 4) fun g t4_1=>B3 g ((Op.fieldAddr 2) [t4_1]) fun g t69=>B3 g (Op.load1 [t69] H1) fun g t70=>B3 g ((Op.indexSl 1) [t70,(.int .i64 1)]) fun g t71=>B3 g (Op.load1 [t71] H1) fun g t72=>P3 M g (PX (some []) [72,71,70,69,68] Q ((7,t67)::E) D) (.func xl) [t0_1,t72] H1 fun g t73 H2=>LK g (lk E 0) fun g t0_2=>B3 g (Op.nilCheck [t0_2]) fun g t75=>B3 g ((Op.fieldAddr 1) [t75]) fun g t76=>B3 g ((Op.fieldAddr 0) [t76]) fun g t77=>B3 g (Op.load1 [t77] H2) fun g t78=>P3 M g (PX (some [74,75,76,77,78,79,80,81,82,83]) [82,80,79,78,77,76,75,74] Q ((8,t73)::(7,t67)::E) D) (.func kc) [t0_2,t67] H2 fun g t81 H3=>CK3 g (Op.load1 [t77] H3) (some t78) fun g=>B3 g ((Op.indexSl 1) [t78,t81]) fun g t83=>B32 g ((Op.store 1) [t83,t73] H3) fun g u H4=>GO3 g Q .normal ((8,t73)::(7,t67)::E) D H4) (fun g=>LK g (lk E 27) fun g t27_1=>B3 g ((Op.bin .eql) [t27_1,(.int .i64 16)]) fun g t85=>IF3 g t85 (fun g=>LK g (lk E 0) fun g t0=>LK g (lk E 4) fun g t4=>B3 g ((Op.fieldAddr 2) [t4]) fun g t88=>B3 g (Op.load1 [t88] H) fun g t89=>B3 g ((Op.indexSl 1) [t89,(.int .i64 0)]) fun g t90=>B3 g (Op.load1 [t90] H) fun g t91=>P3 M g (PX (some []) [91,90,89,88,87] (BLK3 3 Q) E D) (.func yy) [t0,t91] H fun g t92 H1=>IF3 g t92 (fun g=>LK g (lk E 0) fun g t0_1=>LK g (lk E 4) fun g t4_1=>B3 g ((Op.fieldAddr 2) [t4_1]) fun g t94=>B3 g (Op.load1 [t94] H1) fun g t95=>B3 g ((Op.indexSl 1) [t95,(.int .i64 1)]) fun g t96=>B3 g (Op.load1 [t96] H1) fun g t97=>P3 M g (PX (some []) [97,96,95,94,93] (BLK3 3 Q) E D) (.func xp) [t0_1,t97] H1 fun g t98 H2=>GO3 g (BLK3 3 Q) .normal E D H2) (fun g=>W M c (qf 59) g (BLK3 3 Q) E D H1)) (fun g=>W M c (qf 64) g Q E D H))) /\
 (∀ Q E D H,W M c (qf 15) true Q E D H =
  GO3 true (SEQ3 (W M c (qf 17)) Q) .normal E D H) /\
 (∀ Q E D H,W M c (qf 59) true Q E D H =
  LK true (lk E 4) fun g t4=>B3 g ((Op.fieldAddr 2) [t4]) fun g t100=>B3 g (Op.load1 [t100] H) fun g t101=>B3 g (Op.lenSl [t101]) fun g t102=>B3 g ((Op.bin .eql) [t102,(.int .i64 3)]) fun g t103=>IF3 g t103 (fun g=>LK g (lk E 0) fun g t0=>LK g (lk E 4) fun g t4_1=>B3 g ((Op.fieldAddr 2) [t4_1]) fun g t105=>B3 g (Op.load1 [t105] H) fun g t106=>B3 g ((Op.indexSl 1) [t106,(.int .i64 2)]) fun g t107=>B3 g (Op.load1 [t107] H) fun g t108=>P3 M g (PX (some []) [108,107,106,105,104] Q E D) (.func xp) [t0,t108] H fun g t109 H1=>GO3 g Q .normal E D H1) (fun g=>GO3 g Q .normal E D H)) /\
 (∀ Q E D H,W M c (qf 64) true Q E D H =
  LK true (lk E 27) fun g t27=>B3 g ((Op.bin .eql) [t27,(.int .i64 17)]) fun g t111=>IF3 g t111 (fun g=>LOOP3 (W M c (qf 69)) (BLK3 4 Q) E D H) (fun g=>LK g (lk E 27) fun g t27_1=>B3 g ((Op.bin .eql) [t27_1,(.int .i64 18)]) fun g t133=>IF3 g t133 (fun g=>LK g (lk E 0) fun g t0=>LK g (lk E 4) fun g t4=>B3 g ((Op.fieldAddr 2) [t4]) fun g t135=>B3 g (Op.load1 [t135] H) fun g t136=>B3 g ((Op.indexSl 1) [t136,(.int .i64 0)]) fun g t137=>B3 g (Op.load1 [t137] H) fun g t138=>P3 M g (PX (some []) [138,137,136,135,134] Q E D) (.func jt) [t0,t138] H fun g t139 H1=>GO3 g Q .normal E D H1) (fun g=>W M c (qf 89) g Q E D H))) /\
 (∀ Q E D H,W M c (qf 17) true Q E D H =
  LK true (lk E 4) fun g t4=>B3 g ((Op.fieldAddr 2) [t4]) fun g t30=>B3 g (Op.load1 [t30] H) fun g t31=>B3 g (Op.lenSl [t31]) fun g t32=>LOOP3 (W M c (qf 21)) (BLK3 1 Q) ((33,(.int .i64 0))::(32,t32)::(31,t31)::E) D H) /\
 (∀ Q E D H,W M c (qf 69) true Q E D H =
  LK true (lk E 0) fun g t0=>B3 g (Op.nilCheck [t0]) fun g t113=>B3 g ((Op.fieldAddr 15) [t113]) fun g t114=>B3 g (Op.load1 [t114] H) fun g t115=>B3 g ((Op.un .not) [t115]) fun g t116=>IF3 g t116 (fun g=>GO3 g (SEQ3 (W M c (qf 75)) Q) .normal E D H) (fun g=>GO3 g (SEQ3 (W M c (qf 75)) Q) (.exit 4) E D H)) /\
 (∀ Q E D H,W M c (qf 89) true Q E D H =
  LK true (lk E 27) fun g t27=>B3 g ((Op.bin .eql) [t27,(.int .i64 19)]) fun g t141=>IF3 g t141 (fun g=>W M c (qf 92) g Q E D H) (fun g=>GO3 g Q .normal E D H)) /\
 (∀ Q E D H,W M c (qf 21) true Q E D H =
  LK true (lk E 33) fun g t33=>LK g (lk E 32) fun g t32=>B3 g ((Op.bin .lss) [t33,t32]) fun g t34=>IF3 g t34 (fun g=>GO3 g (SEQ3 (W M c (qf 27)) Q) .normal E D H) (fun g=>GO3 g (SEQ3 (W M c (qf 27)) Q) (.exit 1) E D H)) /\
 (∀ Q E D H,W M c (qf 75) true Q E D H =
  LK true (lk E 0) fun g t0=>P3 M g (PX (some []) [117] (BLK3 5 Q) E D) (.func yg) [t0] H fun g t118 H1=>W M c (qf 78) g (BLK3 5 Q) E D H1) /\
 (∀ Q E D H,W M c (qf 92) true Q E D H =
  LK true (lk E 0) fun g t0=>B3 g (Op.nilCheck [t0]) fun g t143=>B3 g ((Op.fieldAddr 14) [t143]) fun g t144=>B3 g (Op.load1 [t144] H) fun g t145=>IF3 g t145 (fun g=>B3 g ((Op.build [(.int .i64 0)] [(0,1)]) [(.int .i64 111)]) fun g t146=>B3 g ((Op.mkIface xx) [t146]) fun g t147=>PANICK [t147] H (PX (some []) [147,146] (SEQ3 (W M c (qf 98)) Q) E D)) (fun g=>GO3 g (SEQ3 (W M c (qf 98)) Q) .normal E D H)) /\
 (∀ Q E D H,W M c (qf 27) true Q E D H =
  LK true (lk E 31) fun g t31=>LK g (lk E 33) fun g t33=>B3 g ((Op.indexSl 1) [t31,t33]) fun g t35=>B3 g (Op.load1 [t35] H) fun g t36=>W M c (qf 31) g (BLK3 2 (SEQ3 (W M c (qf 38)) Q)) ((6,t36)::E) D H) /\
 (∀ Q E D H,W M c (qf 78) true Q E D H =
  LK true (lk E 0) fun g t0=>LK g (lk E 4) fun g t4=>B3 g ((Op.fieldAddr 2) [t4]) fun g t120=>B3 g (Op.load1 [t120] H) fun g t121=>B3 g ((Op.indexSl 1) [t121,(.int .i64 0)]) fun g t122=>B3 g (Op.load1 [t122] H) fun g t123=>P3 M g (PX (some []) [123,122,121,120,119] (SEQ3 (W M c (qf 84)) Q) E D) (.func yy) [t0,t123] H fun g t124 H1=>B3 g ((Op.un .not) [t124]) fun g t125=>IF3 g t125 (fun g=>GO3 g (SEQ3 (W M c (qf 84)) Q) .ret E D H1) (fun g=>GO3 g (SEQ3 (W M c (qf 84)) Q) .normal E D H1)) /\
 (∀ Q E D H,W M c (qf 98) true Q E D H =
  LK true (lk E 0) fun g t0=>B3 g (Op.nilCheck [t0]) fun g t149=>B3 g ((Op.fieldAddr 15) [t149]) fun g t150=>B32 g ((Op.store 1) [t150,(.bool true)] H) fun g u H1=>GO3 g Q .normal E D H1) /\
 (∀ Q E D H,W M c (qf 38) true Q E D H =
  LK true (lk E 33) fun g t33=>B3 g ((Op.bin .add) [t33,(.int .i64 1)]) fun g t44=>GO3 g Q .normal ((33,t44)::E) D H) /\
 (∀ Q E D H,W M c (qf 31) true Q E D H =
  LK true (lk E 0) fun g t0=>B3 g (Op.nilCheck [t0]) fun g t38=>B3 g ((Op.fieldAddr 15) [t38]) fun g t39=>B3 g (Op.load1 [t39] H) fun g t40=>IF3 g t40 (fun g=>GO3 g (SEQ3 (W M c (qf 37)) Q) (.exit 1) E D H) (fun g=>GO3 g (SEQ3 (W M c (qf 37)) Q) .normal E D H)) /\
 (∀ Q E D H,W M c (qf 84) true Q E D H =
  LK true (lk E 0) fun g t0=>LK g (lk E 4) fun g t4=>B3 g ((Op.fieldAddr 2) [t4]) fun g t127=>B3 g (Op.load1 [t127] H) fun g t128=>B3 g ((Op.indexSl 1) [t128,(.int .i64 1)]) fun g t129=>B3 g (Op.load1 [t129] H) fun g t130=>P3 M g (PX (some []) [130,129,128,127,126] Q E D) (.func xp) [t0,t130] H fun g t131 H1=>GO3 g Q .normal E D H1) /\
 (∀ Q E D H,W M c (qf 37) true Q E D H =
  LK true (lk E 0) fun g t0=>LK g (lk E 6) fun g t6=>P3 M g (PX (some []) [42,41] Q E D) (.func xp) [t0,t6] H fun g t43 H1=>GO3 g Q .normal E D H1):=by (repeat' apply And.intro)<;>(intro _ _ _ _; refine W_unf ?_; kernel_rfl)
theorem qlv:(cProg Tryd.prog).func xp = some qd4 /\ qd4.results = []:=xd (by kernel_rfl)
theorem qqr {M:Mac} [MK M]:M.func xp = some qd4:=MK.at (by decide) qlv.1
theorem qg8 {M:Mac} [MK M] {a0 a1:AV} {H:AHeap} {Q:AEnd -> AHeap -> Prop} (h:W M ⟨none,xp⟩ (qf 0) true (FIN3 M [] Q) [(0,a0),(1,a1)] [] H):CALLE M xp [a0,a1] H Q :=
 calle qqr (ks:=qll) (by kernel_rfl) (by rw [qlv.2]; exact h)
def qcd:AFunc:=funcAt Tryd.prog kc
def qib:Kp:=⟨[0,1,4],true,[0,2,8]⟩
def yi (k:Nat):Kp × ACode:=(qib,part qcd.body k)
theorem qia (M:Mac) (c:Ctx):(∀ Q E D H,W M c (yi 0) true Q E D H =
 W M c (yi 2) true Q ((4,(.int .i64 0))::E) D H) /\
 (∀ Q E D H,W M c (yi 2) true Q E D H =
  LK true (lk E 1) fun g t1=>LK g (lk E 0) fun g t0=>B3 g (Op.nilCheck [t0]) fun g t7=>B3 g ((Op.fieldAddr 1) [t7]) fun g t8=>B3 g ((Op.fieldAddr 0) [t8]) fun g t9=>B3 g (Op.load1 [t9] H) fun g t10=>B3 g (Op.lenSl [t10]) fun g t11=>B3 g ((Op.wrap .u64) [t11]) fun g t12=>B3 g ((Op.bin .geq) [t1,t12]) fun g t13=>IF3 g t13 (fun g=>B3 g ((Op.build [(.int .i64 0)] [(0,1)]) [(.int .i64 111)]) fun g t14=>B3 g ((Op.mkIface xx) [t14]) fun g t15=>PANICK [t15] H (PX (some []) [15,14] (SEQ3 (W M c (yi 8)) Q) E D)) (fun g=>GO3 g (SEQ3 (W M c (yi 8)) Q) .normal E D H)) /\
 (∀ Q E D H,W M c (yi 8) true Q E D H =
  LK true (lk E 1) fun g t1=>B3 g ((Op.wrap .i64) [t1]) fun g t17=>GO3 g Q .ret ((4,t17)::E) D H):=by (repeat' apply And.intro)<;>(intro _ _ _ _; refine W_unf ?_; kernel_rfl)
theorem qir:(cProg Tryd.prog).func kc = some qcd /\ qcd.results = [.tmp 4]:=xd (by kernel_rfl)
theorem qnw {M:Mac} [MK M]:M.func kc = some qcd:=MK.at (by decide) qir.1
theorem qp9 {M:Mac} [MK M] {a0 a1:AV} {H:AHeap} {Q:AEnd -> AHeap -> Prop} (h:W M ⟨none,kc⟩ (yi 0) true (FIN3 M [.tmp 4] Q) [(0,a0),(1,a1)] [] H):CALLE M kc [a0,a1] H Q :=
 calle qnw (ks:=qib) (by kernel_rfl) (by rw [qir.2]; exact h)
def qc4:AFunc:=funcAt Tryd.prog yg
def qjv:Kp:=⟨[0],true,[0,6]⟩
def qbc (k:Nat):Kp × ACode:=(qjv,part qc4.body k)
theorem qjt (M:Mac) (c:Ctx):(∀ Q E D H,W M c (qbc 0) true Q E D H =
 LK true (lk E 0) fun g t0=>B3 g (Op.nilCheck [t0]) fun g t3=>B3 g ((Op.fieldAddr 1) [t3]) fun g t4=>B3 g ((Op.fieldAddr 10) [t4]) fun g t5=>B3 g (Op.load1 [t5] H) fun g t6=>B3 g ((Op.bin .eql) [t6,(.int .i64 0)]) fun g t7=>IF3 g t7 (fun g=>B3 g ((Op.build [(.int .i64 0)] [(0,1)]) [(.int .i64 190)]) fun g t8=>B3 g ((Op.mkIface xx) [t8]) fun g t9=>PANICK [t9] H (PX (some []) [9,8] (SEQ3 (W M c (qbc 6)) Q) E D)) (fun g=>GO3 g (SEQ3 (W M c (qbc 6)) Q) .normal E D H)) /\
 (∀ Q E D H,W M c (qbc 6) true Q E D H =
  LK true (lk E 0) fun g t0=>B3 g (Op.nilCheck [t0]) fun g t11=>B3 g ((Op.fieldAddr 1) [t11]) fun g t12=>B3 g ((Op.fieldAddr 10) [t12]) fun g t13=>B3 g (Op.load1 [t13] H) fun g t14=>B3 g ((Op.bin .sub) [t14,(.int .i64 1)]) fun g t15=>B3 g (Op.nilCheck [t0]) fun g t16=>B3 g ((Op.fieldAddr 1) [t16]) fun g t17=>B3 g ((Op.fieldAddr 10) [t17]) fun g t18=>B32 g ((Op.store 1) [t18,t15] H) fun g u H1=>GO3 g Q .normal E D H1):=by (repeat' apply And.intro)<;>(intro _ _ _ _; refine W_unf ?_; kernel_rfl)
theorem qjp:(cProg Tryd.prog).func yg = some qc4 /\ qc4.results = []:=xd (by kernel_rfl)
theorem qop {M:Mac} [MK M]:M.func yg = some qc4:=MK.at (by decide) qjp.1
theorem qqt {M:Mac} [MK M] {a0:AV} {H:AHeap} {Q:AEnd -> AHeap -> Prop} (h:W M ⟨none,yg⟩ (qbc 0) true (FIN3 M [] Q) [(0,a0)] [] H):CALLE M yg [a0] H Q :=
 calle qop (ks:=qjv) (by kernel_rfl) (by rw [qjp.2]; exact h)
def qd9:AFunc:=funcAt Tryd.prog yy
def qk5:Kp:=⟨[0,1,4,5,6,7,28],true,[0,4,6,23]⟩
def j7 (k:Nat):Kp × ACode:=(qk5,part qd9.body k)
theorem vp (M:Mac) (c:Ctx):(∀ Q E D H,W M c (j7 0) true Q E D H =
 LK true (lk E 0) fun g t0=>B3 g (Op.nilCheck [t0]) fun g t9=>B3 g ((Op.fieldAddr 0) [t9]) fun g t10=>B3 g (Op.load1 [t10] H) fun g t11=>LK g (lk E 1) fun g t1=>B3 g ((Op.indexSl 3) [t11,t1]) fun g t13=>B3 g ((Op.loadN 3) [t13] H) fun g t14=>A3 g qk [(.int .i64 0),(.int .u64 0),.nils] H fun g t5 H1=>B32 g ((Op.store 3) [t5,t14] H1) fun g u H2=>W M c (j7 4) g Q ((5,t5)::(4,(.bool false))::E) D H2) /\
 (∀ Q E D H,W M c (j7 4) true Q E D H =
  LK true (lk E 0) fun g t0=>LK g (lk E 5) fun g t5=>B3 g ((Op.fieldAddr 2) [t5]) fun g t16=>B3 g (Op.load1 [t16] H) fun g t17=>B3 g ((Op.indexSl 1) [t17,(.int .i64 0)]) fun g t18=>B3 g (Op.load1 [t18] H) fun g t19=>B3 g ((Op.fieldAddr 2) [t5]) fun g t22=>B3 g (Op.load1 [t22] H) fun g t23=>B3 g ((Op.indexSl 1) [t23,(.int .i64 1)]) fun g t24=>B3 g (Op.load1 [t24] H) fun g t25=>P3 M g (PX (some [15,16,17,18,19,20,21,22,23,24,25,26,6,7]) [25,24,23,22,21,19,18,17,16,15] Q E D) (.func xl) [t0,t19] H fun g t20 H1=>CK3 g (Op.load1 [t22] H1) (some t23) fun g=>CK3 g (Op.load1 [t24] H1) (some t25) fun g=>P3 M g (PX (some [15,16,17,18,19,20,21,22,23,24,25,26,6,7]) [20,25,24,23,22,21,19,18,17,16,15] Q E D) (.func xl) [t0,t25] H1 fun g t26 H2=>W M c (j7 6) g Q ((7,t26)::(6,t20)::E) D H2) /\
 (∀ Q E D H,W M c (j7 6) true Q E D H =
  LK true (lk E 5) fun g t5=>B3 g ((Op.fieldAddr 0) [t5]) fun g t27=>B3 g (Op.load1 [t27] H) fun g t28=>B3 g ((Op.bin .eql) [t28,(.int .i64 11)]) fun g t30=>IF3 g t30 (fun g=>LK g (lk E 6) fun g t6=>LK g (lk E 7) fun g t7=>B3 g ((Op.bin .eql) [t6,t7]) fun g t33=>GO3 g (BLK3 0 (SEQ3 (W M c (j7 23)) Q)) .ret ((4,t33)::(28,t28)::E) D H) (fun g=>B3 g ((Op.bin .eql) [t28,(.int .i64 12)]) fun g t35=>IF3 g t35 (fun g=>LK g (lk E 6) fun g t6=>LK g (lk E 7) fun g t7=>B3 g ((Op.bin .neq) [t6,t7]) fun g t38=>GO3 g (BLK3 0 (SEQ3 (W M c (j7 23)) Q)) .ret ((4,t38)::(28,t28)::E) D H) (fun g=>GO3 g (BLK3 0 (SEQ3 (W M c (j7 23)) Q)) .normal ((28,t28)::E) D H))) /\
 (∀ Q E D H,W M c (j7 23) true Q E D H =
  LK true (lk E 6) fun g t6=>LK g (lk E 7) fun g t7=>B3 g ((Op.bin .lss) [t6,t7]) fun g t41=>GO3 g Q .ret ((4,t41)::E) D H):=by (repeat' apply And.intro)<;>(intro _ _ _ _; refine W_unf ?_; kernel_rfl)
theorem qln:(cProg Tryd.prog).func yy = some qd9 /\ qd9.results = [.tmp 4]:=xd (by kernel_rfl)
theorem qqw {M:Mac} [MK M]:M.func yy = some qd9:=MK.at (by decide) qln.1
theorem qst {M:Mac} [MK M] {a0 a1:AV} {H:AHeap} {Q:AEnd -> AHeap -> Prop} (h:W M ⟨none,yy⟩ (j7 0) true (FIN3 M [.tmp 4] Q) [(0,a0),(1,a1)] [] H):CALLE M yy [a0,a1] H Q :=
 calle qqw (ks:=qk5) (by kernel_rfl) (by rw [qln.2]; exact h)
def qbk:AFunc:=funcAt Tryd.prog jt
def qhz:Kp:=⟨[0,1,2,3,4,5,6],true,[0,4,8,10,18]⟩
def zj (k:Nat):Kp × ACode:=(qhz,part qbk.body k)
theorem qny (M:Mac) (c:Ctx):(∀ Q E D H,W M c (zj 0) true Q E D H =
 LK true (lk E 0) fun g t0=>A3 g ji (AV.cells t0) H fun g t2 H1=>LK g (lk E 1) fun g t1=>A3 g T_int (AV.cells t1) H1 fun g t3 H2=>B3 g (Op.load1 [t2] H2) fun g t7=>B3 g (Op.nilCheck [t7]) fun g t8=>B3 g ((Op.fieldAddr 1) [t8]) fun g t9=>B3 g ((Op.fieldAddr 0) [t9]) fun g t10=>B3 g (Op.load1 [t10] H2) fun g t11=>B3 g (Op.load1 [t2] H2) fun g t13=>B3 g (Op.nilCheck [t13]) fun g t14=>B3 g ((Op.fieldAddr 1) [t14]) fun g t15=>B3 g ((Op.fieldAddr 1) [t15]) fun g t16=>B3 g ((Op.loadN 8) [t16] H2) fun g t17=>P3 M g (PX none [17,16,15,14,13,11,10,9,8,7] Q ((3,t3)::(2,t2)::E) D) (.func zf) [t11] H2 fun g t12 H3=>CK3 g (Op.load1 [t2] H3) (some t13) fun g=>CK3 g ((Op.loadN 8) [t16] H3) (some t17) fun g=>A3 g T__21 [(.int .u64 0),(.int .u64 0),(.int .u64 0),(.int .u64 0),(.int .u64 0),(.int .u64 0),(.int .u64 0),(.int .u64 0)] H3 fun g t5 H4=>B32 g ((Op.store 8) [t5,t17] H4) fun g u H5=>W M c (zj 4) g Q ((4,t12)::(5,t5)::(3,t3)::(2,t2)::E) D H5) /\
 (∀ Q E D H,W M c (zj 4) true Q E D H =
  LK true (lk E 2) fun g t2=>B3 g (Op.load1 [t2] H) fun g t18=>B3 g (Op.nilCheck [t18]) fun g t19=>B3 g ((Op.fieldAddr 14) [t19]) fun g t20=>B32 g ((Op.store 1) [t20,(.bool true)] H) fun g u H1=>LK g (lk E 2) fun g t2_1=>B3 g (Op.load1 [t2_1] H1) fun g t21=>LK g (lk E 3) fun g t3=>B3 g ((Op.mkFunc ze 0) [t2_1,t3]) fun g t22=>P3 M g (PX (some []) [22,21] Q E D) (.func qbe) [t21,t22] H1 fun g t23 H2=>W M c (zj 8) g Q ((6,t23)::E) D H2) /\
 (∀ Q E D H,W M c (zj 8) true Q E D H =
  LK true (lk E 2) fun g t2=>B3 g (Op.load1 [t2] H) fun g t24=>B3 g (Op.nilCheck [t24]) fun g t25=>B3 g ((Op.fieldAddr 14) [t25]) fun g t26=>B32 g ((Op.store 1) [t26,(.bool false)] H) fun g u H1=>W M c (zj 10) g Q E D H1) /\
 (∀ Q E D H,W M c (zj 10) true Q E D H =
  LK true (lk E 6) fun g t6=>B3 g ((Op.bin .neq) [t6,(.int .i64 0)]) fun g t28=>IF3 g t28 (fun g=>LK g (lk E 2) fun g t2=>B3 g (Op.load1 [t2] H) fun g t29=>B3 g (Op.load1 [t2] H) fun g t30=>LK g (lk E 4) fun g t4=>LK g (lk E 5) fun g t5=>B3 g ((Op.loadN 8) [t5] H) fun g t32=>B3 g (Op.nilCheck [t29]) fun g t33=>B3 g ((Op.fieldAddr 1) [t33]) fun g t34=>B3 g ((Op.fieldAddr 0) [t34]) fun g t35=>B32 g ((Op.store 1) [t35,t4] H) fun g u H1=>CK3 g (Op.load1 [t2] H1) (some t30) fun g=>CK3 g ((Op.loadN 8) [t5] H1) (some t32) fun g=>B3 g (Op.nilCheck [t30]) fun g t36=>B3 g ((Op.fieldAddr 1) [t36]) fun g t37=>B3 g ((Op.fieldAddr 1) [t37]) fun g t38=>B32 g ((Op.store 8) [t38,t32] H1) fun g u_1 H2=>LK g (lk E 6) fun g t6_1=>B3 g ((Op.build [(.int .i64 0)] [(0,1)]) [t6_1]) fun g t40=>B3 g ((Op.mkIface xx) [t40]) fun g t41=>PANICK [t41] H2 (PX (some []) [41,40,39] (SEQ3 (W M c (zj 18)) Q) E D)) (fun g=>GO3 g (SEQ3 (W M c (zj 18)) Q) .normal E D H)) /\
 (∀ Q E D H,W M c (zj 18) true Q E D H =
  LK true (lk E 2) fun g t2=>B3 g (Op.load1 [t2] H) fun g t42=>B3 g (Op.nilCheck [t42]) fun g t43=>B3 g ((Op.fieldAddr 1) [t43]) fun g t44=>B3 g ((Op.fieldAddr 11) [t44]) fun g t45=>B3 g (Op.load1 [t45] H) fun g t46=>B3 g ((Op.bin .add) [t46,(.int .i64 1)]) fun g t47=>B3 g (Op.nilCheck [t42]) fun g t48=>B3 g ((Op.fieldAddr 1) [t48]) fun g t49=>B3 g ((Op.fieldAddr 11) [t49]) fun g t50=>B32 g ((Op.store 1) [t50,t47] H) fun g u H1=>GO3 g Q .normal E D H1):=by (repeat' apply And.intro)<;>(intro _ _ _ _; refine W_unf ?_; kernel_rfl)
theorem qhw:(cProg Tryd.prog).func jt = some qbk /\ qbk.results = []:=xd (by kernel_rfl)
theorem qmq {M:Mac} [MK M]:M.func jt = some qbk:=MK.at (by decide) qhw.1
theorem qnz {M:Mac} [MK M] {a0 a1:AV} {H:AHeap} {Q:AEnd -> AHeap -> Prop} (h:W M ⟨none,jt⟩ (zj 0) true (FIN3 M [] Q) [(0,a0),(1,a1)] [] H):CALLE M jt [a0,a1] H Q :=
 calle qmq (ks:=qhz) (by kernel_rfl) (by rw [qhw.2]; exact h)
def qai:AFunc:=funcAt Tryd.prog ze
def qfz:Kp:=⟨[0,1],true,[0]⟩
def qf1 (k:Nat):Kp × ACode:=(qfz,part qai.body k)
theorem qk4 (M:Mac) (c:Ctx):(∀ Q E D H,W M c (qf1 0) true Q E D H =
 LK true (lk E 0) fun g t0=>B3 g (Op.load1 [t0] H) fun g t2=>LK g (lk E 1) fun g t1=>B3 g (Op.load1 [t1] H) fun g t3=>P3 M g (PX (some []) [3,2] Q E D) (.func xp) [t2,t3] H fun g t4 H1=>GO3 g Q .normal E D H1):=by intro _ _ _ _; refine W_unf ?_; kernel_rfl
theorem qfq:(cProg Tryd.prog).func ze = some qai /\ qai.results = []:=xd (by kernel_rfl)
theorem qjx {M:Mac} [MK M]:M.func ze = some qai:=MK.at (by decide) qfq.1
theorem qkr {M:Mac} [MK M] {a0 a1:AV} {H:AHeap} {Q:AEnd -> AHeap -> Prop} (h:W M ⟨none,ze⟩ (qf1 0) true (FIN3 M [] Q) [(0,a0),(1,a1)] [] H):CALLE M ze [a0,a1] H Q :=
 calle qjx (ks:=qfz) (by kernel_rfl) (by rw [qfq.2]; exact h)
end
end Go.Am
namespace Go.Am
abbrev yt:Nat:=21
abbrev yu:Nat:=24
noncomputable section
open Go.Proofs Go.Proofs.YtbimikjajohflaaDoor
def qea:AFunc:=funcAt Tryd.prog yt
def qk2:Kp:=⟨[0,1,2,6,7,8],false,[0,4,9,15,18,19,27]⟩
def za (k:Nat):Kp × ACode:=(qk2,part qea.body k)
theorem qsm (M:Mac) (c:Ctx):(∀ Q E D H,W M c (za 0) true Q E D H =
 W M c (za 4) true Q ((7,(.int .i64 0))::(6,(.int .i64 0))::E) D H) /\
 (∀ Q E D H,W M c (za 4) true Q E D H =
  LOOP3 (W M c (za 9)) (BLK3 0 (SEQ3 (W M c (za 19)) Q)) ((8,(.int .i64 0))::E) D H) /\
 (∀ Q E D H,W M c (za 19) true Q E D H =
  LK true (lk E 7) fun g t7=>B3 g ((Op.bin .gtr) [t7,(.int .i64 1000)]) fun g t25=>JN (fun (k:Bool -> AV -> AV -> AV -> AHeap -> Prop)=>B3 g (wantV false (some t25)) fun g w=>IG3 g w (fun g=>LK g (lk E 1) fun g t1=>B3 g (Op.lenSl [t1]) fun g t28=>B3 g ((Op.bin .gtr) [t28,(.int .i64 5000)]) fun g t29=>k g t29 t28 t1 H) (fun g=>k g uu uu uu H)) (fun g t29_1 t28_1 t27_1 H1=>B3 g (Op.pick [t25,(.bool true),t29_1]) fun g t30=>JN (fun (k:Bool -> AV -> AV -> AV -> AHeap -> Prop)=>B3 g (wantV false (some t30)) fun g w=>IG3 g w (fun g=>LK g (lk E 2) fun g t2=>B3 g ((Op.bin .gtr) [t2,(.int .i64 2000)]) fun g t33=>k g t33 t33 t2 H1) (fun g=>k g uu uu uu H1)) (fun g t34_1 t33_1 t32_1 H2=>JN (fun (k:Bool -> AV -> AV -> AHeap -> Prop)=>B3 g (wantV true (some t34_1)) fun g w=>IG3 g w (fun g=>LK g (lk E 2) fun g t2_1=>B3 g ((Op.bin .leq) [t2_1,(.int .i64 1048576)]) fun g t36=>k g t36 t2_1 H2) (fun g=>k g uu uu H2)) (fun g t36_1 t35_1 H3=>JN (fun (k:Bool -> AV -> AHeap -> Prop)=>B3 g (wantV false (some t30)) fun g w=>IG3 g w (fun g=>B3 g (Op.pick [t34_1,t36_1,(.bool false)]) fun g t37=>k g t37 H3) (fun g=>k g uu H3)) (fun g t37_1 H4=>B3 g (Op.pick [t30,(.bool true),t37_1]) fun g t38=>IF3 g t38 (fun g=>GO3 g (SEQ3 (W M c (za 27)) Q) .ret ((6,(.int .i64 1))::E) D H4) (fun g=>GO3 g (SEQ3 (W M c (za 27)) Q) .normal E D H4)))))) /\
 (∀ Q E D H,W M c (za 9) true Q E D H =
  LK true (lk E 8) fun g t8=>LK g (lk E 0) fun g t0=>B3 g (Op.lenSl [t0]) fun g t11=>B3 g ((Op.bin .lss) [t8,t11]) fun g t12=>IF3 g t12 (fun g=>GO3 g (SEQ3 (W M c (za 15)) Q) .normal E D H) (fun g=>GO3 g (SEQ3 (W M c (za 15)) Q) (.exit 0) E D H)) /\
 (∀ Q E D H,W M c (za 27) true Q E D H =
  GO3 true Q .ret ((6,(.int .i64 0))::E) D H) /\
 (∀ Q E D H,W M c (za 15) true Q E D H =
  LK true (lk E 7) fun g t7=>B3 g ((Op.bin .add) [t7,(.int .i64 1)]) fun g t16=>LK g (lk E 0) fun g t0=>LK g (lk E 8) fun g t8=>B3 g ((Op.indexSl 3) [t0,t8]) fun g t19=>B3 g ((Op.fieldAddr 2) [t19]) fun g t20=>B3 g (Op.load1 [t20] H) fun g t21=>B3 g (Op.lenSl [t21]) fun g t22=>B3 g ((Op.bin .add) [t16,t22]) fun g t23=>GO3 g (BLK3 1 (SEQ3 (W M c (za 18)) Q)) .normal ((7,t23)::E) D H) /\
 (∀ Q E D H,W M c (za 18) true Q E D H =
  LK true (lk E 8) fun g t8=>B3 g ((Op.bin .add) [t8,(.int .i64 1)]) fun g t14=>GO3 g Q .normal ((8,t14)::E) D H):=by (repeat' apply And.intro)<;>(intro _ _ _ _; refine W_unf ?_; kernel_rfl)
theorem qlo:(cProg Tryd.prog).func yt = some qea /\ qea.results = [.tmp 6]:=xd (by kernel_rfl)
theorem qqv {M:Mac} [MK M]:M.func yt = some qea:=MK.at (by decide) qlo.1
theorem qt2 {M:Mac} [MK M] {a0 a1 a2:AV} {H:AHeap} {Q:AEnd -> AHeap -> Prop} (h:W M ⟨none,yt⟩ (za 0) true (FIN3 M [.tmp 6] Q) [(0,a0),(1,a1),(2,a2)] [] H):CALLE M yt [a0,a1,a2] H Q :=
 calle qqv (ks:=qk2) (by kernel_rfl) (by rw [qlo.2]; exact h)
def qd8:AFunc:=funcAt Tryd.prog yu
def qlq:Kp:=⟨[0,1,4,5],false,[0,2,10,15,21,30,31]⟩
def x7 (k:Nat):Kp × ACode:=(qlq,part qd8.body k)
theorem qth (M:Mac) (c:Ctx):(∀ Q E D H,W M c (x7 0) true Q E D H =
 W M c (x7 2) true Q ((4,(.bool false))::E) D H) /\
 (∀ Q E D H,W M c (x7 2) true Q E D H =
  LK true (lk E 0) fun g t0=>B3 g (Op.lenSl [t0]) fun g t7=>LK g (lk E 1) fun g t1=>B3 g (Op.lenSl [t1]) fun g t9=>B3 g ((Op.bin .neq) [t7,t9]) fun g t10=>IF3 g t10 (fun g=>GO3 g (SEQ3 (W M c (x7 10)) Q) .ret ((4,(.bool false))::E) D H) (fun g=>GO3 g (SEQ3 (W M c (x7 10)) Q) .normal E D H)) /\
 (∀ Q E D H,W M c (x7 10) true Q E D H =
  LOOP3 (W M c (x7 15)) (BLK3 0 (SEQ3 (W M c (x7 31)) Q)) ((5,(.int .i64 0))::E) D H) /\
 (∀ Q E D H,W M c (x7 31) true Q E D H =
  GO3 true Q .ret ((4,(.bool true))::E) D H) /\
 (∀ Q E D H,W M c (x7 15) true Q E D H =
  LK true (lk E 5) fun g t5=>LK g (lk E 0) fun g t0=>B3 g (Op.lenSl [t0]) fun g t13=>B3 g ((Op.bin .lss) [t5,t13]) fun g t14=>IF3 g t14 (fun g=>GO3 g (SEQ3 (W M c (x7 21)) Q) .normal E D H) (fun g=>GO3 g (SEQ3 (W M c (x7 21)) Q) (.exit 0) E D H)) /\
 (∀ Q E D H,W M c (x7 21) true Q E D H =
  LK true (lk E 0) fun g t0=>LK g (lk E 5) fun g t5=>B3 g ((Op.indexSl 1) [t0,t5]) fun g t19=>B3 g (Op.load1 [t19] H) fun g t20=>LK g (lk E 1) fun g t1=>B3 g ((Op.indexSl 1) [t1,t5]) fun g t23=>B3 g (Op.load1 [t23] H) fun g t24=>B3 g ((Op.bin .neq) [t20,t24]) fun g t25=>IF3 g t25 (fun g=>GO3 g (BLK3 1 (SEQ3 (W M c (x7 30)) Q)) .ret ((4,(.bool false))::E) D H) (fun g=>GO3 g (BLK3 1 (SEQ3 (W M c (x7 30)) Q)) .normal E D H)) /\
 (∀ Q E D H,W M c (x7 30) true Q E D H =
  LK true (lk E 5) fun g t5=>B3 g ((Op.bin .add) [t5,(.int .i64 1)]) fun g t16=>GO3 g Q .normal ((5,t16)::E) D H):=by (repeat' apply And.intro)<;>(intro _ _ _ _; refine W_unf ?_; kernel_rfl)
theorem qkt:(cProg Tryd.prog).func yu = some qd8 /\ qd8.results = [.tmp 4]:=xd (by kernel_rfl)
theorem qqx {M:Mac} [MK M]:M.func yu = some qd8:=MK.at (by decide) qkt.1
theorem qsj {M:Mac} [MK M] {a0 a1:AV} {H:AHeap} {Q:AEnd -> AHeap -> Prop} (h:W M ⟨none,yu⟩ (x7 0) true (FIN3 M [.tmp 4] Q) [(0,a0),(1,a1)] [] H):CALLE M yu [a0,a1] H Q :=
 calle qqx (ks:=qlq) (by kernel_rfl) (by rw [qkt.2]; exact h)
end
end Go.Am
namespace Go.Am
abbrev jw:Nat:=11
noncomputable section
open Go.Proofs Go.Proofs.YtbimikjajohflaaDoor
def qa0:AFunc:=funcAt Tryd.prog jw
def qf9:Kp:=⟨[0,1,2,3,6,8,9,10,11,12,13,14,15,16],false,[0,4,12,14,22,24,29,35,38,39,44,50,54,59,65,68,69,76,77]⟩
def qe (k:Nat):Kp × ACode:=(qf9,part qa0.body k)
theorem qma (M:Mac) (c:Ctx):(∀ Q E D H,W M c (qe 0) true Q E D H =
 LK true (lk E 2) fun g t2=>A3 g T__21 (AV.cells t2) H fun g t6 H1=>C3 M g (.func qkw) [] H1 fun g t17 H2=>W M c (qe 4) g Q ((9,t17)::(8,(.bool false))::(6,t6)::E) D H2) /\
 (∀ Q E D H,W M c (qe 4) true Q E D H =
  LK true (lk E 0) fun g t0=>LK g (lk E 1) fun g t1=>LK g (lk E 3) fun g t3=>C3 M g (.func yt) [t0,t1,t3] H fun g t21 H1=>B3 g ((Op.bin .gtr) [t21,(.int .i64 0)]) fun g t22=>JN (fun (k:Bool -> AV -> AV -> AHeap -> Prop)=>B3 g (wantV false (some t22)) fun g w=>IG3 g w (fun g=>LK g (lk E 9) fun g t9=>B3 g ((Op.un .not) [t9]) fun g t25=>k g t25 t9 H1) (fun g=>k g uu uu H1)) (fun g t25_1 t24_1 H2=>B3 g (Op.pick [t22,(.bool true),t25_1]) fun g t26=>IF3 g t26 (fun g=>LK g (lk E 9) fun g t9_1=>GO3 g (SEQ3 (W M c (qe 12)) Q) .ret ((8,t9_1)::E) D H2) (fun g=>GO3 g (SEQ3 (W M c (qe 12)) Q) .normal E D H2))) /\
 (∀ Q E D H,W M c (qe 12) true Q E D H =
  LK true (lk E 0) fun g t0=>LK g (lk E 1) fun g t1=>LK g (lk E 6) fun g t6=>B3 g ((Op.loadN 8) [t6] H) fun g t31=>LK g (lk E 3) fun g t3=>C3 M g (.func qa2) [t0,t1,t31,t3] H fun g t33 H1=>B3 g ((Op.extract 0) [t33]) fun g t34=>B3 g ((Op.extract 1) [t33]) fun g t35=>A3 g zi [.nils,(.int .u64 0),(.int .u64 0),(.int .u64 0),(.int .u64 0),(.int .u64 0),(.int .u64 0),(.int .u64 0),(.int .u64 0),(.int .i64 0),(.int .i64 0),(.int .i64 0),(.int .i64 0)] H1 fun g t10 H2=>B32 g ((Op.store 13) [t10,t34] H2) fun g u H3=>W M c (qe 14) g Q ((11,t35)::(10,t10)::E) D H3) /\
 (∀ Q E D H,W M c (qe 14) true Q E D H =
  LK true (lk E 11) fun g t11=>B3 g ((Op.bin .neq) [t11,(.int .i64 0)]) fun g t37=>IF3 g t37 (fun g=>LK g (lk E 9) fun g t9=>GO3 g (SEQ3 (W M c (qe 22)) Q) .ret ((8,t9)::E) D H) (fun g=>GO3 g (SEQ3 (W M c (qe 22)) Q) .normal E D H)) /\
 (∀ Q E D H,W M c (qe 22) true Q E D H =
  W M c (qe 24) true Q ((12,(.bool false))::E) D H) /\
 (∀ Q E D H,W M c (qe 24) true Q E D H =
  LOOP3 (W M c (qe 29)) (BLK3 0 (SEQ3 (W M c (qe 39)) Q)) ((13,(.int .i64 0))::E) D H) /\
 (∀ Q E D H,W M c (qe 39) true Q E D H =
  LOOP3 (W M c (qe 44)) (BLK3 2 (SEQ3 (W M c (qe 77)) Q)) ((14,(.int .i64 0))::E) D H) /\
 (∀ Q E D H,W M c (qe 29) true Q E D H =
  LK true (lk E 13) fun g t13=>LK g (lk E 0) fun g t0=>B3 g (Op.lenSl [t0]) fun g t41=>B3 g ((Op.bin .lss) [t13,t41]) fun g t42=>IF3 g t42 (fun g=>GO3 g (SEQ3 (W M c (qe 35)) Q) .normal E D H) (fun g=>GO3 g (SEQ3 (W M c (qe 35)) Q) (.exit 0) E D H)) /\
 (∀ Q E D H,W M c (qe 77) true Q E D H =
  LK true (lk E 9) fun g t9=>JN (fun (k:Bool -> AV -> AV -> AHeap -> Prop)=>B3 g (wantV true (some t9)) fun g w=>IG3 g w (fun g=>LK g (lk E 12) fun g t12=>k g t12 t12 H) (fun g=>k g uu uu H)) (fun g t98_1 t97_1 H1=>JN (fun (k:Bool -> AV -> AV -> AV -> AV -> AHeap -> Prop)=>B3 g (wantV false (some t98_1)) fun g w=>IG3 g w (fun g=>LK g (lk E 10) fun g t10=>B3 g ((Op.fieldAddr 0) [t10]) fun g t99=>B3 g (Op.load1 [t99] H1) fun g t100=>LK g (lk E 1) fun g t1=>C3 M g (.func yu) [t100,t1] H1 fun g t102 H2=>k g t102 t1 t100 t99 H2) (fun g=>k g uu uu uu uu H1)) (fun g t102_1 t101_1 t100_1 t99_1 H3=>JN (fun (k:Bool -> AV -> AHeap -> Prop)=>B3 g (wantV true (some t9)) fun g w=>IG3 g w (fun g=>B3 g (Op.pick [t98_1,(.bool true),t102_1]) fun g t103=>k g t103 H3) (fun g=>k g uu H3)) (fun g t103_1 H4=>B3 g (Op.pick [t9,t103_1,(.bool false)]) fun g t104=>JN (fun (k:Bool -> AV -> AV -> AV -> AV -> AV -> AV -> AHeap -> Prop)=>B3 g (wantV true (some t104)) fun g w=>IG3 g w (fun g=>LK g (lk E 10) fun g t10_1=>B3 g ((Op.fieldAddr 0) [t10_1]) fun g t106=>B3 g (Op.load1 [t106] H4) fun g t107=>B3 g (Op.lenSl [t107]) fun g t108=>LK g (lk E 1) fun g t1_1=>B3 g (Op.lenSl [t1_1]) fun g t110=>B3 g ((Op.bin .eql) [t108,t110]) fun g t111=>k g t111 t110 t1_1 t108 t107 t106 H4) (fun g=>k g uu uu uu uu uu uu H4)) (fun g t111_1 t110_1 t109_1 t108_1 t107_1 t106_1 H5=>B3 g (Op.pick [t104,t111_1,(.bool false)]) fun g t112=>JN (fun (k:Bool -> AV -> AV -> AV -> AV -> AHeap -> Prop)=>B3 g (wantV true (some t112)) fun g w=>IG3 g w (fun g=>LK g (lk E 10) fun g t10_2=>B3 g ((Op.fieldAddr 10) [t10_2]) fun g t114=>B3 g (Op.load1 [t114] H5) fun g t115=>LK g (lk E 3) fun g t3=>B3 g ((Op.bin .leq) [t115,t3]) fun g t117=>k g t117 t3 t115 t114 H5) (fun g=>k g uu uu uu uu H5)) (fun g t117_1 t116_1 t115_1 t114_1 H6=>B3 g (Op.pick [t112,t117_1,(.bool false)]) fun g t118=>GO3 g Q .ret ((8,t118)::E) D H6)))))) /\
 (∀ Q E D H,W M c (qe 44) true Q E D H =
  LK true (lk E 14) fun g t14=>B3 g ((Op.bin .lss) [t14,(.int .i64 8)]) fun g t55=>IF3 g t55 (fun g=>GO3 g (SEQ3 (W M c (qe 50)) Q) .normal E D H) (fun g=>GO3 g (SEQ3 (W M c (qe 50)) Q) (.exit 2) E D H)) /\
 (∀ Q E D H,W M c (qe 35) true Q E D H =
  LK true (lk E 12) fun g t12=>JN (fun (k:Bool -> AV -> AV -> AV -> AV -> AV -> AV -> AHeap -> Prop)=>B3 g (wantV false (some t12)) fun g w=>IG3 g w (fun g=>LK g (lk E 0) fun g t0=>LK g (lk E 13) fun g t13=>B3 g ((Op.indexSl 3) [t0,t13]) fun g t49=>B3 g ((Op.fieldAddr 0) [t49]) fun g t50=>B3 g (Op.load1 [t50] H) fun g t51=>B3 g ((Op.bin .eql) [t51,(.int .i64 15)]) fun g t52=>k g t52 t51 t50 t49 t13 t0 H) (fun g=>k g uu uu uu uu uu uu H)) (fun g t52_1 t51_1 t50_1 t49_1 t48_1 t47_1 H1=>B3 g (Op.pick [t12,(.bool true),t52_1]) fun g t53=>GO3 g (BLK3 1 (SEQ3 (W M c (qe 38)) Q)) .normal ((12,t53)::E) D H1)) /\
 (∀ Q E D H,W M c (qe 50) true Q E D H =
  W M c (qe 54) true (BLK3 3 (SEQ3 (W M c (qe 76)) Q)) ((15,(.bool false))::E) D H) /\
 (∀ Q E D H,W M c (qe 38) true Q E D H =
  LK true (lk E 13) fun g t13=>B3 g ((Op.bin .add) [t13,(.int .i64 1)]) fun g t44=>GO3 g Q .normal ((13,t44)::E) D H) /\
 (∀ Q E D H,W M c (qe 76) true Q E D H =
  LK true (lk E 14) fun g t14=>B3 g ((Op.bin .add) [t14,(.int .i64 1)]) fun g t57=>GO3 g Q .normal ((14,t57)::E) D H) /\
 (∀ Q E D H,W M c (qe 54) true Q E D H =
  LOOP3 (W M c (qe 59)) (BLK3 4 (SEQ3 (W M c (qe 69)) Q)) ((16,(.int .i64 0))::E) D H) /\
 (∀ Q E D H,W M c (qe 69) true Q E D H =
  LK true (lk E 15) fun g t15=>B3 g ((Op.un .not) [t15]) fun g t84=>JN (fun (k:Bool -> AV -> AV -> AV -> AV -> AV -> AV -> AV -> AV -> AHeap -> Prop)=>B3 g (wantV true (some t84)) fun g w=>IG3 g w (fun g=>LK g (lk E 14) fun g t14=>LK g (lk E 10) fun g t10=>B3 g ((Op.fieldAddr 1) [t10]) fun g t87=>B3 g ((Op.indexArr 8 1) [t87,t14]) fun g t88=>B3 g (Op.load1 [t88] H) fun g t89=>LK g (lk E 6) fun g t6=>B3 g ((Op.indexArr 8 1) [t6,t14]) fun g t91=>B3 g (Op.load1 [t91] H) fun g t92=>B3 g ((Op.bin .neq) [t89,t92]) fun g t93=>k g t93 t92 t91 t14 t89 t88 t87 t14 H) (fun g=>k g uu uu uu uu uu uu uu uu H)) (fun g t93_1 t92_1 t91_1 t90_1 t89_1 t88_1 t87_1 t86_1 H1=>B3 g (Op.pick [t84,t93_1,(.bool false)]) fun g t94=>IF3 g t94 (fun g=>GO3 g Q .ret ((8,(.bool false))::E) D H1) (fun g=>GO3 g Q .normal E D H1))) /\
 (∀ Q E D H,W M c (qe 59) true Q E D H =
  LK true (lk E 16) fun g t16=>LK g (lk E 0) fun g t0=>B3 g (Op.lenSl [t0]) fun g t60=>B3 g ((Op.bin .lss) [t16,t60]) fun g t61=>IF3 g t61 (fun g=>GO3 g (SEQ3 (W M c (qe 65)) Q) .normal E D H) (fun g=>GO3 g (SEQ3 (W M c (qe 65)) Q) (.exit 4) E D H)) /\
 (∀ Q E D H,W M c (qe 65) true Q E D H =
  LK true (lk E 15) fun g t15=>JN (fun (k:Bool -> AV -> AV -> AV -> AV -> AV -> AV -> AV -> AHeap -> Prop)=>B3 g (wantV false (some t15)) fun g w=>IG3 g w (fun g=>LK g (lk E 0) fun g t0=>LK g (lk E 16) fun g t16=>B3 g ((Op.indexSl 3) [t0,t16]) fun g t68=>B3 g ((Op.fieldAddr 0) [t68]) fun g t69=>B3 g (Op.load1 [t69] H) fun g t70=>B3 g ((Op.bin .eql) [t70,(.int .i64 14)]) fun g t71=>k g t71 t71 t70 t69 t68 t16 t0 H) (fun g=>k g uu uu uu uu uu uu uu H)) (fun g t72_1 t71_1 t70_1 t69_1 t68_1 t67_1 t66_1 H1=>JN (fun (k:Bool -> AV -> AV -> AV -> AV -> AV -> AV -> AV -> AV -> AHeap -> Prop)=>B3 g (wantV true (some t72_1)) fun g w=>IG3 g w (fun g=>LK g (lk E 0) fun g t0_1=>LK g (lk E 16) fun g t16_1=>B3 g ((Op.indexSl 3) [t0_1,t16_1]) fun g t75=>B3 g ((Op.fieldAddr 1) [t75]) fun g t76=>B3 g (Op.load1 [t76] H1) fun g t77=>LK g (lk E 14) fun g t14=>B3 g ((Op.wrap .u64) [t14]) fun g t79=>B3 g ((Op.bin .eql) [t77,t79]) fun g t80=>k g t80 t79 t14 t77 t76 t75 t16_1 t0_1 H1) (fun g=>k g uu uu uu uu uu uu uu uu H1)) (fun g t80_1 t79_1 t78_1 t77_1 t76_1 t75_1 t74_1 t73_1 H2=>JN (fun (k:Bool -> AV -> AHeap -> Prop)=>B3 g (wantV false (some t15)) fun g w=>IG3 g w (fun g=>B3 g (Op.pick [t72_1,t80_1,(.bool false)]) fun g t81=>k g t81 H2) (fun g=>k g uu H2)) (fun g t81_1 H3=>B3 g (Op.pick [t15,(.bool true),t81_1]) fun g t82=>GO3 g (BLK3 5 (SEQ3 (W M c (qe 68)) Q)) .normal ((15,t82)::E) D H3)))) /\
 (∀ Q E D H,W M c (qe 68) true Q E D H =
  LK true (lk E 16) fun g t16=>B3 g ((Op.bin .add) [t16,(.int .i64 1)]) fun g t63=>GO3 g Q .normal ((16,t63)::E) D H):=by (repeat' apply And.intro)<;>(intro _ _ _ _; refine W_unf ?_; kernel_rfl)
theorem qg0:(cProg Tryd.prog).func jw = some qa0 /\ qa0.results = [.tmp 8]:=xd (by kernel_rfl)
theorem qk0 {M:Mac} [MK M]:M.func jw = some qa0:=MK.at (by decide) qg0.1
theorem qm2 {M:Mac} [MK M] {a0 a1 a2 a3:AV} {H:AHeap} {Q:AEnd -> AHeap -> Prop} (h:W M ⟨none,jw⟩ (qe 0) true (FIN3 M [.tmp 8] Q) [(0,a0),(1,a1),(2,a2),(3,a3)] [] H):CALLE M jw [a0,a1,a2,a3] H Q :=
 calle qk0 (ks:=qf9) (by kernel_rfl) (by rw [qg0.2]; exact h)
end
end Go.Am
namespace Go.Am
abbrev jf:Nat:=83
abbrev x8:Nat:=25
noncomputable section
variable (AP:Mac)
def y8:List AStep:=[⟨false,none,none,[.tmp 4,.const (.int .i64 0)],.eff (Op.store 1),(some [])⟩]
def qb2:ACode:=.seq (.region y8) .ret
def y9:List AStep:=[⟨false,(some 6),none,[.tmp 1],.pure Op.move,(some [])⟩,
 ⟨false,(some 7),none,[.tmp 6],.callV,(some [])⟩]
def qb3:ACode:=.seq (.region y9) qb2
def yz:List AStep:=[⟨false,(some 5),none,[.tmp 4],.pure (Op.mkFunc jf 0),(some [])⟩,
 ⟨false,none,none,[.tmp 5],.defer,(some [])⟩]
def qcf:ACode:=.seq (.region yz) qb3
def yr:List AStep:=[⟨false,(some 4),none,[],.alloc (Op.alloc x8 [(.int .i64 0)]),(some [])⟩]
def qiq:ACode:=.seq (.region yr) qcf
def qjn:AFunc:=⟨[.cell1 4],qiq,[]⟩
theorem qgk (ctx:Ctx) (tm:T AV) (dfs:List ADef) (up:Option Chain) (H:AHeap) (Q:Post) :
 WP AP ctx qb2 ⟨tm,dfs,up,H⟩ Q =
 (GS AP dirty ctx y8 ⟨tm,dfs,up,H⟩ (SEQ (WP AP ctx .ret) Q)):=Gxrseq AP ctx _ _ y8 .ret
theorem qdz (ctx:Ctx) (tm:T AV) (dfs:List ADef) (up:Option Chain) (H:AHeap) (Q:Post) :
 GS AP true ctx y8 ⟨tm,dfs,up,H⟩ Q =
 (LK dirty (tm.get 4) fun g ti4=>BI2 g ((Op.store 1) [ti4,(.int .i64 0)] H) fun g t_u H1 =>
 GO g Q .normal ⟨tm,dfs,up,H1⟩):=kw (l:=y8) (by kernel_rfl)
theorem qgp (ctx:Ctx) (tm:T AV) (dfs:List ADef) (up:Option Chain) (H:AHeap) (Q:Post) :
 WP AP ctx qb3 ⟨tm,dfs,up,H⟩ Q =
 (GS AP dirty ctx y9 ⟨tm,dfs,up,H⟩ (SEQ (WP AP ctx qb2) Q)):=Gxrseq AP ctx _ _ y9 qb2
theorem qdw (ctx:Ctx) (tm:T AV) (dfs:List ADef) (up:Option Chain) (H:AHeap) (Q:Post) :
 GS AP true ctx y9 ⟨tm,dfs,up,H⟩ Q =
 (LK dirty (tm.get 1) fun g ti1=>BI g (Op.move [ti1]) fun g t6=>VI g [t6] fun g f vs=>CA AP g f vs H (fun g t7 H1 =>
 GO g Q .normal ⟨(setsE [(7,t7),(6,t6)] tm),dfs,up,H1⟩) (PAN (some []) (setsE [(6,t6)] tm) dfs up Q)):=kw (l:=y9) (by kernel_rfl)
theorem qg2 (ctx:Ctx) (tm:T AV) (dfs:List ADef) (up:Option Chain) (H:AHeap) (Q:Post) :
 WP AP ctx qcf ⟨tm,dfs,up,H⟩ Q =
 (GS AP dirty ctx yz ⟨tm,dfs,up,H⟩ (SEQ (WP AP ctx qb3) Q)):=Gxrseq AP ctx _ _ yz qb3
theorem qdt (ctx:Ctx) (tm:T AV) (dfs:List ADef) (up:Option Chain) (H:AHeap) (Q:Post) :
 GS AP true ctx yz ⟨tm,dfs,up,H⟩ Q =
 (LK dirty (tm.get 4) fun g ti4=>BI g ((Op.mkFunc jf 0) [ti4]) fun g t5=>DF g ctx [t5] dfs fun g dfs1=>GO g Q .normal ⟨(setsE [(5,t5)] tm),dfs1,up,H⟩):=kw (l:=yz) (by kernel_rfl)
theorem qge (ctx:Ctx) (tm:T AV) (dfs:List ADef) (up:Option Chain) (H:AHeap) (Q:Post) :
 WP AP ctx qiq ⟨tm,dfs,up,H⟩ Q =
 (GS AP dirty ctx yr ⟨tm,dfs,up,H⟩ (SEQ (WP AP ctx qcf) Q)):=Gxrseq AP ctx _ _ yr qcf
theorem qdv (ctx:Ctx) (tm:T AV) (dfs:List ADef) (up:Option Chain) (H:AHeap) (Q:Post) :
 GS AP true ctx yr ⟨tm,dfs,up,H⟩ Q =
 (BI2 dirty ((Op.alloc x8 [(.int .i64 0)]) []) fun g o1 mk1=>GO g Q .normal ⟨(setsE [(4,(mk1 H.next))] tm),dfs,up,(H.alloc o1)⟩):=kw (l:=yr) (by kernel_rfl)
def yc:List AStep:=[⟨false,(some 1),none,[.tmp 4],.pure Op.move,(some [])⟩]
def qa5:ACode:=.region yc
def ky:List AStep:=[⟨false,(some 10),none,[.tmp 2],.pure (Op.fieldAddr 0),(some [])⟩,
 ⟨false,(some 11),none,[.tmp 10],.read Op.load1,(some [])⟩,
 ⟨false,none,none,[.tmp 0,.tmp 11],.eff (Op.store 1),(some [])⟩]
def qa1:ACode:=.region ky
def ya:List AStep:=[⟨false,(some 2),none,[],.alloc (Op.alloc xx [(.int .i64 0)]),(some [])⟩,
 ⟨false,none,none,[.tmp 2,.tmp 9],.eff (Op.store 1),(some [])⟩]
def qa4:ACode:=.seq (.region ya) qa1
def km:List AStep:=[⟨false,(some 5),none,[.tmp 3],.pure Op.move,(some [])⟩,
 ⟨false,none,none,[.tmp 5],.panic,(some [])⟩]
def qac:ACode:=.region km
def kh:List AStep:=[⟨false,(some 3),none,[.tmp 4],.pure Op.move,(some [])⟩]
def qaa:ACode:=.seq (.region kh) qac
def qaz:ACode:=.cond (.tmp 8) qa4 qaa
def kz:List AStep:=[⟨false,(some 7),none,[.tmp 4],.pure (Op.typeAssert xx true (.agg [(.int .i64 0)])),(some [])⟩,
 ⟨false,(some 8),none,[.tmp 7],.pure (Op.extract 1),(some [])⟩,
 ⟨false,(some 9),none,[.tmp 7],.pure (Op.extract 0),(some [])⟩]
def qba:ACode:=.seq (.region kz) qaz
def qay:ACode:=.cond (.tmp 6) qa5 qba
def ye:List AStep:=[⟨false,(some 6),none,[.tmp 4,.const .nili],.read (Op.eq .iface false),(some [])⟩]
def qa7:ACode:=.seq (.region ye) qay
def qax:ACode:=.block 0 qa7
def yd:List AStep:=[⟨false,(some 4),none,[],.recover,(some [])⟩]
def qg1:ACode:=.seq (.region yd) qax
def qdq:AFunc:=⟨[],qg1,[]⟩
theorem qez (ctx:Ctx) (tm:T AV) (dfs:List ADef) (up:Option Chain) (H:AHeap) (Q:Post) :
 WP AP ctx qa5 ⟨tm,dfs,up,H⟩ Q =
 (GS AP dirty ctx yc ⟨tm,dfs,up,H⟩ Q):=qs7 AP ctx _ _ yc
theorem qcp (ctx:Ctx) (tm:T AV) (dfs:List ADef) (up:Option Chain) (H:AHeap) (Q:Post) :
 GS AP true ctx yc ⟨tm,dfs,up,H⟩ Q =
 (LK dirty (tm.get 4) fun g ti4=>BI g (Op.move [ti4]) fun g t1=>GO g Q .normal ⟨(setsE [(1,t1)] tm),dfs,up,H⟩):=kw (l:=yc) (by kernel_rfl)
theorem qew (ctx:Ctx) (tm:T AV) (dfs:List ADef) (up:Option Chain) (H:AHeap) (Q:Post) :
 WP AP ctx qa1 ⟨tm,dfs,up,H⟩ Q =
 (GS AP dirty ctx ky ⟨tm,dfs,up,H⟩ Q):=qs7 AP ctx _ _ ky
theorem qcv (ctx:Ctx) (tm:T AV) (dfs:List ADef) (up:Option Chain) (H:AHeap) (Q:Post) :
 GS AP true ctx ky ⟨tm,dfs,up,H⟩ Q =
 (LK dirty (tm.get 2) fun g ti2=>BI g ((Op.fieldAddr 0) [ti2]) fun g t10=>BI g (Op.load1 [t10] H) fun g t11=>LK g (tm.get 0) fun g ti0=>BI2 g ((Op.store 1) [ti0,t11] H) fun g t_u H1 =>
 GO g Q .normal ⟨(setsE [(11,t11),(10,t10)] tm),dfs,up,H1⟩):=kw (l:=ky) (by kernel_rfl)
theorem qe5 (ctx:Ctx) (tm:T AV) (dfs:List ADef) (up:Option Chain) (H:AHeap) (Q:Post) :
 WP AP ctx qa4 ⟨tm,dfs,up,H⟩ Q =
 (GS AP dirty ctx ya ⟨tm,dfs,up,H⟩ (SEQ (WP AP ctx qa1) Q)):=Gxrseq AP ctx _ _ ya qa1
theorem qct (ctx:Ctx) (tm:T AV) (dfs:List ADef) (up:Option Chain) (H:AHeap) (Q:Post) :
 GS AP true ctx ya ⟨tm,dfs,up,H⟩ Q =
 (BI2 dirty ((Op.alloc xx [(.int .i64 0)]) []) fun g o1 mk1=>LK g (tm.get 9) fun g ti9=>BI2 g ((Op.store 1) [(mk1 H.next),ti9] (H.alloc o1)) fun g t_u H2 =>
 GO g Q .normal ⟨(setsE [(2,(mk1 H.next))] tm),dfs,up,H2⟩):=kw (l:=ya) (by kernel_rfl)
theorem qds (ctx:Ctx) (tm:T AV) (dfs:List ADef) (up:Option Chain) (H:AHeap) (Q:Post) :
 WP AP ctx qac ⟨tm,dfs,up,H⟩ Q =
 (GS AP dirty ctx km ⟨tm,dfs,up,H⟩ Q):=qs7 AP ctx _ _ km
theorem qb1 (ctx:Ctx) (tm:T AV) (dfs:List ADef) (up:Option Chain) (H:AHeap) (Q:Post) :
 GS AP true ctx km ⟨tm,dfs,up,H⟩ Q =
 (LK dirty (tm.get 3) fun g ti3=>BI g (Op.move [ti3]) fun g t5=>PANICK [t5] H (PAN (some []) (setsE [(5,t5)] tm) dfs up Q)):=kw (l:=km) (by kernel_rfl)
theorem qdx (ctx:Ctx) (tm:T AV) (dfs:List ADef) (up:Option Chain) (H:AHeap) (Q:Post) :
 WP AP ctx qaa ⟨tm,dfs,up,H⟩ Q =
 (GS AP dirty ctx kh ⟨tm,dfs,up,H⟩ (SEQ (WP AP ctx qac) Q)):=Gxrseq AP ctx _ _ kh qac
theorem qca (ctx:Ctx) (tm:T AV) (dfs:List ADef) (up:Option Chain) (H:AHeap) (Q:Post) :
 GS AP true ctx kh ⟨tm,dfs,up,H⟩ Q =
 (LK dirty (tm.get 4) fun g ti4=>BI g (Op.move [ti4]) fun g t3=>GO g Q .normal ⟨(setsE [(3,t3)] tm),dfs,up,H⟩):=kw (l:=kh) (by kernel_rfl)
theorem qeu (ctx:Ctx) (tm:T AV) (dfs:List ADef) (up:Option Chain) (H:AHeap) (Q:Post) :
 WP AP ctx qaz ⟨tm,dfs,up,H⟩ Q =
 (BI dirty (tm.get 8) fun g v=>BI g (asBool v) fun g q=>IG g q (fun g=>GW AP g ctx qa4 ⟨tm,dfs,up,H⟩ Q) (fun g=>GW AP g ctx qaa ⟨tm,dfs,up,H⟩ Q)):=Gxcond AP ctx _ _ 8 qa4 qaa
theorem qet (ctx:Ctx) (tm:T AV) (dfs:List ADef) (up:Option Chain) (H:AHeap) (Q:Post) :
 WP AP ctx qba ⟨tm,dfs,up,H⟩ Q =
 (GS AP dirty ctx kz ⟨tm,dfs,up,H⟩ (SEQ (WP AP ctx qaz) Q)):=Gxrseq AP ctx _ _ kz qaz
theorem qcu (ctx:Ctx) (tm:T AV) (dfs:List ADef) (up:Option Chain) (H:AHeap) (Q:Post) :
 GS AP true ctx kz ⟨tm,dfs,up,H⟩ Q =
 (LK dirty (tm.get 4) fun g ti4=>BI g ((Op.typeAssert xx true (.agg [(.int .i64 0)])) [ti4]) fun g t7=>BI g ((Op.extract 1) [t7]) fun g t8=>BI g ((Op.extract 0) [t7]) fun g t9 =>
 GO g Q .normal ⟨(setsE [(9,t9),(8,t8),(7,t7)] tm),dfs,up,H⟩):=kw (l:=kz) (by kernel_rfl)
theorem qfd (ctx:Ctx) (tm:T AV) (dfs:List ADef) (up:Option Chain) (H:AHeap) (Q:Post) :
 WP AP ctx qay ⟨tm,dfs,up,H⟩ Q =
 (BI dirty (tm.get 6) fun g v=>BI g (asBool v) fun g q=>IG g q (fun g=>GW AP g ctx qa5 ⟨tm,dfs,up,H⟩ Q) (fun g=>GW AP g ctx qba ⟨tm,dfs,up,H⟩ Q)):=Gxcond AP ctx _ _ 6 qa5 qba
theorem qff (ctx:Ctx) (tm:T AV) (dfs:List ADef) (up:Option Chain) (H:AHeap) (Q:Post) :
 WP AP ctx qa7 ⟨tm,dfs,up,H⟩ Q =
 (GS AP dirty ctx ye ⟨tm,dfs,up,H⟩ (SEQ (WP AP ctx qay) Q)):=Gxrseq AP ctx _ _ ye qay
theorem qcs (ctx:Ctx) (tm:T AV) (dfs:List ADef) (up:Option Chain) (H:AHeap) (Q:Post) :
 GS AP true ctx ye ⟨tm,dfs,up,H⟩ Q =
 (LK dirty (tm.get 4) fun g ti4=>BI g ((Op.eq .iface false) [ti4,.nili] H) fun g t6=>GO g Q .normal ⟨(setsE [(6,t6)] tm),dfs,up,H⟩):=kw (l:=ye) (by kernel_rfl)
theorem qe9 (ctx:Ctx) (tm:T AV) (dfs:List ADef) (up:Option Chain) (H:AHeap) (Q:Post) :
 WP AP ctx qax ⟨tm,dfs,up,H⟩ Q =
 (WP AP ctx qa7 ⟨tm,dfs,up,H⟩ (BLK 0 Q)):=WP_block AP ctx _ _ 0 qa7
theorem qev (ctx:Ctx) (tm:T AV) (dfs:List ADef) (up:Option Chain) (H:AHeap) (Q:Post) :
 WP AP ctx qg1 ⟨tm,dfs,up,H⟩ Q =
 (GS AP dirty ctx yd ⟨tm,dfs,up,H⟩ (SEQ (WP AP ctx qax) Q)):=Gxrseq AP ctx _ _ yd qax
theorem qcn (ctx:Ctx) (tm:T AV) (dfs:List ADef) (up:Option Chain) (H:AHeap) (Q:Post) :
 GS AP true ctx yd ⟨tm,dfs,up,H⟩ Q =
 (RC dirty ctx up fun g t4 up1=>GO g Q .normal ⟨(setsE [(4,t4)] tm),dfs,up1,H⟩):=kw (l:=yd) (by kernel_rfl)
end
open Go.Proofs Go.Proofs.YtbimikjajohflaaDoor
theorem qo2:(cProg Tryd.prog).func qbe = some qjn:=by kernel_rfl
theorem qgv:(cProg Tryd.prog).func jf = some qdq:=by kernel_rfl
end Go.Am
