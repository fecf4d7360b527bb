/- CodeR: CodeS CodeWA CodeWD CodeWB CodeRA CodeRB. -/
import Derived.Test.YtkfheegmlgfdoaaDoorAmRB4
import Derived.Test.YtkfheegmlgfdoaaDoorAmRB1
import Derived.KernelRfl
import Derived.Test.YtkfheegmlgfdoaaDoorRows
set_option linter.unusedVariables false
set_option maxRecDepth 100000
namespace Go.Am
abbrev qdd : Nat := 81
abbrev xp : Nat := 72
abbrev qgg : Nat := 71
abbrev xu : Nat := 96
abbrev xg : Nat := 84
abbrev qcp : Nat := 85
abbrev xr : Nat := 94
abbrev xv : Nat := 83
abbrev x9 : Nat := 82
abbrev N_law23_alive : Nat := 15
abbrev ji : Nat := 95
abbrev zg : Nat := 53
abbrev qpr : Nat := 52
abbrev qgu : Nat := 54
abbrev qfv : Nat := 56
abbrev qco : Nat := 55
abbrev qeg : Nat := 73
abbrev qg0 : Nat := 74
abbrev qpo : Nat := 34
abbrev T__97 : Nat := 125
abbrev qm : Nat := 9
abbrev qla : Nat := 97
abbrev j6 : Nat := 5
abbrev xx : Nat := 2
def C_CodeS_0 : List UInt8 := [115, 116, 114, 105, 110, 103, 115, 58, 32, 74, 111, 105, 110, 32, 111, 117, 116, 112, 117, 116, 32, 108, 101, 110, 103, 116, 104, 32, 111, 118, 101, 114, 102, 108, 111, 119]
def C_CodeS_1 : List UInt8 := [115, 116, 114, 105, 110, 103, 115, 46, 66, 117, 105, 108, 100, 101, 114, 46, 71, 114, 111, 119, 58, 32, 110, 101, 103, 97, 116, 105, 118, 101, 32, 99, 111, 117, 110, 116]
def qnu : List UInt8 := [48, 49, 50, 51, 52, 53, 54, 55, 56, 57, 97, 98, 99, 100, 101, 102, 103, 104, 105, 106, 107, 108, 109, 110, 111, 112, 113, 114, 115, 116, 117, 118, 119, 120, 121, 122]
def zu : List UInt8 := [48, 48, 48, 49, 48, 50, 48, 51, 48, 52, 48, 53, 48, 54, 48, 55, 48, 56, 48, 57, 49, 48, 49, 49, 49, 50, 49, 51, 49, 52, 49, 53, 49, 54, 49, 55, 49, 56, 49, 57, 50, 48, 50, 49, 50, 50, 50, 51, 50, 52, 50, 53, 50, 54, 50, 55, 50, 56, 50, 57, 51, 48, 51, 49, 51, 50, 51, 51, 51, 52, 51, 53, 51, 54, 51, 55, 51, 56, 51, 57, 52, 48, 52, 49, 52, 50, 52, 51, 52, 52, 52, 53, 52, 54, 52, 55, 52, 56, 52, 57, 53, 48, 53, 49, 53, 50, 53, 51, 53, 52, 53, 53, 53, 54, 53, 55, 53, 56, 53, 57, 54, 48, 54, 49, 54, 50, 54, 51, 54, 52, 54, 53, 54, 54, 54, 55, 54, 56, 54, 57, 55, 48, 55, 49, 55, 50, 55, 51, 55, 52, 55, 53, 55, 54, 55, 55, 55, 56, 55, 57, 56, 48, 56, 49, 56, 50, 56, 51, 56, 52, 56, 53, 56, 54, 56, 55, 56, 56, 56, 57, 57, 48, 57, 49, 57, 50, 57, 51, 57, 52, 57, 53, 57, 54, 57, 55, 57, 56, 57, 57]
def qju : List UInt8 := [0, 1, 2, 2, 3, 3, 3, 3, 4, 4, 4, 4, 4, 4, 4, 4, 5, 5, 5, 5, 5, 5, 5, 5, 5, 5, 5, 5, 5, 5, 5, 5, 6, 6, 6, 6, 6, 6, 6, 6, 6, 6, 6, 6, 6, 6, 6, 6, 6, 6, 6, 6, 6, 6, 6, 6, 6, 6, 6, 6, 6, 6, 6, 6, 7, 7, 7, 7, 7, 7, 7, 7, 7, 7, 7, 7, 7, 7, 7, 7, 7, 7, 7, 7, 7, 7, 7, 7, 7, 7, 7, 7, 7, 7, 7, 7, 7, 7, 7, 7, 7, 7, 7, 7, 7, 7, 7, 7, 7, 7, 7, 7, 7, 7, 7, 7, 7, 7, 7, 7, 7, 7, 7, 7, 7, 7, 7, 7, 8, 8, 8, 8, 8, 8, 8, 8, 8, 8, 8, 8, 8, 8, 8, 8, 8, 8, 8, 8, 8, 8, 8, 8, 8, 8, 8, 8, 8, 8, 8, 8, 8, 8, 8, 8, 8, 8, 8, 8, 8, 8, 8, 8, 8, 8, 8, 8, 8, 8, 8, 8, 8, 8, 8, 8, 8, 8, 8, 8, 8, 8, 8, 8, 8, 8, 8, 8, 8, 8, 8, 8, 8, 8, 8, 8, 8, 8, 8, 8, 8, 8, 8, 8, 8, 8, 8, 8, 8, 8, 8, 8, 8, 8, 8, 8, 8, 8, 8, 8, 8, 8, 8, 8, 8, 8, 8, 8, 8, 8, 8, 8, 8, 8, 8, 8, 8, 8, 8, 8, 8, 8, 8, 8, 8, 8, 8, 8]
noncomputable section
open Go.Proofs Go.Proofs.YtkfheegmlgfdoaaDoor
class MK (M : Mac) : Prop where
  ok : ∀ n, memN n [15] = false → M.func n = (cProg Tryd.prog).func n
theorem MK.at {M : Mac} [h : MK M] {n : Nat} {F : AFunc} (hn : memN n [15] = false) (hF : (cProg Tryd.prog).func n = some F) : M.func n = some F := (h.ok n hn).trans hF
def qqf : AFunc := funcAt Tryd.prog qpo
def qp6 : Kp := ⟨[0, 1, 4, 5, 7, 8, 10, 12, 39, 40, 41, 63, 64, 65], false, [0, 2, 19, 21, 25, 31, 33, 38, 44, 48, 54, 55, 56, 60, 62, 67, 73, 80, 81]⟩
def strings_Join_p (k : Nat) : Kp × ACode := (qp6, part qqf.body k)
def qp5 : AFunc := funcAt Tryd.prog qpr
def qpu : Kp := ⟨[0, 2], false, [0]⟩
def strconv_Itoa_p (k : Nat) : Kp × ACode := (qpu, part qp5.body k)
def yy : AFunc := funcAt Tryd.prog zg
def qcx : Kp := ⟨[0, 1, 4], false, [0]⟩
def qc1 (k : Nat) : Kp × ACode := (qcx, part yy.body k)
theorem qcw (M : Mac) (c : Ctx) : (∀ Q E D H, W M c (qc1 0) true Q E D H =
  LK true (lk E 0) fun g t0 => LK g (lk E 1) fun g t1 => C3 M g (.func xp) [t0, t1] H fun g t7 H1 => GO3 g Q .ret ((4, t7)::(4, (.str []))::E) D H1) := by intro _ _ _ _; refine W_unf ?_; kernel_rfl
theorem qcy : (cProg Tryd.prog).func zg = some yy ∧ yy.results = [.tmp 4] := qw (by kernel_rfl)
theorem qhm {M : Mac} [MK M] : M.func zg = some yy := MK.at (by decide) qcy.1
theorem qii {M : Mac} [MK M] {a0 a1 : AV} {H : AHeap} {Q : AEnd → AHeap → Prop} (h : W M ⟨none, zg⟩ (qc1 0) true (FIN3 M [.tmp 4] Q) [(0, a0), (1, a1)] [] H) : CALLE M zg [a0, a1] H Q :=
  calle qhm (ks := qcx) (by kernel_rfl) (by rw [qcy.2]; exact h)
def qgs : AFunc := funcAt Tryd.prog qgu
def qgw : Kp := ⟨[0, 1], false, [0, 2, 8]⟩
def qtx (k : Nat) : Kp × ACode := (qgw, part qgs.body k)
def qcm : AFunc := funcAt Tryd.prog qco
def qcr : Kp := ⟨[0, 1, 4, 5], false, [0]⟩
def qmv (k : Nat) : Kp × ACode := (qcr, part qcm.body k)
def qfd : AFunc := funcAt Tryd.prog qfv
def qfz : Kp := ⟨[0, 2], false, [0]⟩
def qq1 (k : Nat) : Kp × ACode := (qfz, part qfd.body k)
def qf1 : AFunc := funcAt Tryd.prog qgg
def qgj : Kp := ⟨[0, 2], false, [0]⟩
def qru (k : Nat) : Kp × ACode := (qgj, part qf1.body k)
def jd : AFunc := funcAt Tryd.prog xp
def vt : Kp := ⟨[0, 1, 4, 5, 6, 8], false, [0, 2, 6, 14, 24]⟩
def qp (k : Nat) : Kp × ACode := (vt, part jd.body k)
theorem jc (M : Mac) (c : Ctx) : (∀ Q E D H, W M c (qp 0) true Q E D H =
  W M c (qp 2) true Q ((4, (.str []))::E) D H) ∧
 (∀ Q E D H, W M c (qp 2) true Q E D H =
  LK true (lk E 1) fun g t1 => B3 g ((Op.bin .eql) [t1, (.int .i64 10)]) fun g t10 => IF3 g t10 (fun g => W M c (qp 6) g (SEQ3 (W M c (qp 24)) Q) E D H) (fun g => GO3 g (SEQ3 (W M c (qp 24)) Q) .normal E D H)) ∧
 (∀ Q E D H, W M c (qp 24) true Q E D H =
  LK true (lk E 0) fun g t0 => LK g (lk E 1) fun g t1 => C3 M g (.func qcp) [.nils, t0, t1, (.bool false), (.bool false)] H fun g t28 H1 => B3 g ((Op.extract 0) [t28]) fun g t29 => B3 g ((Op.extract 1) [t28]) fun g t30 => GO3 g Q .ret ((4, t30)::(8, t30)::E) D H1) ∧
 (∀ Q E D H, W M c (qp 6) true Q E D H =
  LK true (lk E 0) fun g t0 => B3 g ((Op.bin .lss) [t0, (.int .u64 100)]) fun g t12 => IF3 g t12 (fun g => LK g (lk E 0) fun g t0_1 => B3 g ((Op.wrap .i64) [t0_1]) fun g t14 => C3 M g (.func x9) [t14] H fun g t15 H1 => GO3 g (SEQ3 (W M c (qp 14)) Q) .ret ((4, t15)::E) D H1) (fun g => GO3 g (SEQ3 (W M c (qp 14)) Q) .normal E D H)) ∧
 (∀ Q E D H, W M c (qp 14) true Q E D H =
  A3 true T__97 (List.replicate 24 (.int .u8 0)) H fun g t5 H1 => LK g (lk E 0) fun g t0 => C3 M g (.func xv) [t0] H1 fun g t17 H2 => B3 g ((Op.sliceArr 24 1 [none, (some 0), none]) [t5, t17]) fun g t19 => LK g (lk E 0) fun g t0_1 => C3 M g (.func xg) [t19, t0_1] H2 fun g t21 H3 => B3 g ((Op.sliceArr 24 1 [none, (some 0), none]) [t5, t17]) fun g t23 => B3 g (Op.strOfBytes [t23] H3) fun g t24 => GO3 g Q .ret ((4, t24)::(6, t17)::(5, t5)::E) D H3) := by (repeat' apply And.intro) <;> (intro _ _ _ _; refine W_unf ?_; kernel_rfl)
theorem vu : (cProg Tryd.prog).func xp = some jd ∧ jd.results = [.tmp 4] := qw (by kernel_rfl)
theorem qce {M : Mac} [MK M] : M.func xp = some jd := MK.at (by decide) vu.1
theorem qcj {M : Mac} [MK M] {a0 a1 : AV} {H : AHeap} {Q : AEnd → AHeap → Prop} (h : W M ⟨none, xp⟩ (qp 0) true (FIN3 M [.tmp 4] Q) [(0, a0), (1, a1)] [] H) : CALLE M xp [a0, a1] H Q :=
  calle qce (ks := vt) (by kernel_rfl) (by rw [vu.2]; exact h)
def qem : AFunc := funcAt Tryd.prog qeg
def qel : Kp := ⟨[0], false, [0]⟩
def qnm (k : Nat) : Kp × ACode := (qel, part qem.body k)
def qgt : AFunc := funcAt Tryd.prog qg0
def qgv : Kp := ⟨[0, 1, 4], false, [0]⟩
def qty (k : Nat) : Kp × ACode := (qgv, part qgt.body k)
def qde : AFunc := funcAt Tryd.prog qdd
def qdm : Kp := ⟨[0, 1, 4, 5, 6, 7, 9], false, [0, 2, 6, 14, 18, 24, 28, 38, 42]⟩
def qm3 (k : Nat) : Kp × ACode := (qdm, part qde.body k)
def j4 : AFunc := funcAt Tryd.prog x9
def qa6 : Kp := ⟨[0, 2], false, [0, 2, 10]⟩
def x6 (k : Nat) : Kp × ACode := (qa6, part j4.body k)
theorem qa0 (M : Mac) (c : Ctx) : (∀ Q E D H, W M c (x6 0) true Q E D H =
  W M c (x6 2) true Q ((2, (.str []))::E) D H) ∧
 (∀ Q E D H, W M c (x6 2) true Q E D H =
  LK true (lk E 0) fun g t0 => B3 g ((Op.bin .lss) [t0, (.int .i64 10)]) fun g t4 => IF3 g t4 (fun g => LK g (lk E 0) fun g t0_1 => B3 g ((Op.bin .add) [t0_1, (.int .i64 1)]) fun g t7 => B3 g ((Op.sliceStr [(some 0), (some 1)]) [(.str qnu), t0_1, t7]) fun g t8 => GO3 g (SEQ3 (W M c (x6 10)) Q) .ret ((2, t8)::E) D H) (fun g => GO3 g (SEQ3 (W M c (x6 10)) Q) .normal E D H)) ∧
 (∀ Q E D H, W M c (x6 10) true Q E D H =
  LK true (lk E 0) fun g t0 => B3 g ((Op.bin .mul) [t0, (.int .i64 2)]) fun g t10 => B3 g ((Op.bin .mul) [t0, (.int .i64 2)]) fun g t12 => B3 g ((Op.bin .add) [t12, (.int .i64 2)]) fun g t13 => B3 g ((Op.sliceStr [(some 0), (some 1)]) [(.str zu), t10, t13]) fun g t14 => GO3 g Q .ret ((2, t14)::E) D H) := by (repeat' apply And.intro) <;> (intro _ _ _ _; refine W_unf ?_; kernel_rfl)
theorem qa4 : (cProg Tryd.prog).func x9 = some j4 ∧ j4.results = [.tmp 2] := qw (by kernel_rfl)
theorem qe8 {M : Mac} [MK M] : M.func x9 = some j4 := MK.at (by decide) qa4.1
theorem qfq {M : Mac} [MK M] {a0 : AV} {H : AHeap} {Q : AEnd → AHeap → Prop} (h : W M ⟨none, x9⟩ (x6 0) true (FIN3 M [.tmp 2] Q) [(0, a0)] [] H) : CALLE M x9 [a0] H Q :=
  calle qe8 (ks := qa6) (by kernel_rfl) (by rw [qa4.2]; exact h)
def jp : AFunc := funcAt Tryd.prog xv
def qac : Kp := ⟨[0, 2, 3], false, [0]⟩
def qab (k : Nat) : Kp × ACode := (qac, part jp.body k)
theorem zi (M : Mac) (c : Ctx) : (∀ Q E D H, W M c (qab 0) true Q E D H =
  LK true (lk E 0) fun g t0 => C3 M g (.func ji) [t0] H fun g t5 H1 => C3 M g (.func xr) [t5] H1 fun g t6 H2 => LK g (lk E 0) fun g t0_1 => B3 g ((Op.indexArr 20 1) [(.ptr xx 0), t6]) fun g t10 => B3 g (Op.load1 [t10] H2) fun g t11 => B3 g ((Op.bin .geq) [t0_1, t11]) fun g t12 => C3 M g (.func xu) [t12] H2 fun g t13 H3 => B3 g ((Op.bin .add) [t6, t13]) fun g t14 => GO3 g Q .ret ((2, t14)::(3, t6)::(2, (.int .i64 0))::E) D H3) := by intro _ _ _ _; refine W_unf ?_; kernel_rfl
theorem wt : (cProg Tryd.prog).func xv = some jp ∧ jp.results = [.tmp 2] := qw (by kernel_rfl)
theorem qcl {M : Mac} [MK M] : M.func xv = some jp := MK.at (by decide) wt.1
theorem qda {M : Mac} [MK M] {a0 : AV} {H : AHeap} {Q : AEnd → AHeap → Prop} (h : W M ⟨none, xv⟩ (qab 0) true (FIN3 M [.tmp 2] Q) [(0, a0)] [] H) : CALLE M xv [a0] H Q :=
  calle qcl (ks := qac) (by kernel_rfl) (by rw [wt.2]; exact h)
def zt : AFunc := funcAt Tryd.prog xg
def vb : Kp := ⟨[0, 1, 4, 5, 6, 7, 8, 9, 10, 11, 12, 13, 14, 15, 16], false, [0, 2, 5, 11, 16, 20, 24, 31, 33, 39, 43, 49, 61]⟩
def qc (k : Nat) : Kp × ACode := (vb, part zt.body k)
theorem xf (M : Mac) (c : Ctx) : (∀ Q E D H, W M c (qc 0) true Q E D H =
  LK true (lk E 0) fun g t0 => B3 g (Op.lenSl [t0]) fun g t18 => W M c (qc 2) g Q ((4, t18)::E) D H) ∧
 (∀ Q E D H, W M c (qc 2) true Q E D H =
  LOOP3 (W M c (qc 5)) (BLK3 0 (SEQ3 (W M c (qc 31)) Q)) E D H) ∧
 (∀ Q E D H, W M c (qc 31) true Q E D H =
  LK true (lk E 1) fun g t1 => B3 g ((Op.wrap .u32) [t1]) fun g t97 => W M c (qc 33) g Q ((12, t97)::E) D H) ∧
 (∀ Q E D H, W M c (qc 5) true Q E D H =
  LK true (lk E 4) fun g t4 => B3 g ((Op.bin .geq) [t4, (.int .i64 8)]) fun g t20 => IF3 g t20 (fun g => GO3 g (SEQ3 (W M c (qc 11)) Q) .normal E D H) (fun g => GO3 g (SEQ3 (W M c (qc 11)) Q) (.exit 0) E D H)) ∧
 (∀ Q E D H, W M c (qc 33) true Q E D H =
  LK true (lk E 4) fun g t4 => B3 g ((Op.bin .geq) [t4, (.int .i64 4)]) fun g t99 => IF3 g t99 (fun g => LK g (lk E 12) fun g t12 => B3 g ((Op.bin .rem) [t12, (.int .u32 10000)]) fun g t101 => W M c (qc 39) g (SEQ3 (W M c (qc 49)) Q) ((13, t101)::E) D H) (fun g => GO3 g (SEQ3 (W M c (qc 49)) Q) .normal E D H)) ∧
 (∀ Q E D H, W M c (qc 11) true Q E D H =
  LK true (lk E 1) fun g t1 => B3 g ((Op.bin .rem) [t1, (.int .u64 100000000)]) fun g t22 => B3 g ((Op.wrap .u32) [t22]) fun g t23 => LK g (lk E 1) fun g t1_1 => B3 g ((Op.bin .quo) [t1_1, (.int .u64 100000000)]) fun g t25 => W M c (qc 16) g (BLK3 1 Q) ((1, t25)::(5, t23)::E) D H) ∧
 (∀ Q E D H, W M c (qc 49) true Q E D H =
  LK true (lk E 4) fun g t4 => B3 g ((Op.bin .geq) [t4, (.int .i64 2)]) fun g t139 => IF3 g t139 (fun g => LK g (lk E 12) fun g t12 => B3 g ((Op.bin .rem) [t12, (.int .u32 100)]) fun g t141 => B3 g ((Op.bin .mul) [t141, (.int .u32 2)]) fun g t142 => LK g (lk E 12) fun g t12_1 => B3 g ((Op.bin .quo) [t12_1, (.int .u32 100)]) fun g t144 => LK g (lk E 0) fun g t0 => LK g (lk E 4) fun g t4_1 => B3 g ((Op.bin .sub) [t4_1, (.int .i64 1)]) fun g t147 => B3 g ((Op.bin .sub) [t4_1, (.int .i64 2)]) fun g t150 => B3 g ((Op.bin .add) [t142, (.int .u32 1)]) fun g t152 => B3 g (Op.indexStr [(.str zu), t152]) fun g t153 => B3 g (Op.indexStr [(.str zu), t142]) fun g t155 => B3 g ((Op.indexSl 1) [t0, t147]) fun g t156 => B32 g ((Op.store 1) [t156, t153] H) fun g u H1 => B3 g ((Op.indexSl 1) [t0, t150]) fun g t157 => B32 g ((Op.store 1) [t157, t155] H1) fun g u_1 H2 => LK g (lk E 4) fun g t4_2 => B3 g ((Op.bin .sub) [t4_2, (.int .i64 2)]) fun g t159 => GO3 g (SEQ3 (W M c (qc 61)) Q) .normal ((4, t159)::(12, t144)::(16, t142)::E) D H2) (fun g => GO3 g (SEQ3 (W M c (qc 61)) Q) .normal E D H)) ∧
 (∀ Q E D H, W M c (qc 39) true Q E D H =
  LK true (lk E 12) fun g t12 => B3 g ((Op.bin .quo) [t12, (.int .u32 10000)]) fun g t103 => LK g (lk E 13) fun g t13 => B3 g ((Op.bin .quo) [t13, (.int .u32 100)]) fun g t105 => B3 g ((Op.bin .mul) [t105, (.int .u32 2)]) fun g t106 => B3 g ((Op.bin .rem) [t13, (.int .u32 100)]) fun g t108 => B3 g ((Op.bin .mul) [t108, (.int .u32 2)]) fun g t109 => W M c (qc 43) g Q ((15, t109)::(14, t106)::(12, t103)::E) D H) ∧
 (∀ Q E D H, W M c (qc 16) true Q E D H =
  LK true (lk E 5) fun g t5 => B3 g ((Op.bin .quo) [t5, (.int .u32 10000)]) fun g t27 => B3 g ((Op.bin .rem) [t5, (.int .u32 10000)]) fun g t29 => B3 g ((Op.bin .quo) [t29, (.int .u32 100)]) fun g t31 => B3 g ((Op.bin .mul) [t31, (.int .u32 2)]) fun g t32 => B3 g ((Op.bin .rem) [t29, (.int .u32 100)]) fun g t34 => B3 g ((Op.bin .mul) [t34, (.int .u32 2)]) fun g t35 => W M c (qc 20) g Q ((9, t35)::(8, t32)::(7, t29)::(6, t27)::E) D H) ∧
 (∀ Q E D H, W M c (qc 61) true Q E D H =
  LK true (lk E 4) fun g t4 => B3 g ((Op.bin .gtr) [t4, (.int .i64 0)]) fun g t161 => IF3 g t161 (fun g => LK g (lk E 0) fun g t0 => LK g (lk E 12) fun g t12 => B3 g ((Op.bin .add) [(.int .u32 48), t12]) fun g t164 => B3 g ((Op.wrap .u8) [t164]) fun g t165 => B3 g ((Op.indexSl 1) [t0, (.int .i64 0)]) fun g t166 => B32 g ((Op.store 1) [t166, t165] H) fun g u H1 => GO3 g Q .normal E D H1) (fun g => GO3 g Q .normal E D H)) ∧
 (∀ Q E D H, W M c (qc 43) true Q E D H =
  LK true (lk E 0) fun g t0 => LK g (lk E 4) fun g t4 => B3 g ((Op.bin .sub) [t4, (.int .i64 1)]) fun g t112 => B3 g ((Op.bin .sub) [t4, (.int .i64 2)]) fun g t115 => LK g (lk E 15) fun g t15 => B3 g ((Op.bin .add) [t15, (.int .u32 1)]) fun g t117 => B3 g (Op.indexStr [(.str zu), t117]) fun g t118 => B3 g (Op.indexStr [(.str zu), t15]) fun g t120 => B3 g ((Op.indexSl 1) [t0, t112]) fun g t121 => B32 g ((Op.store 1) [t121, t118] H) fun g u H1 => B3 g ((Op.indexSl 1) [t0, t115]) fun g t122 => B32 g ((Op.store 1) [t122, t120] H1) fun g u_1 H2 => LK g (lk E 0) fun g t0_1 => LK g (lk E 4) fun g t4_1 => B3 g ((Op.bin .sub) [t4_1, (.int .i64 3)]) fun g t125 => B3 g ((Op.bin .sub) [t4_1, (.int .i64 4)]) fun g t128 => LK g (lk E 14) fun g t14 => B3 g ((Op.bin .add) [t14, (.int .u32 1)]) fun g t130 => B3 g (Op.indexStr [(.str zu), t130]) fun g t131 => B3 g (Op.indexStr [(.str zu), t14]) fun g t133 => B3 g ((Op.indexSl 1) [t0_1, t125]) fun g t134 => B32 g ((Op.store 1) [t134, t131] H2) fun g u_2 H3 => B3 g ((Op.indexSl 1) [t0_1, t128]) fun g t135 => B32 g ((Op.store 1) [t135, t133] H3) fun g u_3 H4 => LK g (lk E 4) fun g t4_2 => B3 g ((Op.bin .sub) [t4_2, (.int .i64 4)]) fun g t137 => GO3 g Q .normal ((4, t137)::E) D H4) ∧
 (∀ Q E D H, W M c (qc 20) true Q E D H =
  LK true (lk E 6) fun g t6 => B3 g ((Op.bin .quo) [t6, (.int .u32 100)]) fun g t37 => B3 g ((Op.bin .mul) [t37, (.int .u32 2)]) fun g t38 => B3 g ((Op.bin .rem) [t6, (.int .u32 100)]) fun g t40 => B3 g ((Op.bin .mul) [t40, (.int .u32 2)]) fun g t41 => LK g (lk E 0) fun g t0 => LK g (lk E 4) fun g t4 => B3 g ((Op.bin .sub) [t4, (.int .i64 1)]) fun g t44 => B3 g ((Op.bin .sub) [t4, (.int .i64 2)]) fun g t47 => LK g (lk E 9) fun g t9 => B3 g ((Op.bin .add) [t9, (.int .u32 1)]) fun g t49 => B3 g (Op.indexStr [(.str zu), t49]) fun g t50 => B3 g (Op.indexStr [(.str zu), t9]) fun g t52 => B3 g ((Op.indexSl 1) [t0, t44]) fun g t53 => B32 g ((Op.store 1) [t53, t50] H) fun g u H1 => B3 g ((Op.indexSl 1) [t0, t47]) fun g t54 => B32 g ((Op.store 1) [t54, t52] H1) fun g u_1 H2 => W M c (qc 24) g Q ((11, t41)::(10, t38)::E) D H2) ∧
 (∀ Q E D H, W M c (qc 24) true Q E D H =
  LK true (lk E 0) fun g t0 => LK g (lk E 4) fun g t4 => B3 g ((Op.bin .sub) [t4, (.int .i64 3)]) fun g t57 => B3 g ((Op.bin .sub) [t4, (.int .i64 4)]) fun g t60 => LK g (lk E 8) fun g t8 => B3 g ((Op.bin .add) [t8, (.int .u32 1)]) fun g t62 => B3 g (Op.indexStr [(.str zu), t62]) fun g t63 => B3 g (Op.indexStr [(.str zu), t8]) fun g t65 => B3 g ((Op.indexSl 1) [t0, t57]) fun g t66 => B32 g ((Op.store 1) [t66, t63] H) fun g u H1 => B3 g ((Op.indexSl 1) [t0, t60]) fun g t67 => B32 g ((Op.store 1) [t67, t65] H1) fun g u_1 H2 => LK g (lk E 0) fun g t0_1 => LK g (lk E 4) fun g t4_1 => B3 g ((Op.bin .sub) [t4_1, (.int .i64 5)]) fun g t70 => B3 g ((Op.bin .sub) [t4_1, (.int .i64 6)]) fun g t73 => LK g (lk E 11) fun g t11 => B3 g ((Op.bin .add) [t11, (.int .u32 1)]) fun g t75 => B3 g (Op.indexStr [(.str zu), t75]) fun g t76 => B3 g (Op.indexStr [(.str zu), t11]) fun g t78 => B3 g ((Op.indexSl 1) [t0_1, t70]) fun g t79 => B32 g ((Op.store 1) [t79, t76] H2) fun g u_2 H3 => B3 g ((Op.indexSl 1) [t0_1, t73]) fun g t80 => B32 g ((Op.store 1) [t80, t78] H3) fun g u_3 H4 => LK g (lk E 0) fun g t0_2 => LK g (lk E 4) fun g t4_2 => B3 g ((Op.bin .sub) [t4_2, (.int .i64 7)]) fun g t83 => B3 g ((Op.bin .sub) [t4_2, (.int .i64 8)]) fun g t86 => LK g (lk E 10) fun g t10 => B3 g ((Op.bin .add) [t10, (.int .u32 1)]) fun g t88 => B3 g (Op.indexStr [(.str zu), t88]) fun g t89 => B3 g (Op.indexStr [(.str zu), t10]) fun g t91 => B3 g ((Op.indexSl 1) [t0_2, t83]) fun g t92 => B32 g ((Op.store 1) [t92, t89] H4) fun g u_4 H5 => B3 g ((Op.indexSl 1) [t0_2, t86]) fun g t93 => B32 g ((Op.store 1) [t93, t91] H5) fun g u_5 H6 => LK g (lk E 4) fun g t4_3 => B3 g ((Op.bin .sub) [t4_3, (.int .i64 8)]) fun g t95 => GO3 g Q .normal ((4, t95)::E) D H6) := by (repeat' apply And.intro) <;> (intro _ _ _ _; refine W_unf ?_; kernel_rfl)
theorem y9 : (cProg Tryd.prog).func xg = some zt ∧ zt.results = [] := qw (by kernel_rfl)
theorem qbq {M : Mac} [MK M] : M.func xg = some zt := MK.at (by decide) y9.1
theorem qbu {M : Mac} [MK M] {a0 a1 : AV} {H : AHeap} {Q : AEnd → AHeap → Prop} (h : W M ⟨none, xg⟩ (qc 0) true (FIN3 M [] Q) [(0, a0), (1, a1)] [] H) : CALLE M xg [a0, a1] H Q :=
  calle qbq (ks := vb) (by kernel_rfl) (by rw [y9.2]; exact h)
def jn : AFunc := funcAt Tryd.prog xr
def wn : Kp := ⟨[0, 2], false, [0]⟩
def qad (k : Nat) : Kp × ACode := (wn, part jn.body k)
theorem qdv (M : Mac) (c : Ctx) : (∀ Q E D H, W M c (qad 0) true Q E D H =
  LK true (lk E 0) fun g t0 => B3 g ((Op.bin .mul) [t0, (.int .i64 78913)]) fun g t4 => B3 g ((Op.bin .shr) [t4, (.int .u64 18)]) fun g t5 => GO3 g Q .ret ((2, t5)::(2, (.int .i64 0))::E) D H) := by intro _ _ _ _; refine W_unf ?_; kernel_rfl
theorem we : (cProg Tryd.prog).func xr = some jn ∧ jn.results = [.tmp 2] := qw (by kernel_rfl)
theorem qci {M : Mac} [MK M] : M.func xr = some jn := MK.at (by decide) we.1
theorem qdf {M : Mac} [MK M] {a0 : AV} {H : AHeap} {Q : AEnd → AHeap → Prop} (h : W M ⟨none, xr⟩ (qad 0) true (FIN3 M [.tmp 2] Q) [(0, a0)] [] H) : CALLE M xr [a0] H Q :=
  calle qci (ks := wn) (by kernel_rfl) (by rw [we.2]; exact h)
def qal : AFunc := funcAt Tryd.prog ji
def qfr : Kp := ⟨[0, 2], false, [0, 2, 10, 18, 26]⟩
def xj (k : Nat) : Kp × ACode := (qfr, part qal.body k)
theorem qak (M : Mac) (c : Ctx) : (∀ Q E D H, W M c (xj 0) true Q E D H =
  W M c (xj 2) true Q ((2, (.int .i64 0))::E) D H) ∧
 (∀ Q E D H, W M c (xj 2) true Q E D H =
  LK true (lk E 0) fun g t0 => B3 g ((Op.bin .geq) [t0, (.int .u64 4294967296)]) fun g t4 => IF3 g t4 (fun g => LK g (lk E 0) fun g t0_1 => B3 g ((Op.bin .shr) [t0_1, (.int .u64 32)]) fun g t6 => GO3 g (SEQ3 (W M c (xj 10)) Q) .normal ((2, (.int .i64 32))::(0, t6)::E) D H) (fun g => GO3 g (SEQ3 (W M c (xj 10)) Q) .normal E D H)) ∧
 (∀ Q E D H, W M c (xj 10) true Q E D H =
  LK true (lk E 0) fun g t0 => B3 g ((Op.bin .geq) [t0, (.int .u64 65536)]) fun g t8 => IF3 g t8 (fun g => LK g (lk E 0) fun g t0_1 => B3 g ((Op.bin .shr) [t0_1, (.int .u64 16)]) fun g t10 => LK g (lk E 2) fun g t2 => B3 g ((Op.bin .add) [t2, (.int .i64 16)]) fun g t12 => GO3 g (SEQ3 (W M c (xj 18)) Q) .normal ((2, t12)::(0, t10)::E) D H) (fun g => GO3 g (SEQ3 (W M c (xj 18)) Q) .normal E D H)) ∧
 (∀ Q E D H, W M c (xj 18) true Q E D H =
  LK true (lk E 0) fun g t0 => B3 g ((Op.bin .geq) [t0, (.int .u64 256)]) fun g t14 => IF3 g t14 (fun g => LK g (lk E 0) fun g t0_1 => B3 g ((Op.bin .shr) [t0_1, (.int .u64 8)]) fun g t16 => LK g (lk E 2) fun g t2 => B3 g ((Op.bin .add) [t2, (.int .i64 8)]) fun g t18 => GO3 g (SEQ3 (W M c (xj 26)) Q) .normal ((2, t18)::(0, t16)::E) D H) (fun g => GO3 g (SEQ3 (W M c (xj 26)) Q) .normal E D H)) ∧
 (∀ Q E D H, W M c (xj 26) true Q E D H =
  LK true (lk E 2) fun g t2 => LK g (lk E 0) fun g t0 => B3 g ((Op.wrap .u8) [t0]) fun g t21 => B3 g (Op.indexStr [(.str qju), t21]) fun g t22 => B3 g ((Op.wrap .i64) [t22]) fun g t23 => B3 g ((Op.bin .add) [t2, t23]) fun g t24 => GO3 g Q .ret ((2, t24)::E) D H) := by (repeat' apply And.intro) <;> (intro _ _ _ _; refine W_unf ?_; kernel_rfl)
theorem qfc : (cProg Tryd.prog).func ji = some qal ∧ qal.results = [.tmp 2] := qw (by kernel_rfl)
theorem qj8 {M : Mac} [MK M] : M.func ji = some qal := MK.at (by decide) qfc.1
theorem qk8 {M : Mac} [MK M] {a0 : AV} {H : AHeap} {Q : AEnd → AHeap → Prop} (h : W M ⟨none, ji⟩ (xj 0) true (FIN3 M [.tmp 2] Q) [(0, a0)] [] H) : CALLE M ji [a0] H Q :=
  calle qj8 (ks := qfr) (by kernel_rfl) (by rw [qfc.2]; exact h)
def jk : AFunc := funcAt Tryd.prog xu
def qaa : Kp := ⟨[0, 2], false, [0, 2, 10]⟩
def xq (k : Nat) : Kp × ACode := (qaa, part jk.body k)
theorem qdp (M : Mac) (c : Ctx) : (∀ Q E D H, W M c (xq 0) true Q E D H =
  W M c (xq 2) true Q ((2, (.int .i64 0))::E) D H) ∧
 (∀ Q E D H, W M c (xq 2) true Q E D H =
  LK true (lk E 0) fun g t0 => IF3 g t0 (fun g => GO3 g (SEQ3 (W M c (xq 10)) Q) .ret ((2, (.int .i64 1))::E) D H) (fun g => GO3 g (SEQ3 (W M c (xq 10)) Q) .normal E D H)) ∧
 (∀ Q E D H, W M c (xq 10) true Q E D H =
  GO3 true Q .ret ((2, (.int .i64 0))::E) D H) := by (repeat' apply And.intro) <;> (intro _ _ _ _; refine W_unf ?_; kernel_rfl)
theorem wy : (cProg Tryd.prog).func xu = some jk ∧ jk.results = [.tmp 2] := qw (by kernel_rfl)
theorem qck {M : Mac} [MK M] : M.func xu = some jk := MK.at (by decide) wy.1
theorem qdi {M : Mac} [MK M] {a0 : AV} {H : AHeap} {Q : AEnd → AHeap → Prop} (h : W M ⟨none, xu⟩ (xq 0) true (FIN3 M [.tmp 2] Q) [(0, a0)] [] H) : CALLE M xu [a0] H Q :=
  calle qck (ks := qaa) (by kernel_rfl) (by rw [wy.2]; exact h)
end
end Go.Am
namespace Go.Am
abbrev qqo : Nat := 10
abbrev qmi : Nat := 24
abbrev qvt : Nat := 12
abbrev qqq : Nat := 32
abbrev qmx : Nat := 23
abbrev qkk : Nat := 31
abbrev kz : Nat := 50
abbrev quf : Nat := 49
abbrev ya : Nat := 60
abbrev qwq : Nat := 26
abbrev qv5 : Nat := 33
abbrev qaw : Nat := 51
abbrev qxy : Nat := 25
abbrev qah : Nat := 62
abbrev qb : Nat := 37
abbrev qbg : Nat := 1
abbrev vn : Nat := 0
noncomputable section
open Go.Proofs Go.Proofs.YtkfheegmlgfdoaaDoor
def qp8 : AFunc := funcAt Tryd.prog qqo
def qqt : Kp := ⟨[0, 2, 3], false, [0]⟩
def trace_Encode_p (k : Nat) : Kp × ACode := (qqt, part qp8.body k)
def qui : AFunc := funcAt Tryd.prog qvt
def qtz : Kp := ⟨[0, 2, 3, 4, 5], false, [0]⟩
def trace_Text_p (k : Nat) : Kp × ACode := (qtz, part qui.body k)
def qmp : AFunc := funcAt Tryd.prog qmx
def qmu : Kp := ⟨[0, 1, 4, 5, 6, 8, 9, 10, 11], false, [0, 4, 9, 15, 19, 27, 28, 29]⟩
def q01 (k : Nat) : Kp × ACode := (qmu, part qmp.body k)
def qmn : AFunc := funcAt Tryd.prog qmi
def qml : Kp := ⟨[0, 1, 3, 4, 6, 7, 28, 29], false, [0, 4, 6, 11, 17, 23]⟩
def q02 (k : Nat) : Kp × ACode := (qml, part qmn.body k)
def qkf : AFunc := funcAt Tryd.prog qkk
def qkq : Kp := ⟨[0, 1, 4, 5, 6, 8, 9, 10, 11], false, [0, 4, 9, 15, 19, 27, 28, 29]⟩
def qyv (k : Nat) : Kp × ACode := (qkq, part qkf.body k)
def qpw : AFunc := funcAt Tryd.prog qqq
def qpx : Kp := ⟨[0, 1, 3, 4], false, [0]⟩
def trace_Text_1_p (k : Nat) : Kp × ACode := (qpx, part qpw.body k)
def qvx : AFunc := funcAt Tryd.prog quf
def qt7 : Kp := ⟨[0, 1, 2, 3, 5, 6, 7, 44, 45], false, [0, 2, 10, 14, 19, 25, 30, 37]⟩
def trace_fine_p (k : Nat) : Kp × ACode := (qt7, part qvx.body k)
def qw9 : AFunc := funcAt Tryd.prog qxy
def qxa : Kp := ⟨[0, 1, 4], false, [0, 2, 5, 11, 15]⟩
def trace_put_p (k : Nat) : Kp × ACode := (qxa, part qw9.body k)
def qx2 : AFunc := funcAt Tryd.prog qwq
def qxz : Kp := ⟨[0, 1, 2, 4, 5, 6, 7], false, [0, 2, 10]⟩
def trace_get_p (k : Nat) : Kp × ACode := (qxz, part qx2.body k)
def quj : AFunc := funcAt Tryd.prog qv5
def qvv : Kp := ⟨[0, 1, 2, 3, 5, 6, 8, 10, 26, 27], false, [0, 4, 9, 15, 20, 22, 28, 34, 35]⟩
def trace_line_p (k : Nat) : Kp × ACode := (qvv, part quj.body k)
def qdg : AFunc := funcAt Tryd.prog ya
def qky : Kp := ⟨[0, 2, 3, 9], false, [0, 4, 10]⟩
def vk (k : Nat) : Kp × ACode := (qky, part qdg.body k)
theorem qj9 (M : Mac) (c : Ctx) : (∀ Q E D H, W M c (vk 0) true Q E D H =
  A3 true qb [(.int .i64 0), (.int .i64 0), (.int .i64 0), (.int .i64 0), (.int .i64 0), (.int .i64 0), (.int .i64 0), (.int .u64 0), (.int .i64 0)] H fun g t2 H1 => LK g (lk E 0) fun g t0 => B3 g ((Op.build [(.int .i64 0), (.int .i64 0), (.int .i64 0), (.int .i64 0), (.int .i64 0), (.int .i64 0), (.int .i64 0), (.int .u64 0), (.int .i64 0)] [(0, 1)]) [t0]) fun g t5 => A3 g qb [(.int .i64 0), (.int .i64 0), (.int .i64 0), (.int .i64 0), (.int .i64 0), (.int .i64 0), (.int .i64 0), (.int .u64 0), (.int .i64 0)] H1 fun g t3 H2 => B32 g ((Op.store 9) [t3, t5] H2) fun g u H3 => W M c (vk 4) g Q ((3, t3)::(2, t2)::E) D H3) ∧
 (∀ Q E D H, W M c (vk 4) true Q E D H =
  LK true (lk E 0) fun g t0 => B3 g ((Op.bin .geq) [t0, (.int .i64 7)]) fun g t7 => IF3 g t7 (fun g => LK g (lk E 3) fun g t3 => B3 g ((Op.fieldAddr 3) [t3]) fun g t8 => B32 g ((Op.store 1) [t8, (.int .i64 (-1))] H) fun g u H1 => GO3 g (SEQ3 (W M c (vk 10)) Q) .normal E D H1) (fun g => GO3 g (SEQ3 (W M c (vk 10)) Q) .normal E D H)) ∧
 (∀ Q E D H, W M c (vk 10) true Q E D H =
  LK true (lk E 3) fun g t3 => B3 g ((Op.loadN 9) [t3] H) fun g t9 => LK g (lk E 2) fun g t2 => B32 g ((Op.store 9) [t2, t9] H) fun g u H1 => GO3 g Q .ret ((9, t9)::E) D H1) := by (repeat' apply And.intro) <;> (intro _ _ _ _; refine W_unf ?_; kernel_rfl)
theorem qjt : (cProg Tryd.prog).func ya = some qdg ∧ qdg.results = [.cellN 9 2] := qw (by kernel_rfl)
theorem qpn {M : Mac} [MK M] : M.func ya = some qdg := MK.at (by decide) qjt.1
theorem qr7 {M : Mac} [MK M] {a0 : AV} {H : AHeap} {Q : AEnd → AHeap → Prop} (h : W M ⟨none, ya⟩ (vk 0) true (FIN3 M [.cellN 9 2] Q) [(0, a0)] [] H) : CALLE M ya [a0] H Q :=
  calle qpn (ks := qky) (by kernel_rfl) (by rw [qjt.2]; exact h)
def qf9 : AFunc := funcAt Tryd.prog qah
def qnv : Kp := ⟨[0, 1, 2, 6, 7, 8], false, [0, 2, 12]⟩
def qay (k : Nat) : Kp × ACode := (qnv, part qf9.body k)
theorem qbv (M : Mac) (c : Ctx) : (∀ Q E D H, W M c (qay 0) true Q E D H =
  W M c (qay 2) true Q ((6, (.bool false))::E) D H) ∧
 (∀ Q E D H, W M c (qay 2) true Q E D H =
  LK true (lk E 1) fun g t1 => B3 g ((Op.bin .eql) [t1, (.int .i32 118)]) fun g t10 => IF3 g t10 (fun g => LK g (lk E 0) fun g t0 => LK g (lk E 2) fun g t2 => B3 g (Op.nilCheck [t0]) fun g t13 => B3 g ((Op.fieldAddr 7) [t13]) fun g t14 => B32 g ((Op.store 1) [t14, t2] H) fun g u H1 => GO3 g (SEQ3 (W M c (qay 12)) Q) .ret ((6, (.bool true))::E) D H1) (fun g => GO3 g (SEQ3 (W M c (qay 12)) Q) .normal E D H)) ∧
 (∀ Q E D H, W M c (qay 12) true Q E D H =
  LK true (lk E 0) fun g t0 => LK g (lk E 1) fun g t1 => C3 M g (.func kz) [t0, t1] H fun g t18 H1 => B3 g ((Op.extract 0) [t18]) fun g t19 => B3 g ((Op.extract 1) [t18]) fun g t20 => LK g (lk E 2) fun g t2 => B3 g ((Op.wrap .i64) [t2]) fun g t23 => B3 g (Op.nilCheck [t19]) fun g t24 => B32 g ((Op.store 1) [t24, t23] H1) fun g u H2 => LK g (lk E 2) fun g t2_1 => B3 g ((Op.bin .leq) [t2_1, (.int .u64 9223372036854775807)]) fun g t26 => JN (fun (k : Bool → AV → AV → AV → AV → AV → AHeap → Prop) => B3 g (wantV true (some t26)) fun g w => IG3 g w (fun g => B3 g (Op.nilCheck [t19]) fun g t29 => B3 g (Op.load1 [t29] H2) fun g t30 => C3 M g (.func qaw) [t30, t20] H2 fun g t32 H3 => k g t32 t20 t30 t29 t19 H3) (fun g => k g uu uu uu uu uu H2)) (fun g t32_1 t31_1 t30_1 t29_1 t28_1 H4 => B3 g (Op.pick [t26, t32_1, (.bool false)]) fun g t33 => GO3 g Q .ret ((6, t33)::(8, t20)::(7, t19)::E) D H4)) := by (repeat' apply And.intro) <;> (intro _ _ _ _; refine W_unf ?_; kernel_rfl)
theorem qoj : (cProg Tryd.prog).func qah = some qf9 ∧ qf9.results = [.tmp 6] := qw (by kernel_rfl)
theorem qur {M : Mac} [MK M] : M.func qah = some qf9 := MK.at (by decide) qoj.1
theorem qxs {M : Mac} [MK M] {a0 a1 a2 : AV} {H : AHeap} {Q : AEnd → AHeap → Prop} (h : W M ⟨none, qah⟩ (qay 0) true (FIN3 M [.tmp 6] Q) [(0, a0), (1, a1), (2, a2)] [] H) : CALLE M qah [a0, a1, a2] H Q :=
  calle qur (ks := qnv) (by kernel_rfl) (by rw [qoj.2]; exact h)
def qdq : AFunc := funcAt Tryd.prog kz
def qjy : Kp := ⟨[0, 1, 4, 5, 6], false, [0, 2, 18, 31]⟩
def j3 (k : Nat) : Kp × ACode := (qjy, part qdq.body k)
theorem qa8 (M : Mac) (c : Ctx) : (∀ Q E D H, W M c (j3 0) true Q E D H =
  W M c (j3 2) true Q ((5, .nils)::(4, .nilp)::E) D H) ∧
 (∀ Q E D H, W M c (j3 2) true Q E D H =
  LK true (lk E 1) fun g t1 => B3 g ((Op.bin .eql) [t1, (.int .i32 98)]) fun g t8 => IF3 g t8 (fun g => LK g (lk E 0) fun g t0 => B3 g (Op.nilCheck [t0]) fun g t10 => B3 g ((Op.fieldAddr 3) [t10]) fun g t11 => GO3 g (BLK3 0 (SEQ3 (W M c (j3 31)) Q)) .ret ((5, .nils)::(4, t11)::(6, t1)::E) D H) (fun g => B3 g ((Op.bin .eql) [t1, (.int .i32 116)]) fun g t13 => IF3 g t13 (fun g => LK g (lk E 0) fun g t0 => B3 g (Op.nilCheck [t0]) fun g t15 => B3 g ((Op.fieldAddr 4) [t15]) fun g t16 => GO3 g (BLK3 0 (SEQ3 (W M c (j3 31)) Q)) .ret ((5, .nils)::(4, t16)::(6, t1)::E) D H) (fun g => W M c (j3 18) g (BLK3 0 (SEQ3 (W M c (j3 31)) Q)) ((6, t1)::E) D H))) ∧
 (∀ Q E D H, W M c (j3 31) true Q E D H =
  LK true (lk E 0) fun g t0 => B3 g (Op.nilCheck [t0]) fun g t29 => B3 g ((Op.fieldAddr 8) [t29]) fun g t30 => B32 g ((Op.buildSlice qm 9 [(.str [])] [(0, 1), (1, 1), (2, 1), (3, 1), (4, 1), (5, 1), (6, 1), (7, 1), (8, 1)]) [(.str []), (.str [99, 111, 110, 102, 108, 105, 99, 116]), (.str [115, 117, 98]), (.str [99, 97, 112, 97, 99, 105, 116, 121]), (.str [101, 118, 105, 99, 116]), (.str [115, 112, 117, 114, 105, 111, 117, 115]), (.str [98, 117, 115, 121]), (.str [105, 108, 108, 101, 103, 97, 108]), (.str [115, 111, 102, 116])]) fun g o1 k1 => GO3 g Q .ret ((5, (k1 H.next))::(4, t30)::E) D (H.alloc o1)) ∧
 (∀ Q E D H, W M c (j3 18) true Q E D H =
  LK true (lk E 6) fun g t6 => B3 g ((Op.bin .eql) [t6, (.int .i32 108)]) fun g t18 => IF3 g t18 (fun g => LK g (lk E 0) fun g t0 => B3 g (Op.nilCheck [t0]) fun g t20 => B3 g ((Op.fieldAddr 5) [t20]) fun g t21 => B32 g ((Op.buildSlice qm 5 [(.str [])] [(0, 1), (1, 1), (2, 1), (3, 1), (4, 1)]) [(.str []), (.str [102, 97, 115, 116]), (.str [115, 108, 111, 119]), (.str [115, 111, 102, 116]), (.str [115, 101, 114, 105, 97, 108])]) fun g o1 k1 => GO3 g Q .ret ((5, (k1 H.next))::(4, t21)::E) D (H.alloc o1)) (fun g => LK g (lk E 6) fun g t6_1 => B3 g ((Op.bin .eql) [t6_1, (.int .i32 97)]) fun g t24 => IF3 g t24 (fun g => LK g (lk E 0) fun g t0 => B3 g (Op.nilCheck [t0]) fun g t26 => B3 g ((Op.fieldAddr 6) [t26]) fun g t27 => GO3 g Q .ret ((5, .nils)::(4, t27)::E) D H) (fun g => GO3 g Q .normal E D H))) := by (repeat' apply And.intro) <;> (intro _ _ _ _; refine W_unf ?_; kernel_rfl)
theorem qjr : (cProg Tryd.prog).func kz = some qdq ∧ qdq.results = [.tmp 4, .tmp 5] := qw (by kernel_rfl)
theorem qp9 {M : Mac} [MK M] : M.func kz = some qdq := MK.at (by decide) qjr.1
theorem qtp {M : Mac} [MK M] {a0 a1 : AV} {H : AHeap} {Q : AEnd → AHeap → Prop} (h : W M ⟨none, kz⟩ (j3 0) true (FIN3 M [.tmp 4, .tmp 5] Q) [(0, a0), (1, a1)] [] H) : CALLE M kz [a0, a1] H Q :=
  calle qp9 (ks := qjy) (by kernel_rfl) (by rw [qjr.2]; exact h)
def qgc : AFunc := funcAt Tryd.prog qaw
def qpd : Kp := ⟨[0, 1, 4], false, [0]⟩
def qoz (k : Nat) : Kp × ACode := (qpd, part qgc.body k)
theorem qd4 (M : Mac) (c : Ctx) : (∀ Q E D H, W M c (qoz 0) true Q E D H =
  LK true (lk E 0) fun g t0 => B3 g ((Op.bin .geq) [t0, (.int .i64 0)]) fun g t6 => JN (fun (k : Bool → AV → AV → AV → AV → AHeap → Prop) => B3 g (wantV true (some t6)) fun g w => IG3 g w (fun g => LK g (lk E 1) fun g t1 => B3 g (Op.lenSl [t1]) fun g t9 => B3 g ((Op.bin .eql) [t9, (.int .i64 0)]) fun g t10 => k g t10 t10 t9 t1 H) (fun g => k g uu uu uu uu H)) (fun g t11_1 t10_1 t9_1 t8_1 H1 => JN (fun (k : Bool → AV → AV → AV → AHeap → Prop) => B3 g (wantV false (some t11_1)) fun g w => IG3 g w (fun g => B3 g ((Op.bin .geq) [t0, (.int .i64 1)]) fun g t13 => k g t13 t13 t0 H1) (fun g => k g uu uu uu H1)) (fun g t14_1 t13_1 t12_1 H2 => JN (fun (k : Bool → AV → AV → AV → AV → AHeap → Prop) => B3 g (wantV true (some t14_1)) fun g w => IG3 g w (fun g => LK g (lk E 1) fun g t1_1 => B3 g (Op.lenSl [t1_1]) fun g t17 => B3 g ((Op.bin .lss) [t0, t17]) fun g t18 => k g t18 t17 t1_1 t0 H2) (fun g => k g uu uu uu uu H2)) (fun g t18_1 t17_1 t16_1 t15_1 H3 => JN (fun (k : Bool → AV → AHeap → Prop) => B3 g (wantV false (some t11_1)) fun g w => IG3 g w (fun g => B3 g (Op.pick [t14_1, t18_1, (.bool false)]) fun g t19 => k g t19 H3) (fun g => k g uu H3)) (fun g t19_1 H4 => JN (fun (k : Bool → AV → AHeap → Prop) => B3 g (wantV true (some t6)) fun g w => IG3 g w (fun g => B3 g (Op.pick [t11_1, (.bool true), t19_1]) fun g t20 => k g t20 H4) (fun g => k g uu H4)) (fun g t20_1 H5 => B3 g (Op.pick [t6, t20_1, (.bool false)]) fun g t21 => GO3 g Q .ret ((4, t21)::(4, (.bool false))::E) D H5)))))) := by intro _ _ _ _; refine W_unf ?_; kernel_rfl
theorem qov : (cProg Tryd.prog).func qaw = some qgc ∧ qgc.results = [.tmp 4] := qw (by kernel_rfl)
theorem qwh {M : Mac} [MK M] : M.func qaw = some qgc := MK.at (by decide) qov.1
theorem qxq {M : Mac} [MK M] {a0 a1 : AV} {H : AHeap} {Q : AEnd → AHeap → Prop} (h : W M ⟨none, qaw⟩ (qoz 0) true (FIN3 M [.tmp 4] Q) [(0, a0), (1, a1)] [] H) : CALLE M qaw [a0, a1] H Q :=
  calle qwh (ks := qpd) (by kernel_rfl) (by rw [qov.2]; exact h)
end
end Go.Am
namespace Go.Am
abbrev vc : Nat := 14
noncomputable section
open Go.Proofs Go.Proofs.YtkfheegmlgfdoaaDoor
def qeq : AFunc := funcAt Tryd.prog vc
def qlu : Kp := ⟨[0, 1, 4, 5], false, [0, 2, 10, 15, 21, 30, 31]⟩
def zb (k : Nat) : Kp × ACode := (qlu, part qeq.body k)
theorem qaz (M : Mac) (c : Ctx) : (∀ Q E D H, W M c (zb 0) true Q E D H =
  W M c (zb 2) true Q ((4, (.bool false))::E) D H) ∧
 (∀ Q E D H, W M c (zb 2) true Q E D H =
  LK true (lk E 0) fun g t0 => B3 g (Op.lenSl [t0]) fun g t7 => LK g (lk E 1) fun g t1 => B3 g (Op.lenSl [t1]) fun g t9 => B3 g ((Op.bin .neq) [t7, t9]) fun g t10 => IF3 g t10 (fun g => GO3 g (SEQ3 (W M c (zb 10)) Q) .ret ((4, (.bool false))::E) D H) (fun g => GO3 g (SEQ3 (W M c (zb 10)) Q) .normal E D H)) ∧
 (∀ Q E D H, W M c (zb 10) true Q E D H =
  LOOP3 (W M c (zb 15)) (BLK3 0 (SEQ3 (W M c (zb 31)) Q)) ((5, (.int .i64 0))::E) D H) ∧
 (∀ Q E D H, W M c (zb 31) true Q E D H =
  GO3 true Q .ret ((4, (.bool true))::E) D H) ∧
 (∀ Q E D H, W M c (zb 15) true Q E D H =
  LK true (lk E 5) fun g t5 => LK g (lk E 0) fun g t0 => B3 g (Op.lenSl [t0]) fun g t13 => B3 g ((Op.bin .lss) [t5, t13]) fun g t14 => IF3 g t14 (fun g => GO3 g (SEQ3 (W M c (zb 21)) Q) .normal E D H) (fun g => GO3 g (SEQ3 (W M c (zb 21)) Q) (.exit 0) E D H)) ∧
 (∀ Q E D H, W M c (zb 21) true Q E D H =
  LK true (lk E 0) fun g t0 => LK g (lk E 5) fun g t5 => B3 g ((Op.indexSl 9) [t0, t5]) fun g t19 => B3 g ((Op.loadN 9) [t19] H) fun g t20 => LK g (lk E 1) fun g t1 => B3 g ((Op.indexSl 9) [t1, t5]) fun g t23 => B3 g ((Op.loadN 9) [t23] H) fun g t24 => B3 g ((Op.eq (.agg (.part 0 none .int (.part 1 none .int (.part 2 none .int (.part 3 none .int (.part 4 none .int (.part 5 none .int (.part 6 none .int (.part 7 none .int (.part 8 none .int .nil)))))))))) true) [t20, t24] H) fun g t25 => IF3 g t25 (fun g => GO3 g (BLK3 1 (SEQ3 (W M c (zb 30)) Q)) .ret ((4, (.bool false))::E) D H) (fun g => GO3 g (BLK3 1 (SEQ3 (W M c (zb 30)) Q)) .normal E D H)) ∧
 (∀ Q E D H, W M c (zb 30) true Q E D H =
  LK true (lk E 5) fun g t5 => B3 g ((Op.bin .add) [t5, (.int .i64 1)]) fun g t16 => GO3 g Q .normal ((5, t16)::E) D H) := by (repeat' apply And.intro) <;> (intro _ _ _ _; refine W_unf ?_; kernel_rfl)
theorem ql6 : (cProg Tryd.prog).func vc = some qeq ∧ qeq.results = [.tmp 4] := qw (by kernel_rfl)
theorem qsf {M : Mac} [MK M] : M.func vc = some qeq := MK.at (by decide) ql6.1
theorem qwk {M : Mac} [MK M] {a0 a1 : AV} {H : AHeap} {Q : AEnd → AHeap → Prop} (h : W M ⟨none, vc⟩ (zb 0) true (FIN3 M [.tmp 4] Q) [(0, a0), (1, a1)] [] H) : CALLE M vc [a0, a1] H Q :=
  calle qsf (ks := qlu) (by kernel_rfl) (by rw [ql6.2]; exact h)
end
end Go.Am
namespace Go.Am
abbrev qi5 : Nat := 3
abbrev qul : Nat := 9
abbrev qpv : Nat := 11
abbrev qwv : Nat := 30
abbrev quw : Nat := 35
abbrev qw4 : Nat := 27
abbrev yg : Nat := 29
abbrev qae : Nat := 44
abbrev qu8 : Nat := 13
abbrev qag : Nat := 58
abbrev vd : Nat := 59
abbrev qpl : Nat := 57
abbrev yb : Nat := 43
abbrev qxn : Nat := 28
noncomputable section
open Go.Proofs Go.Proofs.YtkfheegmlgfdoaaDoor
def qi7 : AFunc := funcAt Tryd.prog qi5
def qi4 : Kp := ⟨[0, 2, 3, 4, 5, 6, 7, 8, 9, 10, 11], false, [0, 2, 10, 14, 18]⟩
def qwu (k : Nat) : Kp × ACode := (qi4, part qi7.body k)
def qvm : AFunc := funcAt Tryd.prog qul
def qvl : Kp := ⟨[0, 2, 3], false, [0]⟩
def law23_twin_p (k : Nat) : Kp × ACode := (qvl, part qvm.body k)
def qp4 : AFunc := funcAt Tryd.prog qpv
def qqj : Kp := ⟨[0, 2, 3, 4, 5, 6, 7, 8, 9], false, [0, 4, 9, 15, 19, 27, 31, 35, 39, 45, 50, 51, 52]⟩
def ref23_Encode_p (k : Nat) : Kp × ACode := (qqj, part qp4.body k)
def qvc : AFunc := funcAt Tryd.prog qu8
def qt5 : Kp := ⟨[0, 2, 3, 4, 5, 6, 7], false, [0, 4, 9, 15, 19, 27, 30, 31]⟩
def ref23_Text_p (k : Nat) : Kp × ACode := (qt5, part qvc.body k)
def qww : AFunc := funcAt Tryd.prog qw4
def qw3 : Kp := ⟨[0, 1, 2, 3, 4, 5, 6, 7, 8, 9], false, [0, 2, 10, 14, 19, 25, 31, 39, 40, 41]⟩
def ref23_May_p (k : Nat) : Kp × ACode := (qw3, part qww.body k)
def qw2 : AFunc := funcAt Tryd.prog qxn
def qxf : Kp := ⟨[0, 1, 4, 5], false, [0, 2, 7, 13, 18, 19]⟩
def ref23_put_p (k : Nat) : Kp × ACode := (qxf, part qw2.body k)
def qdh : AFunc := funcAt Tryd.prog yg
def qkh : Kp := ⟨[0, 2, 3], false, [0]⟩
def qjx (k : Nat) : Kp × ACode := (qkh, part qdh.body k)
theorem qsj (M : Mac) (c : Ctx) : (∀ Q E D H, W M c (qjx 0) true Q E D H =
  B32 true ((Op.buildSlice qm 9 [(.str [])] [(0, 1), (1, 1), (2, 1), (3, 1), (4, 1), (5, 1), (6, 1), (7, 1), (8, 1)]) [(.str []), (.str [98, 116, 108]), (.str [98, 116, 97, 118]), (.str [98, 116, 97, 118]), (.str [98, 116]), (.str [98, 116]), (.str [98, 116, 99]), (.str [97, 118]), (.str [97, 118])]) fun g o1 k1 => LK g (lk E 0) fun g t0 => B3 g ((Op.indexSl 1) [(k1 H.next), t0]) fun g t7 => B3 g (Op.load1 [t7] (H.alloc o1)) fun g t8 => GO3 g Q .ret ((2, t8)::(3, (k1 H.next))::(2, (.str []))::E) D (H.alloc o1)) := by intro _ _ _ _; refine W_unf ?_; kernel_rfl
theorem qjl : (cProg Tryd.prog).func yg = some qdh ∧ qdh.results = [.tmp 2] := qw (by kernel_rfl)
theorem qqc {M : Mac} [MK M] : M.func yg = some qdh := MK.at (by decide) qjl.1
theorem qtj {M : Mac} [MK M] {a0 : AV} {H : AHeap} {Q : AEnd → AHeap → Prop} (h : W M ⟨none, yg⟩ (qjx 0) true (FIN3 M [.tmp 2] Q) [(0, a0)] [] H) : CALLE M yg [a0] H Q :=
  calle qqc (ks := qkh) (by kernel_rfl) (by rw [qjl.2]; exact h)
def qwp : AFunc := funcAt Tryd.prog qwv
def qx5 : Kp := ⟨[0, 1, 2, 4, 5, 6, 7], false, [0, 4, 18, 26, 39]⟩
def ref23_Get_p (k : Nat) : Kp × ACode := (qx5, part qwp.body k)
def qv9 : AFunc := funcAt Tryd.prog quw
def qvp : Kp := ⟨[0, 1, 2, 3, 4, 5, 6, 8, 9], false, [0, 4, 6, 11, 17, 23, 30, 31]⟩
def ref23_Line_p (k : Nat) : Kp × ACode := (qvp, part qv9.body k)
def qdj : AFunc := funcAt Tryd.prog yb
def qkd : Kp := ⟨[0, 1, 2, 6, 7, 9], false, [0, 4, 10]⟩
def vh (k : Nat) : Kp × ACode := (qkd, part qdj.body k)
theorem qkn (M : Mac) (c : Ctx) : (∀ Q E D H, W M c (vh 0) true Q E D H =
  A3 true qb [(.int .i64 0), (.int .i64 0), (.int .i64 0), (.int .i64 0), (.int .i64 0), (.int .i64 0), (.int .i64 0), (.int .u64 0), (.int .i64 0)] H fun g t6 H1 => LK g (lk E 0) fun g t0 => LK g (lk E 1) fun g t1 => LK g (lk E 2) fun g t2 => B3 g ((Op.build [(.int .i64 0), (.int .i64 0), (.int .i64 0), (.int .i64 0), (.int .i64 0), (.int .i64 0), (.int .i64 0), (.int .u64 0), (.int .i64 0)] [(0, 1), (2, 1), (1, 1)]) [t0, t1, t2]) fun g t11 => A3 g qb [(.int .i64 0), (.int .i64 0), (.int .i64 0), (.int .i64 0), (.int .i64 0), (.int .i64 0), (.int .i64 0), (.int .u64 0), (.int .i64 0)] H1 fun g t7 H2 => B32 g ((Op.store 9) [t7, t11] H2) fun g u H3 => W M c (vh 4) g Q ((7, t7)::(9, t1)::(6, t6)::E) D H3) ∧
 (∀ Q E D H, W M c (vh 4) true Q E D H =
  LK true (lk E 0) fun g t0 => B3 g ((Op.bin .geq) [t0, (.int .i64 7)]) fun g t13 => IF3 g t13 (fun g => LK g (lk E 7) fun g t7 => B3 g ((Op.fieldAddr 3) [t7]) fun g t14 => B32 g ((Op.store 1) [t14, (.int .i64 (-1))] H) fun g u H1 => GO3 g (SEQ3 (W M c (vh 10)) Q) .normal E D H1) (fun g => GO3 g (SEQ3 (W M c (vh 10)) Q) .normal E D H)) ∧
 (∀ Q E D H, W M c (vh 10) true Q E D H =
  LK true (lk E 7) fun g t7 => B3 g ((Op.loadN 9) [t7] H) fun g t15 => LK g (lk E 6) fun g t6 => B32 g ((Op.store 9) [t6, t15] H) fun g u H1 => GO3 g Q .ret E D H1) := by (repeat' apply And.intro) <;> (intro _ _ _ _; refine W_unf ?_; kernel_rfl)
theorem qkz : (cProg Tryd.prog).func yb = some qdj ∧ qdj.results = [.cellN 9 6] := qw (by kernel_rfl)
theorem qqp {M : Mac} [MK M] : M.func yb = some qdj := MK.at (by decide) qkz.1
theorem qr8 {M : Mac} [MK M] {a0 a1 a2 : AV} {H : AHeap} {Q : AEnd → AHeap → Prop} (h : W M ⟨none, yb⟩ (vh 0) true (FIN3 M [.cellN 9 6] Q) [(0, a0), (1, a1), (2, a2)] [] H) : CALLE M yb [a0, a1, a2] H Q :=
  calle qqp (ks := qkd) (by kernel_rfl) (by rw [qkz.2]; exact h)
def qgi : AFunc := funcAt Tryd.prog qae
def qnr : Kp := ⟨[0, 1, 2, 3, 6, 7, 8, 9, 19], false, [0, 2, 12, 20, 22, 34, 46, 55]⟩
def x8 (k : Nat) : Kp × ACode := (qnr, part qgi.body k)
theorem kp (M : Mac) (c : Ctx) : (∀ Q E D H, W M c (x8 0) true Q E D H =
  LK true (lk E 0) fun g t0 => A3 g qb (AV.cells t0) H fun g t3 H1 => A3 g qb [(.int .i64 0), (.int .i64 0), (.int .i64 0), (.int .i64 0), (.int .i64 0), (.int .i64 0), (.int .i64 0), (.int .u64 0), (.int .i64 0)] H1 fun g t6 H2 => W M c (x8 2) g Q ((7, (.bool false))::(6, t6)::(3, t3)::E) D H2) ∧
 (∀ Q E D H, W M c (x8 2) true Q E D H =
  LK true (lk E 1) fun g t1 => B3 g ((Op.bin .eql) [t1, (.int .u8 118)]) fun g t10 => IF3 g t10 (fun g => LK g (lk E 2) fun g t2 => LK g (lk E 3) fun g t3 => B3 g ((Op.fieldAddr 7) [t3]) fun g t12 => B32 g ((Op.store 1) [t12, t2] H) fun g u H1 => LK g (lk E 3) fun g t3_1 => B3 g ((Op.loadN 9) [t3_1] H1) fun g t13 => LK g (lk E 6) fun g t6 => B32 g ((Op.store 9) [t6, t13] H1) fun g u_1 H2 => GO3 g (SEQ3 (W M c (x8 12)) Q) .ret ((7, (.bool true))::(9, t1)::E) D H2) (fun g => GO3 g (SEQ3 (W M c (x8 12)) Q) .normal ((9, t1)::E) D H)) ∧
 (∀ Q E D H, W M c (x8 12) true Q E D H =
  LK true (lk E 2) fun g t2 => B3 g ((Op.bin .gtr) [t2, (.int .u64 9223372036854775807)]) fun g t15 => IF3 g t15 (fun g => LK g (lk E 3) fun g t3 => B3 g ((Op.loadN 9) [t3] H) fun g t16 => LK g (lk E 6) fun g t6 => B32 g ((Op.store 9) [t6, t16] H) fun g u H1 => GO3 g (SEQ3 (W M c (x8 20)) Q) .ret ((7, (.bool false))::E) D H1) (fun g => GO3 g (SEQ3 (W M c (x8 20)) Q) .normal E D H)) ∧
 (∀ Q E D H, W M c (x8 20) true Q E D H =
  LK true (lk E 2) fun g t2 => B3 g ((Op.wrap .i64) [t2]) fun g t18 => W M c (x8 22) g Q ((8, t18)::E) D H) ∧
 (∀ Q E D H, W M c (x8 22) true Q E D H =
  LK true (lk E 1) fun g t1 => B3 g ((Op.bin .eql) [t1, (.int .u8 98)]) fun g t21 => IF3 g t21 (fun g => LK g (lk E 8) fun g t8 => LK g (lk E 3) fun g t3 => B3 g ((Op.fieldAddr 3) [t3]) fun g t23 => B32 g ((Op.store 1) [t23, t8] H) fun g u H1 => GO3 g (BLK3 0 (SEQ3 (W M c (x8 55)) Q)) .normal ((19, t1)::E) D H1) (fun g => B3 g ((Op.bin .eql) [t1, (.int .u8 116)]) fun g t25 => IF3 g t25 (fun g => LK g (lk E 8) fun g t8 => LK g (lk E 3) fun g t3 => B3 g ((Op.fieldAddr 4) [t3]) fun g t27 => B32 g ((Op.store 1) [t27, t8] H) fun g u H1 => GO3 g (BLK3 0 (SEQ3 (W M c (x8 55)) Q)) .normal ((19, t1)::E) D H1) (fun g => W M c (x8 34) g (BLK3 0 (SEQ3 (W M c (x8 55)) Q)) ((19, t1)::E) D H))) ∧
 (∀ Q E D H, W M c (x8 55) true Q E D H =
  LK true (lk E 3) fun g t3 => B3 g ((Op.loadN 9) [t3] H) fun g t54 => LK g (lk E 6) fun g t6 => B32 g ((Op.store 9) [t6, t54] H) fun g u H1 => GO3 g Q .ret ((7, (.bool true))::E) D H1) ∧
 (∀ Q E D H, W M c (x8 34) true Q E D H =
  LK true (lk E 19) fun g t19 => B3 g ((Op.bin .eql) [t19, (.int .u8 97)]) fun g t29 => IF3 g t29 (fun g => LK g (lk E 8) fun g t8 => LK g (lk E 3) fun g t3 => B3 g ((Op.fieldAddr 6) [t3]) fun g t31 => B32 g ((Op.store 1) [t31, t8] H) fun g u H1 => GO3 g Q .normal E D H1) (fun g => LK g (lk E 19) fun g t19_1 => B3 g ((Op.bin .eql) [t19_1, (.int .u8 108)]) fun g t33 => IF3 g t33 (fun g => LK g (lk E 8) fun g t8 => LK g (lk E 3) fun g t3 => B3 g ((Op.fieldAddr 5) [t3]) fun g t35 => B32 g ((Op.store 1) [t35, t8] H) fun g u H1 => LK g (lk E 3) fun g t3_1 => B3 g ((Op.loadN 9) [t3_1] H1) fun g t36 => LK g (lk E 8) fun g t8_1 => B3 g ((Op.bin .geq) [t8_1, (.int .i64 1)]) fun g t38 => JN (fun (k : Bool → AV → AV → AHeap → Prop) => B3 g (wantV true (some t38)) fun g w => IG3 g w (fun g => B3 g ((Op.bin .leq) [t8_1, (.int .i64 4)]) fun g t41 => k g t41 t8_1 H1) (fun g => k g uu uu H1)) (fun g t41_1 t40_1 H2 => B3 g (Op.pick [t38, t41_1, (.bool false)]) fun g t42 => LK g (lk E 6) fun g t6 => B32 g ((Op.store 9) [t6, t36] H2) fun g u_1 H3 => GO3 g Q .ret ((7, t42)::E) D H3)) (fun g => W M c (x8 46) g Q E D H))) ∧
 (∀ Q E D H, W M c (x8 46) true Q E D H =
  LK true (lk E 19) fun g t19 => B3 g ((Op.bin .eql) [t19, (.int .u8 99)]) fun g t44 => IF3 g t44 (fun g => LK g (lk E 8) fun g t8 => LK g (lk E 3) fun g t3 => B3 g ((Op.fieldAddr 8) [t3]) fun g t46 => B32 g ((Op.store 1) [t46, t8] H) fun g u H1 => LK g (lk E 3) fun g t3_1 => B3 g ((Op.loadN 9) [t3_1] H1) fun g t47 => LK g (lk E 8) fun g t8_1 => B3 g ((Op.bin .geq) [t8_1, (.int .i64 1)]) fun g t49 => JN (fun (k : Bool → AV → AV → AHeap → Prop) => B3 g (wantV true (some t49)) fun g w => IG3 g w (fun g => B3 g ((Op.bin .leq) [t8_1, (.int .i64 8)]) fun g t52 => k g t52 t8_1 H1) (fun g => k g uu uu H1)) (fun g t52_1 t51_1 H2 => B3 g (Op.pick [t49, t52_1, (.bool false)]) fun g t53 => LK g (lk E 6) fun g t6 => B32 g ((Op.store 9) [t6, t47] H2) fun g u_1 H3 => GO3 g Q .ret ((7, t53)::E) D H3)) (fun g => GO3 g Q .normal E D H)) := by (repeat' apply And.intro) <;> (intro _ _ _ _; refine W_unf ?_; kernel_rfl)
theorem qo5 : (cProg Tryd.prog).func qae = some qgi ∧ qgi.results = [.cellN 9 6, .tmp 7] := qw (by kernel_rfl)
theorem qvf {M : Mac} [MK M] : M.func qae = some qgi := MK.at (by decide) qo5.1
theorem qx3 {M : Mac} [MK M] {a0 a1 a2 : AV} {H : AHeap} {Q : AEnd → AHeap → Prop} (h : W M ⟨none, qae⟩ (x8 0) true (FIN3 M [.cellN 9 6, .tmp 7] Q) [(0, a0), (1, a1), (2, a2)] [] H) : CALLE M qae [a0, a1, a2] H Q :=
  calle qvf (ks := qnr) (by kernel_rfl) (by rw [qo5.2]; exact h)
def qqs : AFunc := funcAt Tryd.prog qpl
def qqb : Kp := ⟨[0, 2, 3, 4], false, [0, 4, 9, 15, 20, 21]⟩
def ref23_digits_p (k : Nat) : Kp × ACode := (qqb, part qqs.body k)
def qe0 : AFunc := funcAt Tryd.prog qag
def qlz : Kp := ⟨[0, 2, 3], false, [0]⟩
def qlr (k : Nat) : Kp × ACode := (qlz, part qe0.body k)
theorem qu6 (M : Mac) (c : Ctx) : (∀ Q E D H, W M c (qlr 0) true Q E D H =
  B32 true ((Op.buildSlice qm 9 [(.str [])] [(0, 1), (1, 1), (2, 1), (3, 1), (4, 1), (5, 1), (6, 1), (7, 1), (8, 1)]) [(.str []), (.str [98, 101, 103, 105, 110]), (.str [108, 111, 97, 100]), (.str [115, 116, 111, 114, 101]), (.str [112, 111, 105, 110, 116]), (.str [99, 111, 109, 109, 105, 116]), (.str [97, 98, 111, 114, 116]), (.str [112, 108, 97, 105, 110]), (.str [119, 114, 105, 116, 101])]) fun g o1 k1 => LK g (lk E 0) fun g t0 => B3 g ((Op.indexSl 1) [(k1 H.next), t0]) fun g t7 => B3 g (Op.load1 [t7] (H.alloc o1)) fun g t8 => GO3 g Q .ret ((2, t8)::(3, (k1 H.next))::(2, (.str []))::E) D (H.alloc o1)) := by intro _ _ _ _; refine W_unf ?_; kernel_rfl
theorem ql3 : (cProg Tryd.prog).func qag = some qe0 ∧ qe0.results = [.tmp 2] := qw (by kernel_rfl)
theorem qs8 {M : Mac} [MK M] : M.func qag = some qe0 := MK.at (by decide) ql3.1
theorem qua {M : Mac} [MK M] {a0 : AV} {H : AHeap} {Q : AEnd → AHeap → Prop} (h : W M ⟨none, qag⟩ (qlr 0) true (FIN3 M [.tmp 2] Q) [(0, a0)] [] H) : CALLE M qag [a0] H Q :=
  calle qs8 (ks := qlz) (by kernel_rfl) (by rw [ql3.2]; exact h)
def qc7 : AFunc := funcAt Tryd.prog vd
def qk0 : Kp := ⟨[0, 2], false, [0, 2, 10, 18]⟩
def j2 (k : Nat) : Kp × ACode := (qk0, part qc7.body k)
theorem qai (M : Mac) (c : Ctx) : (∀ Q E D H, W M c (j2 0) true Q E D H =
  W M c (j2 2) true Q ((2, .nils)::E) D H) ∧
 (∀ Q E D H, W M c (j2 2) true Q E D H =
  LK true (lk E 0) fun g t0 => B3 g ((Op.bin .eql) [t0, (.int .u8 108)]) fun g t4 => IF3 g t4 (fun g => B32 g ((Op.buildSlice qm 5 [(.str [])] [(0, 1), (1, 1), (2, 1), (3, 1), (4, 1)]) [(.str []), (.str [102, 97, 115, 116]), (.str [115, 108, 111, 119]), (.str [115, 111, 102, 116]), (.str [115, 101, 114, 105, 97, 108])]) fun g o1 k1 => GO3 g (SEQ3 (W M c (j2 10)) Q) .ret ((2, (k1 H.next))::E) D (H.alloc o1)) (fun g => GO3 g (SEQ3 (W M c (j2 10)) Q) .normal E D H)) ∧
 (∀ Q E D H, W M c (j2 10) true Q E D H =
  LK true (lk E 0) fun g t0 => B3 g ((Op.bin .eql) [t0, (.int .u8 99)]) fun g t7 => IF3 g t7 (fun g => B32 g ((Op.buildSlice qm 9 [(.str [])] [(0, 1), (1, 1), (2, 1), (3, 1), (4, 1), (5, 1), (6, 1), (7, 1), (8, 1)]) [(.str []), (.str [99, 111, 110, 102, 108, 105, 99, 116]), (.str [115, 117, 98]), (.str [99, 97, 112, 97, 99, 105, 116, 121]), (.str [101, 118, 105, 99, 116]), (.str [115, 112, 117, 114, 105, 111, 117, 115]), (.str [98, 117, 115, 121]), (.str [105, 108, 108, 101, 103, 97, 108]), (.str [115, 111, 102, 116])]) fun g o1 k1 => GO3 g (SEQ3 (W M c (j2 18)) Q) .ret ((2, (k1 H.next))::E) D (H.alloc o1)) (fun g => GO3 g (SEQ3 (W M c (j2 18)) Q) .normal E D H)) ∧
 (∀ Q E D H, W M c (j2 18) true Q E D H =
  GO3 true Q .ret ((2, .nils)::E) D H) := by (repeat' apply And.intro) <;> (intro _ _ _ _; refine W_unf ?_; kernel_rfl)
theorem qjp : (cProg Tryd.prog).func vd = some qc7 ∧ qc7.results = [.tmp 2] := qw (by kernel_rfl)
theorem qps {M : Mac} [MK M] : M.func vd = some qc7 := MK.at (by decide) qjp.1
theorem qtu {M : Mac} [MK M] {a0 : AV} {H : AHeap} {Q : AEnd → AHeap → Prop} (h : W M ⟨none, vd⟩ (j2 0) true (FIN3 M [.tmp 2] Q) [(0, a0)] [] H) : CALLE M vd [a0] H Q :=
  calle qps (ks := qk0) (by kernel_rfl) (by rw [qjp.2]; exact h)
end
end Go.Am
namespace Go.Am
abbrev qpk : Nat := 114
abbrev qg1 : Nat := 115
abbrev qx : Nat := 92
abbrev qz : Nat := 104
abbrev qbx : Nat := 105
abbrev xm : Nat := 116
abbrev xd : Nat := 78
abbrev xk : Nat := 103
abbrev xe : Nat := 88
abbrev xh : Nat := 77
abbrev zq : Nat := 69
abbrev je : Nat := 80
abbrev qjk : Nat := 108
abbrev qgz : Nat := 109
abbrev zy : Nat := 107
abbrev zp : Nat := 106
abbrev jx : Nat := 93
abbrev ko : Nat := 90
abbrev jf : Nat := 66
abbrev kr : Nat := 91
abbrev zl : Nat := 76
abbrev kn : Nat := 64
abbrev x7 : Nat := 75
abbrev kj : Nat := 67
abbrev zx : Nat := 65
abbrev qk9 : Nat := 89
abbrev jt : Nat := 79
abbrev yk : Nat := 19
abbrev kg : Nat := 21
abbrev ke : Nat := 41
abbrev vo : Nat := 45
abbrev ja : Nat := 63
abbrev jz : Nat := 68
abbrev zz : Nat := 46
abbrev jh : Nat := 61
abbrev qbn : Nat := 100
abbrev T__6 : Nat := 22
abbrev T__8 : Nat := 24
abbrev T__83 : Nat := 109
abbrev zn : Nat := 25
abbrev T_int : Nat := 3
abbrev qj : Nat := 146
abbrev j9 : Nat := 148
abbrev qew : Nat := 154
abbrev q03 : Nat := 3
abbrev z4 : Nat := 5
abbrev zm : Nat := 4
noncomputable section
open Go.Proofs Go.Proofs.YtkfheegmlgfdoaaDoor
def ifT (P : Program) (u : Nat) : Option EqTree := (P.info? u).bind fun i => if i.comparable then treeT P 20 u else none
def qb1 : AFunc := funcAt Tryd.prog yk
def qiq : Kp := ⟨[0, 1, 2, 3, 4, 5, 6], false, [0, 4, 7, 13, 16, 24, 25]⟩
def x4 (k : Nat) : Kp × ACode := (qiq, part qb1.body k)
theorem ki (M : Mac) (c : Ctx) : (∀ Q E D H, W M c (x4 0) true Q E D H =
  LK true (lk E 0) fun g t0 => A3 g T__8 (AV.cells t0) H fun g t1 H1 => W M c (x4 4) g Q ((4, .nils)::(3, (.int .i64 0))::(2, .nils)::(1, t1)::E) D H1) ∧
 (∀ Q E D H, W M c (x4 4) true Q E D H =
  LOOP3 (W M c (x4 7)) (BLK3 0 (SEQ3 (W M c (x4 25)) Q)) E D H) ∧
 (∀ Q E D H, W M c (x4 25) true Q E D H =
  LK true (lk E 4) fun g t4 => GO3 g Q .ret ((3, (.int .i64 0))::(2, t4)::E) D H) ∧
 (∀ Q E D H, W M c (x4 7) true Q E D H =
  LK true (lk E 1) fun g t1 => B3 g (Op.load1 [t1] H) fun g t7 => B3 g (Op.lenSl [t7]) fun g t8 => B3 g ((Op.bin .gtr) [t8, (.int .i64 0)]) fun g t9 => IF3 g t9 (fun g => GO3 g (SEQ3 (W M c (x4 13)) Q) .normal E D H) (fun g => GO3 g (SEQ3 (W M c (x4 13)) Q) (.exit 0) E D H)) ∧
 (∀ Q E D H, W M c (x4 13) true Q E D H =
  LK true (lk E 1) fun g t1 => C3 M g (.func ke) [t1] H fun g t11 H1 => B3 g ((Op.extract 0) [t11]) fun g t12 => B3 g ((Op.extract 1) [t11]) fun g t13 => A3 g qb [(.int .i64 0), (.int .i64 0), (.int .i64 0), (.int .i64 0), (.int .i64 0), (.int .i64 0), (.int .i64 0), (.int .u64 0), (.int .i64 0)] H1 fun g t5 H2 => B32 g ((Op.store 9) [t5, t12] H2) fun g u H3 => W M c (x4 16) g (BLK3 1 Q) ((6, t13)::(5, t5)::E) D H3) ∧
 (∀ Q E D H, W M c (x4 16) true Q E D H =
  LK true (lk E 6) fun g t6 => B3 g ((Op.un .not) [t6]) fun g t15 => IF3 g t15 (fun g => GO3 g (SEQ3 (W M c (x4 24)) Q) .ret ((3, (.int .i64 230))::(2, .nils)::E) D H) (fun g => GO3 g (SEQ3 (W M c (x4 24)) Q) .normal E D H)) ∧
 (∀ Q E D H, W M c (x4 24) true Q E D H =
  LK true (lk E 4) fun g t4 => LK g (lk E 5) fun g t5 => B3 g ((Op.loadN 9) [t5] H) fun g t17 => B32 g ((Op.buildSlice qb 1 [(.int .i64 0), (.int .i64 0), (.int .i64 0), (.int .i64 0), (.int .i64 0), (.int .i64 0), (.int .i64 0), (.int .u64 0), (.int .i64 0)] [(0, 9)]) [t17]) fun g o1 k1 => B32 g ((Op.append qb 9 72) [t4, (k1 H.next)] (H.alloc o1)) fun g t19 H2 => GO3 g Q .normal ((4, t19)::E) D H2) := by (repeat' apply And.intro) <;> (intro _ _ _ _; refine W_unf ?_; kernel_rfl)
theorem qij : (cProg Tryd.prog).func yk = some qb1 ∧ qb1.results = [.tmp 2, .tmp 3] := qw (by kernel_rfl)
theorem qob {M : Mac} [MK M] : M.func yk = some qb1 := MK.at (by decide) qij.1
theorem qp0 {M : Mac} [MK M] {a0 : AV} {H : AHeap} {Q : AEnd → AHeap → Prop} (h : W M ⟨none, yk⟩ (x4 0) true (FIN3 M [.tmp 2, .tmp 3] Q) [(0, a0)] [] H) : CALLE M yk [a0] H Q :=
  calle qob (ks := qiq) (by kernel_rfl) (by rw [qij.2]; exact h)
def vf : AFunc := funcAt Tryd.prog kg
def vm : Kp := ⟨[0, 2, 3, 4, 5, 6, 7, 8, 9, 10, 12, 13, 14], false, [0, 4, 6, 11]⟩
def yh (k : Nat) : Kp × ACode := (vm, part vf.body k)
def yl : ALoop := loopAt vf 0
def qiv (k : Nat) : Kp × ACode := (⟨vm.keep, vm.pan, [0]⟩, part yl.assign k)
def yj (k : Nat) : Kp × ACode := (⟨vm.keep, vm.pan, [0, 5, 13]⟩, part yl.body k)
theorem qhy : nth vf.loops 0 = some yl ∧ yl.params = [13, 14] := ⟨by kernel_rfl, by kernel_rfl⟩
theorem qj7 (M : Mac) (c : Ctx) : (∀ Q E D H, W M c (yh 0) true Q E D H =
  A3 true T__6 [.nils] H fun g t2 H1 => A3 g T_int [(.int .i64 0)] H1 fun g t3 H2 => A3 g zn [(.int .i64 0)] H2 fun g t4 H3 => A3 g T__6 [.nils] H3 fun g t5 H4 => W M c (yh 4) g Q ((5, t5)::(4, t4)::(3, t3)::(2, t2)::E) D H4) ∧
 (∀ Q E D H, W M c (qiv 0) true Q E D H =
  LK true (lk E 13) fun g t13 => LK g (lk E 14) fun g t14 => GO3 g Q .normal ((8, t14)::(7, t13)::E) D H) ∧
 (∀ Q E D H, W M c (yj 0) true Q E D H =
  LK true (lk E 6) fun g t6 => B3 g (Op.load1 [t6] H) fun g t15 => B3 g ((Op.bin .add) [t15, (.int .i64 1)]) fun g t16 => B32 g ((Op.store 1) [t6, t16] H) fun g u H1 => LK g (lk E 7) fun g t7 => C3 M g (.func zz) [t7] H1 fun g t19 H2 => B3 g ((Op.extract 0) [t19]) fun g t20 => B3 g ((Op.extract 1) [t19]) fun g t21 => A3 g qb [(.int .i64 0), (.int .i64 0), (.int .i64 0), (.int .i64 0), (.int .i64 0), (.int .i64 0), (.int .i64 0), (.int .u64 0), (.int .i64 0)] H2 fun g t9 H3 => B32 g ((Op.store 9) [t9, t20] H3) fun g u_1 H4 => W M c (yj 5) g (BLK3 1 Q) ((10, t21)::(9, t9)::E) D H4) ∧
 (∀ Q E D H, W M c (yh 4) true Q E D H =
  A3 true T_int [(.int .i64 0)] H fun g t6 H1 => B32 g ((Op.store 1) [t6, (.int .i64 0)] H1) fun g u H2 => W M c (yh 6) g Q ((6, t6)::E) D H2) ∧
 (∀ Q E D H, W M c (yj 5) true Q E D H =
  LK true (lk E 10) fun g t10 => B3 g ((Op.un .not) [t10]) fun g t23 => JN (fun (k : Bool → AV → AV → AHeap → Prop) => B3 g (wantV false (some t23)) fun g w => IG3 g w (fun g => LK g (lk E 8) fun g t8 => B3 g ((Op.un .not) [t8]) fun g t26 => k g t26 t8 H) (fun g => k g uu uu H)) (fun g t26_1 t25_1 H1 => B3 g (Op.pick [t23, (.bool true), t26_1]) fun g t27 => IF3 g t27 (fun g => LK g (lk E 6) fun g t6 => B3 g (Op.load1 [t6] H1) fun g t28 => LK g (lk E 2) fun g t2 => B32 g ((Op.store 1) [t2, .nils] H1) fun g u H2 => CK3 g (Op.load1 [t6] H2) (some t28) fun g => LK g (lk E 3) fun g t3 => B32 g ((Op.store 1) [t3, t28] H2) fun g u_1 H3 => LK g (lk E 4) fun g t4 => B32 g ((Op.store 1) [t4, (.int .i64 230)] H3) fun g u_2 H4 => GO3 g (SEQ3 (W M c (yj 13)) Q) .ret E D H4) (fun g => GO3 g (SEQ3 (W M c (yj 13)) Q) .normal E D H1))) ∧
 (∀ Q E D H, W M c (yh 6) true Q E D H =
  LK true (lk E 0) fun g t0 => C3 M g (.func vo) [t0] H fun g t12 H1 => RNG3 M vm.keep c 0 ((12, t12)::E) D H1 (BLK3 0 (SEQ3 (W M c (yh 11)) Q)) t12) ∧
 (∀ Q E D H, W M c (yj 13) true Q E D H =
  LK true (lk E 5) fun g t5 => B3 g (Op.load1 [t5] H) fun g t29 => LK g (lk E 9) fun g t9 => B3 g ((Op.loadN 9) [t9] H) fun g t30 => B32 g ((Op.buildSlice qb 1 [(.int .i64 0), (.int .i64 0), (.int .i64 0), (.int .i64 0), (.int .i64 0), (.int .i64 0), (.int .i64 0), (.int .u64 0), (.int .i64 0)] [(0, 9)]) [t30]) fun g o1 k1 => B32 g ((Op.append qb 9 72) [t29, (k1 H.next)] (H.alloc o1)) fun g t32 H2 => B32 g ((Op.store 1) [t5, t32] H2) fun g u H3 => GO3 g Q .normal E D H3) ∧
 (∀ Q E D H, W M c (yh 11) true Q E D H =
  LK true (lk E 5) fun g t5 => B3 g (Op.load1 [t5] H) fun g t33 => LK g (lk E 2) fun g t2 => B32 g ((Op.store 1) [t2, t33] H) fun g u H1 => LK g (lk E 3) fun g t3 => B32 g ((Op.store 1) [t3, (.int .i64 0)] H1) fun g u_1 H2 => LK g (lk E 4) fun g t4 => B32 g ((Op.store 1) [t4, (.int .i64 0)] H2) fun g u_2 H3 => GO3 g Q .ret E D H3) := by (repeat' apply And.intro) <;> (intro _ _ _ _; refine W_unf ?_; kernel_rfl)
theorem qj0 : (cProg Tryd.prog).func kg = some vf ∧ vf.results = [.cell1 2, .cell1 3, .cell1 4] := qw (by kernel_rfl)
theorem qiu {M : Mac} [MK M] : M.func kg = some vf := MK.at (by decide) qj0.1
theorem qtt {M : Mac} [MK M] {a0 : AV} {H : AHeap} {Q : AEnd → AHeap → Prop} (h : W M ⟨none, kg⟩ (yh 0) true (FIN3 M [.cell1 2, .cell1 3, .cell1 4] Q) [(0, a0)] [] H) : CALLE M kg [a0] H Q :=
  calle qiu (ks := vm) (by kernel_rfl) (by rw [qj0.2]; exact h)
def qdu : AFunc := funcAt Tryd.prog ke
def qkg : Kp := ⟨[0, 2, 3, 4, 5, 6, 7, 8, 9, 11, 12, 13, 69, 70], false, [0, 4, 6, 14, 18, 20, 28, 30, 35, 41, 46, 53]⟩
def qu (k : Nat) : Kp × ACode := (qkg, part qdu.body k)
theorem xn (M : Mac) (c : Ctx) : (∀ Q E D H, W M c (qu 0) true Q E D H =
  A3 true qb [(.int .i64 0), (.int .i64 0), (.int .i64 0), (.int .i64 0), (.int .i64 0), (.int .i64 0), (.int .i64 0), (.int .u64 0), (.int .i64 0)] H fun g t2 H1 => LK g (lk E 0) fun g t0 => B3 g (Op.nilCheck [t0]) fun g t15 => B3 g (Op.load1 [t15] H1) fun g t16 => B3 g ((Op.indexSl 1) [t16, (.int .i64 0)]) fun g t17 => B3 g (Op.load1 [t17] H1) fun g t18 => B3 g ((Op.wrap .i64) [t18]) fun g t19 => W M c (qu 4) g Q ((4, t19)::(3, (.bool false))::(2, t2)::E) D H1) ∧
 (∀ Q E D H, W M c (qu 4) true Q E D H =
  LK true (lk E 0) fun g t0 => B3 g (Op.nilCheck [t0]) fun g t22 => B3 g (Op.load1 [t22] H) fun g t23 => B3 g ((Op.sliceSl 1 [(some 0), none, none]) [t23, (.int .i64 1)]) fun g t24 => B3 g (Op.nilCheck [t0]) fun g t25 => B32 g ((Op.store 1) [t25, t24] H) fun g u H1 => W M c (qu 6) g Q E D H1) ∧
 (∀ Q E D H, W M c (qu 6) true Q E D H =
  LK true (lk E 4) fun g t4 => B3 g ((Op.bin .lss) [t4, (.int .i64 1)]) fun g t27 => JN (fun (k : Bool → AV → AV → AHeap → Prop) => B3 g (wantV false (some t27)) fun g w => IG3 g w (fun g => B3 g ((Op.bin .gtr) [t4, (.int .i64 8)]) fun g t30 => k g t30 t4 H) (fun g => k g uu uu H)) (fun g t30_1 t29_1 H1 => B3 g (Op.pick [t27, (.bool true), t30_1]) fun g t31 => IF3 g t31 (fun g => B3 g ((Op.build [(.int .i64 0), (.int .i64 0), (.int .i64 0), (.int .i64 0), (.int .i64 0), (.int .i64 0), (.int .i64 0), (.int .u64 0), (.int .i64 0)] []) []) fun g t32 => LK g (lk E 2) fun g t2 => B32 g ((Op.store 9) [t2, t32] H1) fun g u H2 => GO3 g (SEQ3 (W M c (qu 14)) Q) .ret ((3, (.bool false))::E) D H2) (fun g => GO3 g (SEQ3 (W M c (qu 14)) Q) .normal E D H1))) ∧
 (∀ Q E D H, W M c (qu 14) true Q E D H =
  LK true (lk E 4) fun g t4 => C3 M g (.func ya) [t4] H fun g t34 H1 => A3 g qb [(.int .i64 0), (.int .i64 0), (.int .i64 0), (.int .i64 0), (.int .i64 0), (.int .i64 0), (.int .i64 0), (.int .u64 0), (.int .i64 0)] H1 fun g t5 H2 => B32 g ((Op.store 9) [t5, t34] H2) fun g u H3 => LK g (lk E 0) fun g t0 => C3 M g (.func jh) [t0] H3 fun g t37 H4 => B3 g ((Op.extract 0) [t37]) fun g t38 => B3 g ((Op.extract 1) [t37]) fun g t39 => W M c (qu 18) g Q ((7, t39)::(6, t38)::(5, t5)::E) D H4) ∧
 (∀ Q E D H, W M c (qu 18) true Q E D H =
  LK true (lk E 0) fun g t0 => C3 M g (.func jh) [t0] H fun g t42 H1 => B3 g ((Op.extract 0) [t42]) fun g t43 => B3 g ((Op.extract 1) [t42]) fun g t44 => W M c (qu 20) g Q ((9, t44)::(8, t43)::E) D H1) ∧
 (∀ Q E D H, W M c (qu 20) true Q E D H =
  LK true (lk E 7) fun g t7 => B3 g ((Op.un .not) [t7]) fun g t46 => JN (fun (k : Bool → AV → AV → AHeap → Prop) => B3 g (wantV false (some t46)) fun g w => IG3 g w (fun g => LK g (lk E 9) fun g t9 => B3 g ((Op.un .not) [t9]) fun g t49 => k g t49 t9 H) (fun g => k g uu uu H)) (fun g t49_1 t48_1 H1 => B3 g (Op.pick [t46, (.bool true), t49_1]) fun g t50 => JN (fun (k : Bool → AV → AV → AHeap → Prop) => B3 g (wantV false (some t50)) fun g w => IG3 g w (fun g => LK g (lk E 6) fun g t6 => B3 g ((Op.bin .geq) [t6, (.int .u64 4)]) fun g t53 => k g t53 t6 H1) (fun g => k g uu uu H1)) (fun g t53_1 t52_1 H2 => B3 g (Op.pick [t50, (.bool true), t53_1]) fun g t54 => JN (fun (k : Bool → AV → AV → AHeap → Prop) => B3 g (wantV false (some t54)) fun g w => IG3 g w (fun g => LK g (lk E 8) fun g t8 => B3 g ((Op.bin .gtr) [t8, (.int .u64 9223372036854775807)]) fun g t57 => k g t57 t8 H2) (fun g => k g uu uu H2)) (fun g t57_1 t56_1 H3 => B3 g (Op.pick [t54, (.bool true), t57_1]) fun g t58 => IF3 g t58 (fun g => B3 g ((Op.build [(.int .i64 0), (.int .i64 0), (.int .i64 0), (.int .i64 0), (.int .i64 0), (.int .i64 0), (.int .i64 0), (.int .u64 0), (.int .i64 0)] []) []) fun g t59 => LK g (lk E 2) fun g t2 => B32 g ((Op.store 9) [t2, t59] H3) fun g u H4 => GO3 g (SEQ3 (W M c (qu 28)) Q) .ret ((3, (.bool false))::E) D H4) (fun g => GO3 g (SEQ3 (W M c (qu 28)) Q) .normal E D H3))))) ∧
 (∀ Q E D H, W M c (qu 28) true Q E D H =
  LK true (lk E 6) fun g t6 => B3 g ((Op.wrap .i64) [t6]) fun g t61 => LK g (lk E 8) fun g t8 => B3 g ((Op.wrap .i64) [t8]) fun g t63 => LK g (lk E 5) fun g t5 => B3 g ((Op.fieldAddr 2) [t5]) fun g t64 => B32 g ((Op.store 1) [t64, t61] H) fun g u H1 => B3 g ((Op.fieldAddr 1) [t5]) fun g t65 => B32 g ((Op.store 1) [t65, t63] H1) fun g u_1 H2 => W M c (qu 30) g Q E D H2) ∧
 (∀ Q E D H, W M c (qu 30) true Q E D H =
  LK true (lk E 4) fun g t4 => B3 g ((Op.indexArr 9 1) [(.ptr vn 0), t4]) fun g t67 => B3 g (Op.load1 [t67] H) fun g t68 => B32 g (Op.rangeStr [t68]) fun g o1 k1 => LOOP3 (W M c (qu 35)) (BLK3 0 (SEQ3 (W M c (qu 53)) Q)) ((69, (k1 H.next))::E) D (H.alloc o1)) ∧
 (∀ Q E D H, W M c (qu 53) true Q E D H =
  LK true (lk E 5) fun g t5 => B3 g ((Op.loadN 9) [t5] H) fun g t87 => LK g (lk E 2) fun g t2 => B32 g ((Op.store 9) [t2, t87] H) fun g u H1 => GO3 g Q .ret ((3, (.bool true))::E) D H1) ∧
 (∀ Q E D H, W M c (qu 35) true Q E D H =
  LK true (lk E 69) fun g t69 => B32 g (Op.nextStr [t69] H) fun g t70 H1 => B3 g ((Op.extract 0) [t70]) fun g t71 => IF3 g t71 (fun g => GO3 g (SEQ3 (W M c (qu 41)) Q) .normal ((70, t70)::E) D H1) (fun g => GO3 g (SEQ3 (W M c (qu 41)) Q) (.exit 0) ((70, t70)::E) D H1)) ∧
 (∀ Q E D H, W M c (qu 41) true Q E D H =
  LK true (lk E 70) fun g t70 => B3 g ((Op.extract 2) [t70]) fun g t72 => LK g (lk E 0) fun g t0 => C3 M g (.func jh) [t0] H fun g t75 H1 => B3 g ((Op.extract 0) [t75]) fun g t76 => B3 g ((Op.extract 1) [t75]) fun g t77 => W M c (qu 46) g (BLK3 1 Q) ((13, t77)::(12, t76)::(11, t72)::E) D H1) ∧
 (∀ Q E D H, W M c (qu 46) true Q E D H =
  LK true (lk E 13) fun g t13 => B3 g ((Op.un .not) [t13]) fun g t79 => JN (fun (k : Bool → AV → AV → AV → AV → AHeap → Prop) => B3 g (wantV false (some t79)) fun g w => IG3 g w (fun g => LK g (lk E 11) fun g t11 => LK g (lk E 12) fun g t12 => LK g (lk E 5) fun g t5 => C3 M g (.func qah) [t5, t11, t12] H fun g t83 H1 => B3 g ((Op.un .not) [t83]) fun g t84 => k g t84 t83 t12 t11 H1) (fun g => k g uu uu uu uu H)) (fun g t84_1 t83_1 t82_1 t81_1 H2 => B3 g (Op.pick [t79, (.bool true), t84_1]) fun g t85 => IF3 g t85 (fun g => B3 g ((Op.build [(.int .i64 0), (.int .i64 0), (.int .i64 0), (.int .i64 0), (.int .i64 0), (.int .i64 0), (.int .i64 0), (.int .u64 0), (.int .i64 0)] []) []) fun g t86 => LK g (lk E 2) fun g t2 => B32 g ((Op.store 9) [t2, t86] H2) fun g u H3 => GO3 g Q .ret ((3, (.bool false))::E) D H3) (fun g => GO3 g Q .normal E D H2))) := by (repeat' apply And.intro) <;> (intro _ _ _ _; refine W_unf ?_; kernel_rfl)
theorem qj6 : (cProg Tryd.prog).func ke = some qdu ∧ qdu.results = [.cellN 9 2, .tmp 3] := qw (by kernel_rfl)
theorem qql {M : Mac} [MK M] : M.func ke = some qdu := MK.at (by decide) qj6.1
theorem qs1 {M : Mac} [MK M] {a0 : AV} {H : AHeap} {Q : AEnd → AHeap → Prop} (h : W M ⟨none, ke⟩ (qu 0) true (FIN3 M [.cellN 9 2, .tmp 3] Q) [(0, a0)] [] H) : CALLE M ke [a0] H Q :=
  calle qql (ks := qkg) (by kernel_rfl) (by rw [qj6.2]; exact h)
def qc9 : AFunc := funcAt Tryd.prog vo
def qjo : Kp := ⟨[0, 1, 2], false, [0]⟩
def qk3 (k : Nat) : Kp × ACode := (qjo, part qc9.body k)
theorem qsl (M : Mac) (c : Ctx) : (∀ Q E D H, W M c (qk3 0) true Q E D H =
  LK true (lk E 0) fun g t0 => A3 g qm (AV.cells t0) H fun g t1 H1 => B3 g ((Op.mkFunc ja 0) [t1]) fun g t3 => GO3 g Q .ret ((2, t3)::(2, .nilf)::(1, t1)::E) D H1) := by intro _ _ _ _; refine W_unf ?_; kernel_rfl
theorem qj3 : (cProg Tryd.prog).func vo = some qc9 ∧ qc9.results = [.tmp 2] := qw (by kernel_rfl)
theorem qpq {M : Mac} [MK M] : M.func vo = some qc9 := MK.at (by decide) qj3.1
theorem qs2 {M : Mac} [MK M] {a0 : AV} {H : AHeap} {Q : AEnd → AHeap → Prop} (h : W M ⟨none, vo⟩ (qk3 0) true (FIN3 M [.tmp 2] Q) [(0, a0)] [] H) : CALLE M vo [a0] H Q :=
  calle qpq (ks := qjo) (by kernel_rfl) (by rw [qj3.2]; exact h)
def qeu : AFunc := funcAt Tryd.prog zz
def qmc : Kp := ⟨[0, 2, 3, 4, 5, 6, 7, 8, 9, 10, 11, 12, 13, 14, 15, 17, 18, 91, 92], false, [0, 4, 12, 14, 17, 23, 25, 33, 37, 39, 47, 49, 54, 60, 65, 67, 77, 84]⟩
def qk (k : Nat) : Kp × ACode := (qmc, part qeu.body k)
theorem qe2 (M : Mac) (c : Ctx) : (∀ Q E D H, W M c (qk 0) true Q E D H =
  A3 true qb [(.int .i64 0), (.int .i64 0), (.int .i64 0), (.int .i64 0), (.int .i64 0), (.int .i64 0), (.int .i64 0), (.int .u64 0), (.int .i64 0)] H fun g t2 H1 => LK g (lk E 0) fun g t0 => C3 M g (.func kj) [t0, (.str [32])] H1 fun g t20 H2 => W M c (qk 4) g Q ((4, t20)::(3, (.bool false))::(2, t2)::E) D H2) ∧
 (∀ Q E D H, W M c (qk 4) true Q E D H =
  LK true (lk E 4) fun g t4 => B3 g (Op.lenSl [t4]) fun g t22 => B3 g ((Op.bin .lss) [t22, (.int .i64 3)]) fun g t23 => IF3 g t23 (fun g => B3 g ((Op.build [(.int .i64 0), (.int .i64 0), (.int .i64 0), (.int .i64 0), (.int .i64 0), (.int .i64 0), (.int .i64 0), (.int .u64 0), (.int .i64 0)] []) []) fun g t24 => LK g (lk E 2) fun g t2 => B32 g ((Op.store 9) [t2, t24] H) fun g u H1 => GO3 g (SEQ3 (W M c (qk 12)) Q) .ret ((3, (.bool false))::E) D H1) (fun g => GO3 g (SEQ3 (W M c (qk 12)) Q) .normal E D H)) ∧
 (∀ Q E D H, W M c (qk 12) true Q E D H =
  W M c (qk 14) true Q ((5, (.int .i64 8))::E) D H) ∧
 (∀ Q E D H, W M c (qk 14) true Q E D H =
  LOOP3 (W M c (qk 17)) (BLK3 0 (SEQ3 (W M c (qk 25)) Q)) E D H) ∧
 (∀ Q E D H, W M c (qk 25) true Q E D H =
  LK true (lk E 5) fun g t5 => B3 g ((Op.bin .lss) [t5, (.int .i64 1)]) fun g t39 => JN (fun (k : Bool → AV → AV → AV → AV → AV → AV → AV → AV → AHeap → Prop) => B3 g (wantV false (some t39)) fun g w => IG3 g w (fun g => LK g (lk E 4) fun g t4 => B3 g (Op.lenSl [t4]) fun g t42 => B3 g ((Op.indexArr 9 1) [(.ptr vn 0), t5]) fun g t44 => B3 g (Op.load1 [t44] H) fun g t45 => B3 g (Op.lenStr [t45]) fun g t46 => B3 g ((Op.bin .add) [(.int .i64 3), t46]) fun g t47 => B3 g ((Op.bin .neq) [t42, t47]) fun g t48 => k g t48 t47 t46 t45 t44 t5 t42 t4 H) (fun g => k g uu uu uu uu uu uu uu uu H)) (fun g t48_1 t47_1 t46_1 t45_1 t44_1 t43_1 t42_1 t41_1 H1 => B3 g (Op.pick [t39, (.bool true), t48_1]) fun g t49 => IF3 g t49 (fun g => B3 g ((Op.build [(.int .i64 0), (.int .i64 0), (.int .i64 0), (.int .i64 0), (.int .i64 0), (.int .i64 0), (.int .i64 0), (.int .u64 0), (.int .i64 0)] []) []) fun g t50 => LK g (lk E 2) fun g t2 => B32 g ((Op.store 9) [t2, t50] H1) fun g u H2 => GO3 g (SEQ3 (W M c (qk 33)) Q) .ret ((3, (.bool false))::E) D H2) (fun g => GO3 g (SEQ3 (W M c (qk 33)) Q) .normal E D H1))) ∧
 (∀ Q E D H, W M c (qk 17) true Q E D H =
  LK true (lk E 5) fun g t5 => B3 g ((Op.bin .gtr) [t5, (.int .i64 0)]) fun g t26 => JN (fun (k : Bool → AV → AV → AV → AV → AV → AV → AV → AHeap → Prop) => B3 g (wantV true (some t26)) fun g w => IG3 g w (fun g => B3 g ((Op.indexArr 9 1) [(.ptr qbg 0), t5]) fun g t29 => B3 g (Op.load1 [t29] H) fun g t30 => LK g (lk E 4) fun g t4 => B3 g ((Op.indexSl 1) [t4, (.int .i64 2)]) fun g t32 => B3 g (Op.load1 [t32] H) fun g t33 => B3 g ((Op.bin .neq) [t30, t33]) fun g t34 => k g t34 t33 t32 t4 t30 t29 t5 H) (fun g => k g uu uu uu uu uu uu uu H)) (fun g t34_1 t33_1 t32_1 t31_1 t30_1 t29_1 t28_1 H1 => B3 g (Op.pick [t26, t34_1, (.bool false)]) fun g t35 => IF3 g t35 (fun g => GO3 g (SEQ3 (W M c (qk 23)) Q) .normal E D H1) (fun g => GO3 g (SEQ3 (W M c (qk 23)) Q) (.exit 0) E D H1))) ∧
 (∀ Q E D H, W M c (qk 33) true Q E D H =
  LK true (lk E 5) fun g t5 => C3 M g (.func ya) [t5] H fun g t52 H1 => A3 g qb [(.int .i64 0), (.int .i64 0), (.int .i64 0), (.int .i64 0), (.int .i64 0), (.int .i64 0), (.int .i64 0), (.int .u64 0), (.int .i64 0)] H1 fun g t6 H2 => B32 g ((Op.store 9) [t6, t52] H2) fun g u H3 => LK g (lk E 4) fun g t4 => B3 g ((Op.indexSl 1) [t4, (.int .i64 0)]) fun g t55 => B3 g (Op.load1 [t55] H3) fun g t56 => C3 M g (.func jz) [t56] H3 fun g t57 H4 => B3 g ((Op.extract 0) [t57]) fun g t58 => B3 g ((Op.extract 1) [t57]) fun g t59 => W M c (qk 37) g Q ((8, t59)::(7, t58)::(6, t6)::E) D H4) ∧
 (∀ Q E D H, W M c (qk 23) true Q E D H =
  LK true (lk E 5) fun g t5 => B3 g ((Op.bin .sub) [t5, (.int .i64 1)]) fun g t37 => GO3 g (BLK3 1 Q) .normal ((5, t37)::E) D H) ∧
 (∀ Q E D H, W M c (qk 37) true Q E D H =
  LK true (lk E 4) fun g t4 => B3 g ((Op.indexSl 1) [t4, (.int .i64 1)]) fun g t62 => B3 g (Op.load1 [t62] H) fun g t63 => C3 M g (.func jz) [t63] H fun g t64 H1 => B3 g ((Op.extract 0) [t64]) fun g t65 => B3 g ((Op.extract 1) [t64]) fun g t66 => W M c (qk 39) g Q ((10, t66)::(9, t65)::E) D H1) ∧
 (∀ Q E D H, W M c (qk 39) true Q E D H =
  LK true (lk E 8) fun g t8 => B3 g ((Op.un .not) [t8]) fun g t68 => JN (fun (k : Bool → AV → AV → AHeap → Prop) => B3 g (wantV false (some t68)) fun g w => IG3 g w (fun g => LK g (lk E 10) fun g t10 => B3 g ((Op.un .not) [t10]) fun g t71 => k g t71 t10 H) (fun g => k g uu uu H)) (fun g t71_1 t70_1 H1 => B3 g (Op.pick [t68, (.bool true), t71_1]) fun g t72 => JN (fun (k : Bool → AV → AV → AHeap → Prop) => B3 g (wantV false (some t72)) fun g w => IG3 g w (fun g => LK g (lk E 7) fun g t7 => B3 g ((Op.bin .gtr) [t7, (.int .u64 9223372036854775807)]) fun g t75 => k g t75 t7 H1) (fun g => k g uu uu H1)) (fun g t75_1 t74_1 H2 => B3 g (Op.pick [t72, (.bool true), t75_1]) fun g t76 => JN (fun (k : Bool → AV → AV → AHeap → Prop) => B3 g (wantV false (some t76)) fun g w => IG3 g w (fun g => LK g (lk E 9) fun g t9 => B3 g ((Op.bin .geq) [t9, (.int .u64 4)]) fun g t79 => k g t79 t9 H2) (fun g => k g uu uu H2)) (fun g t79_1 t78_1 H3 => B3 g (Op.pick [t76, (.bool true), t79_1]) fun g t80 => IF3 g t80 (fun g => B3 g ((Op.build [(.int .i64 0), (.int .i64 0), (.int .i64 0), (.int .i64 0), (.int .i64 0), (.int .i64 0), (.int .i64 0), (.int .u64 0), (.int .i64 0)] []) []) fun g t81 => LK g (lk E 2) fun g t2 => B32 g ((Op.store 9) [t2, t81] H3) fun g u H4 => GO3 g (SEQ3 (W M c (qk 47)) Q) .ret ((3, (.bool false))::E) D H4) (fun g => GO3 g (SEQ3 (W M c (qk 47)) Q) .normal E D H3))))) ∧
 (∀ Q E D H, W M c (qk 47) true Q E D H =
  LK true (lk E 7) fun g t7 => B3 g ((Op.wrap .i64) [t7]) fun g t83 => LK g (lk E 9) fun g t9 => B3 g ((Op.wrap .i64) [t9]) fun g t85 => LK g (lk E 6) fun g t6 => B3 g ((Op.fieldAddr 1) [t6]) fun g t86 => B32 g ((Op.store 1) [t86, t83] H) fun g u H1 => B3 g ((Op.fieldAddr 2) [t6]) fun g t87 => B32 g ((Op.store 1) [t87, t85] H1) fun g u_1 H2 => W M c (qk 49) g Q E D H2) ∧
 (∀ Q E D H, W M c (qk 49) true Q E D H =
  LK true (lk E 5) fun g t5 => B3 g ((Op.indexArr 9 1) [(.ptr vn 0), t5]) fun g t89 => B3 g (Op.load1 [t89] H) fun g t90 => B32 g (Op.rangeStr [t90]) fun g o1 k1 => LOOP3 (W M c (qk 54)) (BLK3 2 (SEQ3 (W M c (qk 84)) Q)) ((91, (k1 H.next))::E) D (H.alloc o1)) ∧
 (∀ Q E D H, W M c (qk 84) true Q E D H =
  LK true (lk E 6) fun g t6 => B3 g ((Op.loadN 9) [t6] H) fun g t134 => LK g (lk E 2) fun g t2 => B32 g ((Op.store 9) [t2, t134] H) fun g u H1 => GO3 g Q .ret ((3, (.bool true))::E) D H1) ∧
 (∀ Q E D H, W M c (qk 54) true Q E D H =
  LK true (lk E 91) fun g t91 => B32 g (Op.nextStr [t91] H) fun g t92 H1 => B3 g ((Op.extract 0) [t92]) fun g t93 => IF3 g t93 (fun g => GO3 g (SEQ3 (W M c (qk 60)) Q) .normal ((92, t92)::E) D H1) (fun g => GO3 g (SEQ3 (W M c (qk 60)) Q) (.exit 2) ((92, t92)::E) D H1)) ∧
 (∀ Q E D H, W M c (qk 60) true Q E D H =
  LK true (lk E 92) fun g t92 => B3 g ((Op.extract 1) [t92]) fun g t94 => B3 g ((Op.extract 2) [t92]) fun g t95 => LK g (lk E 4) fun g t4 => B3 g ((Op.bin .add) [(.int .i64 3), t94]) fun g t98 => B3 g ((Op.indexSl 1) [t4, t98]) fun g t99 => B3 g (Op.load1 [t99] H) fun g t100 => W M c (qk 65) g (BLK3 3 Q) ((13, t100)::(12, t95)::(11, t94)::E) D H) ∧
 (∀ Q E D H, W M c (qk 65) true Q E D H =
  LK true (lk E 13) fun g t13 => C3 M g (.func jz) [t13] H fun g t103 H1 => B3 g ((Op.extract 0) [t103]) fun g t104 => B3 g ((Op.extract 1) [t103]) fun g t105 => W M c (qk 67) g Q ((15, t105)::(14, t104)::E) D H1) ∧
 (∀ Q E D H, W M c (qk 67) true Q E D H =
  LK true (lk E 12) fun g t12 => B3 g ((Op.bin .eql) [t12, (.int .i32 108)]) fun g t107 => JN (fun (k : Bool → AV → AV → AHeap → Prop) => B3 g (wantV false (some t107)) fun g w => IG3 g w (fun g => B3 g ((Op.bin .eql) [t12, (.int .i32 99)]) fun g t110 => k g t110 t12 H) (fun g => k g uu uu H)) (fun g t110_1 t109_1 H1 => B3 g (Op.pick [t107, (.bool true), t110_1]) fun g t111 => IF3 g t111 (fun g => LK g (lk E 12) fun g t12_1 => LK g (lk E 6) fun g t6 => C3 M g (.func kz) [t6, t12_1] H1 fun g t114 H2 => B3 g ((Op.extract 0) [t114]) fun g t115 => B3 g ((Op.extract 1) [t114]) fun g t116 => LK g (lk E 13) fun g t13 => C3 M g (.func zq) [t116, t13] H2 fun g t119 H3 => B3 g ((Op.minmax true) [t119, (.int .i64 0)]) fun g t121 => B3 g ((Op.wrap .u64) [t121]) fun g t122 => B3 g ((Op.bin .gtr) [t119, (.int .i64 0)]) fun g t124 => GO3 g (SEQ3 (W M c (qk 77)) Q) .normal ((15, t124)::(14, t122)::(18, t119)::(17, t116)::E) D H3) (fun g => GO3 g (SEQ3 (W M c (qk 77)) Q) .normal E D H1))) ∧
 (∀ Q E D H, W M c (qk 77) true Q E D H =
  LK true (lk E 15) fun g t15 => B3 g ((Op.un .not) [t15]) fun g t126 => JN (fun (k : Bool → AV → AV → AV → AV → AHeap → Prop) => B3 g (wantV false (some t126)) fun g w => IG3 g w (fun g => LK g (lk E 12) fun g t12 => LK g (lk E 14) fun g t14 => LK g (lk E 6) fun g t6 => C3 M g (.func qah) [t6, t12, t14] H fun g t130 H1 => B3 g ((Op.un .not) [t130]) fun g t131 => k g t131 t130 t14 t12 H1) (fun g => k g uu uu uu uu H)) (fun g t131_1 t130_1 t129_1 t128_1 H2 => B3 g (Op.pick [t126, (.bool true), t131_1]) fun g t132 => IF3 g t132 (fun g => B3 g ((Op.build [(.int .i64 0), (.int .i64 0), (.int .i64 0), (.int .i64 0), (.int .i64 0), (.int .i64 0), (.int .i64 0), (.int .u64 0), (.int .i64 0)] []) []) fun g t133 => LK g (lk E 2) fun g t2 => B32 g ((Op.store 9) [t2, t133] H2) fun g u H3 => GO3 g Q .ret ((3, (.bool false))::E) D H3) (fun g => GO3 g Q .normal E D H2))) := by (repeat' apply And.intro) <;> (intro _ _ _ _; refine W_unf ?_; kernel_rfl)
theorem ql8 : (cProg Tryd.prog).func zz = some qeu ∧ qeu.results = [.cellN 9 2, .tmp 3] := qw (by kernel_rfl)
theorem qsq {M : Mac} [MK M] : M.func zz = some qeu := MK.at (by decide) ql8.1
theorem quz {M : Mac} [MK M] {a0 : AV} {H : AHeap} {Q : AEnd → AHeap → Prop} (h : W M ⟨none, zz⟩ (qk 0) true (FIN3 M [.cellN 9 2, .tmp 3] Q) [(0, a0)] [] H) : CALLE M zz [a0] H Q :=
  calle qsq (ks := qmc) (by kernel_rfl) (by rw [ql8.2]; exact h)
def qey : AFunc := funcAt Tryd.prog jh
def ql1 : Kp := ⟨[0, 2, 3, 4, 5, 6, 9, 10, 11], false, [0, 4, 9, 15, 19, 27, 38, 39]⟩
def xz (k : Nat) : Kp × ACode := (ql1, part qey.body k)
theorem qe5 (M : Mac) (c : Ctx) : (∀ Q E D H, W M c (xz 0) true Q E D H =
  W M c (xz 4) true Q ((4, (.int .u64 0))::(3, (.bool false))::(2, (.int .u64 0))::E) D H) ∧
 (∀ Q E D H, W M c (xz 4) true Q E D H =
  LK true (lk E 0) fun g t0 => B3 g (Op.nilCheck [t0]) fun g t8 => B3 g (Op.load1 [t8] H) fun g t9 => B3 g (Op.lenSl [t9]) fun g t10 => LOOP3 (W M c (xz 9)) (BLK3 0 (SEQ3 (W M c (xz 39)) Q)) ((11, (.int .i64 0))::(10, t10)::(9, t9)::E) D H) ∧
 (∀ Q E D H, W M c (xz 39) true Q E D H =
  GO3 true Q .ret ((3, (.bool false))::(2, (.int .u64 0))::E) D H) ∧
 (∀ Q E D H, W M c (xz 9) true Q E D H =
  LK true (lk E 11) fun g t11 => LK g (lk E 10) fun g t10 => B3 g ((Op.bin .lss) [t11, t10]) fun g t12 => IF3 g t12 (fun g => GO3 g (SEQ3 (W M c (xz 15)) Q) .normal E D H) (fun g => GO3 g (SEQ3 (W M c (xz 15)) Q) (.exit 0) E D H)) ∧
 (∀ Q E D H, W M c (xz 15) true Q E D H =
  LK true (lk E 11) fun g t11 => LK g (lk E 9) fun g t9 => B3 g ((Op.indexSl 1) [t9, t11]) fun g t14 => B3 g (Op.load1 [t14] H) fun g t15 => W M c (xz 19) g (BLK3 1 (SEQ3 (W M c (xz 38)) Q)) ((6, t15)::(5, t11)::E) D H) ∧
 (∀ Q E D H, W M c (xz 38) true Q E D H =
  LK true (lk E 11) fun g t11 => B3 g ((Op.bin .add) [t11, (.int .i64 1)]) fun g t51 => GO3 g Q .normal ((11, t51)::E) D H) ∧
 (∀ Q E D H, W M c (xz 19) true Q E D H =
  LK true (lk E 5) fun g t5 => B3 g ((Op.bin .eql) [t5, (.int .i64 10)]) fun g t17 => JN (fun (k : Bool → AV → AV → AV → AHeap → Prop) => B3 g (wantV false (some t17)) fun g w => IG3 g w (fun g => B3 g ((Op.bin .eql) [t5, (.int .i64 9)]) fun g t20 => k g t20 t20 t5 H) (fun g => k g uu uu uu H)) (fun g t21_1 t20_1 t19_1 H1 => JN (fun (k : Bool → AV → AV → AHeap → Prop) => B3 g (wantV true (some t21_1)) fun g w => IG3 g w (fun g => LK g (lk E 6) fun g t6 => B3 g ((Op.bin .gtr) [t6, (.int .u8 1)]) fun g t23 => k g t23 t6 H1) (fun g => k g uu uu H1)) (fun g t23_1 t22_1 H2 => JN (fun (k : Bool → AV → AHeap → Prop) => B3 g (wantV false (some t17)) fun g w => IG3 g w (fun g => B3 g (Op.pick [t21_1, t23_1, (.bool false)]) fun g t24 => k g t24 H2) (fun g => k g uu H2)) (fun g t24_1 H3 => B3 g (Op.pick [t17, (.bool true), t24_1]) fun g t25 => IF3 g t25 (fun g => GO3 g (SEQ3 (W M c (xz 27)) Q) .ret ((3, (.bool false))::(2, (.int .u64 0))::E) D H3) (fun g => GO3 g (SEQ3 (W M c (xz 27)) Q) .normal E D H3))))) ∧
 (∀ Q E D H, W M c (xz 27) true Q E D H =
  LK true (lk E 4) fun g t4 => LK g (lk E 6) fun g t6 => B3 g ((Op.bin .and) [t6, (.int .u8 127)]) fun g t28 => B3 g ((Op.wrap .u64) [t28]) fun g t29 => LK g (lk E 5) fun g t5 => B3 g ((Op.bin .mul) [(.int .i64 7), t5]) fun g t31 => B3 g ((Op.bin .shl) [t29, t31]) fun g t32 => B3 g ((Op.bin .or) [t4, t32]) fun g t33 => LK g (lk E 6) fun g t6_1 => B3 g ((Op.bin .lss) [t6_1, (.int .u8 128)]) fun g t35 => IF3 g t35 (fun g => LK g (lk E 0) fun g t0 => B3 g (Op.nilCheck [t0]) fun g t38 => B3 g (Op.load1 [t38] H) fun g t39 => LK g (lk E 5) fun g t5_1 => B3 g ((Op.bin .add) [t5_1, (.int .i64 1)]) fun g t41 => B3 g ((Op.sliceSl 1 [(some 0), none, none]) [t39, t41]) fun g t42 => B3 g (Op.nilCheck [t0]) fun g t43 => B32 g ((Op.store 1) [t43, t42] H) fun g u H1 => LK g (lk E 5) fun g t5_2 => B3 g ((Op.bin .eql) [t5_2, (.int .i64 0)]) fun g t46 => JN (fun (k : Bool → AV → AV → AHeap → Prop) => B3 g (wantV false (some t46)) fun g w => IG3 g w (fun g => LK g (lk E 6) fun g t6_2 => B3 g ((Op.bin .gtr) [t6_2, (.int .u8 0)]) fun g t49 => k g t49 t6_2 H1) (fun g => k g uu uu H1)) (fun g t49_1 t48_1 H2 => B3 g (Op.pick [t46, (.bool true), t49_1]) fun g t50 => GO3 g Q .ret ((3, t50)::(2, t33)::(4, t33)::E) D H2)) (fun g => GO3 g Q .normal ((4, t33)::E) D H)) := by (repeat' apply And.intro) <;> (intro _ _ _ _; refine W_unf ?_; kernel_rfl)
theorem ql9 : (cProg Tryd.prog).func jh = some qey ∧ qey.results = [.tmp 2, .tmp 3] := qw (by kernel_rfl)
theorem qr1 {M : Mac} [MK M] : M.func jh = some qey := MK.at (by decide) ql9.1
theorem qvb {M : Mac} [MK M] {a0 : AV} {H : AHeap} {Q : AEnd → AHeap → Prop} (h : W M ⟨none, jh⟩ (xz 0) true (FIN3 M [.tmp 2, .tmp 3] Q) [(0, a0)] [] H) : CALLE M jh [a0] H Q :=
  calle qr1 (ks := ql1) (by kernel_rfl) (by rw [ql9.2]; exact h)
def km : AFunc := funcAt Tryd.prog ja
def kq : Kp := ⟨[0, 1, 2, 3, 5, 6], false, [0]⟩
def qhd (k : Nat) : Kp × ACode := (kq, part km.body k)
def j7 : ALoop := loopAt km 0
def qgm (k : Nat) : Kp × ACode := (⟨kq.keep, kq.pan, [0]⟩, part j7.assign k)
def qgo (k : Nat) : Kp × ACode := (⟨kq.keep, kq.pan, [0]⟩, part j7.body k)
theorem qfa : nth km.loops 0 = some j7 ∧ j7.params = [6] := ⟨by kernel_rfl, by kernel_rfl⟩
theorem qg3 (M : Mac) (c : Ctx) : (∀ Q E D H, W M c (qhd 0) true Q E D H =
  LK true (lk E 0) fun g t0 => A3 g T__83 (AV.cells t0) H fun g t2 H1 => LK g (lk E 1) fun g t1 => B3 g (Op.load1 [t1] H1) fun g t4 => C3 M g (.func kn) [t4] H1 fun g t5 H2 => RNG3 M kq.keep c 0 ((5, t5)::(2, t2)::E) D H2 (BLK3 0 Q) t5) ∧
 (∀ Q E D H, W M c (qgm 0) true Q E D H =
  LK true (lk E 6) fun g t6 => GO3 g Q .normal ((3, t6)::E) D H) ∧
 (∀ Q E D H, W M c (qgo 0) true Q E D H =
  LK true (lk E 2) fun g t2 => B3 g (Op.load1 [t2] H) fun g t7 => LK g (lk E 3) fun g t3 => C3 M g (.func zx) [t3, (.str [10])] H fun g t9 H1 => CK3 g (Op.load1 [t2] H1) (some t7) fun g => C3 M g (.func jf) [t3, (.str [10])] H1 fun g t11 H2 => CK3 g (Op.load1 [t2] H2) (some t7) fun g => V3 g [t7, t9, t11] fun g f vs => C3 M g f vs H2 fun g t12 H3 => B3 g ((Op.un .not) [t12]) fun g t13 => IF3 g t13 (fun g => GO3 g (BLK3 1 Q) .ret E D H3) (fun g => GO3 g (BLK3 1 Q) .normal E D H3)) := by (repeat' apply And.intro) <;> (intro _ _ _ _; refine W_unf ?_; kernel_rfl)
theorem qg5 : (cProg Tryd.prog).func ja = some km ∧ km.results = [] := qw (by kernel_rfl)
theorem qgn {M : Mac} [MK M] : M.func ja = some km := MK.at (by decide) qg5.1
theorem qno {M : Mac} [MK M] {a0 a1 : AV} {H : AHeap} {Q : AEnd → AHeap → Prop} (h : W M ⟨none, ja⟩ (qhd 0) true (FIN3 M [] Q) [(0, a0), (1, a1)] [] H) : CALLE M ja [a0, a1] H Q :=
  calle qgn (ks := kq) (by kernel_rfl) (by rw [qg5.2]; exact h)
def qbk : AFunc := funcAt Tryd.prog kj
def qhg : Kp := ⟨[0, 1, 4], false, [0]⟩
def qhp (k : Nat) : Kp × ACode := (qhg, part qbk.body k)
theorem qhi (M : Mac) (c : Ctx) : (∀ Q E D H, W M c (qhp 0) true Q E D H =
  LK true (lk E 0) fun g t0 => LK g (lk E 1) fun g t1 => C3 M g (.func jt) [t0, t1, (.int .i64 0), (.int .i64 (-1))] H fun g t7 H1 => GO3 g Q .ret ((4, t7)::(4, .nils)::E) D H1) := by intro _ _ _ _; refine W_unf ?_; kernel_rfl
theorem qhr : (cProg Tryd.prog).func kj = some qbk ∧ qbk.results = [.tmp 4] := qw (by kernel_rfl)
theorem qmr {M : Mac} [MK M] : M.func kj = some qbk := MK.at (by decide) qhr.1
theorem qne {M : Mac} [MK M] {a0 a1 : AV} {H : AHeap} {Q : AEnd → AHeap → Prop} (h : W M ⟨none, kj⟩ (qhp 0) true (FIN3 M [.tmp 4] Q) [(0, a0), (1, a1)] [] H) : CALLE M kj [a0, a1] H Q :=
  calle qmr (ks := qhg) (by kernel_rfl) (by rw [qhr.2]; exact h)
def qb0 : AFunc := funcAt Tryd.prog jz
def qik : Kp := ⟨[0, 2, 3, 4, 5], false, [0]⟩
def qil (k : Nat) : Kp × ACode := (qik, part qb0.body k)
theorem qbz (M : Mac) (c : Ctx) : (∀ Q E D H, W M c (qil 0) true Q E D H =
  LK true (lk E 0) fun g t0 => C3 M g (.func je) [t0, (.int .i64 10), (.int .i64 64)] H fun g t8 H1 => B3 g ((Op.extract 0) [t8]) fun g t9 => B3 g ((Op.extract 1) [t8]) fun g t10 => B3 g ((Op.eq .iface false) [t10, .nili] H1) fun g t13 => JN (fun (k : Bool → AV → AV → AV → AV → AHeap → Prop) => B3 g (wantV true (some t13)) fun g w => IG3 g w (fun g => C3 M g (.func zg) [t9, (.int .i64 10)] H1 fun g t16 H2 => LK g (lk E 0) fun g t0_1 => B3 g ((Op.bin .eql) [t16, t0_1]) fun g t18 => k g t18 t0_1 t16 t9 H2) (fun g => k g uu uu uu uu H1)) (fun g t18_1 t17_1 t16_1 t15_1 H3 => B3 g (Op.pick [t13, t18_1, (.bool false)]) fun g t19 => GO3 g Q .ret ((3, t19)::(2, t9)::(5, t10)::(4, t9)::(3, (.bool false))::(2, (.int .u64 0))::E) D H3)) := by intro _ _ _ _; refine W_unf ?_; kernel_rfl
theorem qir : (cProg Tryd.prog).func jz = some qb0 ∧ qb0.results = [.tmp 2, .tmp 3] := qw (by kernel_rfl)
theorem qni {M : Mac} [MK M] : M.func jz = some qb0 := MK.at (by decide) qir.1
theorem qqn {M : Mac} [MK M] {a0 : AV} {H : AHeap} {Q : AEnd → AHeap → Prop} (h : W M ⟨none, jz⟩ (qil 0) true (FIN3 M [.tmp 2, .tmp 3] Q) [(0, a0)] [] H) : CALLE M jz [a0] H Q :=
  calle qni (ks := qik) (by kernel_rfl) (by rw [qir.2]; exact h)
def k9 : AFunc := funcAt Tryd.prog zq
def qb8 : Kp := ⟨[0, 1, 4, 5, 7, 8], false, [0, 2, 7, 13, 24, 25]⟩
def xa (k : Nat) : Kp × ACode := (qb8, part k9.body k)
theorem ye (M : Mac) (c : Ctx) : (∀ Q E D H, W M c (xa 0) true Q E D H =
  W M c (xa 2) true Q ((4, (.int .i64 0))::E) D H) ∧
 (∀ Q E D H, W M c (xa 2) true Q E D H =
  LK true (lk E 0) fun g t0 => B3 g (Op.lenSl [t0]) fun g t7 => LOOP3 (W M c (xa 7)) (BLK3 0 (SEQ3 (W M c (xa 25)) Q)) ((8, (.int .i64 0))::(7, t7)::E) D H) ∧
 (∀ Q E D H, W M c (xa 25) true Q E D H =
  GO3 true Q .ret ((4, (.int .i64 (-1)))::E) D H) ∧
 (∀ Q E D H, W M c (xa 7) true Q E D H =
  LK true (lk E 8) fun g t8 => LK g (lk E 7) fun g t7 => B3 g ((Op.bin .lss) [t8, t7]) fun g t9 => IF3 g t9 (fun g => GO3 g (SEQ3 (W M c (xa 13)) Q) .normal E D H) (fun g => GO3 g (SEQ3 (W M c (xa 13)) Q) (.exit 0) E D H)) ∧
 (∀ Q E D H, W M c (xa 13) true Q E D H =
  LK true (lk E 8) fun g t8 => LK g (lk E 1) fun g t1 => LK g (lk E 0) fun g t0 => B3 g ((Op.indexSl 1) [t0, t8]) fun g t14 => B3 g (Op.load1 [t14] H) fun g t15 => B3 g ((Op.bin .eql) [t1, t15]) fun g t16 => IF3 g t16 (fun g => GO3 g (BLK3 1 (SEQ3 (W M c (xa 24)) Q)) .ret ((4, t8)::(5, t8)::E) D H) (fun g => GO3 g (BLK3 1 (SEQ3 (W M c (xa 24)) Q)) .normal ((5, t8)::E) D H)) ∧
 (∀ Q E D H, W M c (xa 24) true Q E D H =
  LK true (lk E 8) fun g t8 => B3 g ((Op.bin .add) [t8, (.int .i64 1)]) fun g t18 => GO3 g Q .normal ((8, t18)::E) D H) := by (repeat' apply And.intro) <;> (intro _ _ _ _; refine W_unf ?_; kernel_rfl)
theorem qcf : (cProg Tryd.prog).func zq = some k9 ∧ k9.results = [.tmp 4] := qw (by kernel_rfl)
theorem qgx {M : Mac} [MK M] : M.func zq = some k9 := MK.at (by decide) qcf.1
theorem qht {M : Mac} [MK M] {a0 a1 : AV} {H : AHeap} {Q : AEnd → AHeap → Prop} (h : W M ⟨none, zq⟩ (xa 0) true (FIN3 M [.tmp 4] Q) [(0, a0), (1, a1)] [] H) : CALLE M zq [a0, a1] H Q :=
  calle qgx (ks := qb8) (by kernel_rfl) (by rw [qcf.2]; exact h)
def qbd : AFunc := funcAt Tryd.prog kn
def qhx : Kp := ⟨[0, 1, 2], false, [0]⟩
def qha (k : Nat) : Kp × ACode := (qhx, part qbd.body k)
theorem qo0 (M : Mac) (c : Ctx) : (∀ Q E D H, W M c (qha 0) true Q E D H =
  LK true (lk E 0) fun g t0 => A3 g qm (AV.cells t0) H fun g t1 H1 => B3 g ((Op.mkFunc x7 0) [t1]) fun g t3 => GO3 g Q .ret ((2, t3)::(2, .nilf)::(1, t1)::E) D H1) := by intro _ _ _ _; refine W_unf ?_; kernel_rfl
theorem qhv : (cProg Tryd.prog).func kn = some qbd ∧ qbd.results = [.tmp 2] := qw (by kernel_rfl)
theorem qms {M : Mac} [MK M] : M.func kn = some qbd := MK.at (by decide) qhv.1
theorem qnt {M : Mac} [MK M] {a0 : AV} {H : AHeap} {Q : AEnd → AHeap → Prop} (h : W M ⟨none, kn⟩ (qha 0) true (FIN3 M [.tmp 2] Q) [(0, a0)] [] H) : CALLE M kn [a0] H Q :=
  calle qms (ks := qhx) (by kernel_rfl) (by rw [qhv.2]; exact h)
def yx : AFunc := funcAt Tryd.prog zx
def qc3 : Kp := ⟨[0, 1, 4], false, [0]⟩
def qc2 (k : Nat) : Kp × ACode := (qc3, part yx.body k)
theorem qcz (M : Mac) (c : Ctx) : (∀ Q E D H, W M c (qc2 0) true Q E D H =
  LK true (lk E 0) fun g t0 => LK g (lk E 1) fun g t1 => C3 M g (.func xh) [t0, t1] H fun g t7 H1 => GO3 g Q .ret ((4, t7)::(4, (.str []))::E) D H1) := by intro _ _ _ _; refine W_unf ?_; kernel_rfl
theorem qcs : (cProg Tryd.prog).func zx = some yx ∧ yx.results = [.tmp 4] := qw (by kernel_rfl)
theorem qg6 {M : Mac} [MK M] : M.func zx = some yx := MK.at (by decide) qcs.1
theorem qic {M : Mac} [MK M] {a0 a1 : AV} {H : AHeap} {Q : AEnd → AHeap → Prop} (h : W M ⟨none, zx⟩ (qc2 0) true (FIN3 M [.tmp 4] Q) [(0, a0), (1, a1)] [] H) : CALLE M zx [a0, a1] H Q :=
  calle qg6 (ks := qc3) (by kernel_rfl) (by rw [qcs.2]; exact h)
def vl : AFunc := funcAt Tryd.prog jf
def qee : Kp := ⟨[0, 1, 4], false, [0]⟩
def qek (k : Nat) : Kp × ACode := (qee, part vl.body k)
theorem qed (M : Mac) (c : Ctx) : (∀ Q E D H, W M c (qek 0) true Q E D H =
  LK true (lk E 0) fun g t0 => LK g (lk E 1) fun g t1 => C3 M g (.func xd) [t0, t1] H fun g t7 H1 => GO3 g Q .ret ((4, t7)::(4, (.bool false))::E) D H1) := by intro _ _ _ _; refine W_unf ?_; kernel_rfl
theorem qd6 : (cProg Tryd.prog).func jf = some vl ∧ vl.results = [.tmp 4] := qw (by kernel_rfl)
theorem qig {M : Mac} [MK M] : M.func jf = some vl := MK.at (by decide) qd6.1
theorem qi2 {M : Mac} [MK M] {a0 a1 : AV} {H : AHeap} {Q : AEnd → AHeap → Prop} (h : W M ⟨none, jf⟩ (qek 0) true (FIN3 M [.tmp 4] Q) [(0, a0), (1, a1)] [] H) : CALLE M jf [a0, a1] H Q :=
  calle qig (ks := qee) (by kernel_rfl) (by rw [qd6.2]; exact h)
def vy : AFunc := funcAt Tryd.prog jt
def qet : Kp := ⟨[0, 1, 2, 3, 8, 9, 10, 11], false, [0, 2, 10, 18, 24, 28, 32, 35, 41, 44, 50, 55]⟩
def qi (k : Nat) : Kp × ACode := (qet, part vy.body k)
theorem k8 (M : Mac) (c : Ctx) : (∀ Q E D H, W M c (qi 0) true Q E D H =
  W M c (qi 2) true Q ((8, .nils)::E) D H) ∧
 (∀ Q E D H, W M c (qi 2) true Q E D H =
  LK true (lk E 3) fun g t3 => B3 g ((Op.bin .eql) [t3, (.int .i64 0)]) fun g t13 => IF3 g t13 (fun g => GO3 g (SEQ3 (W M c (qi 10)) Q) .ret ((8, .nils)::E) D H) (fun g => GO3 g (SEQ3 (W M c (qi 10)) Q) .normal E D H)) ∧
 (∀ Q E D H, W M c (qi 10) true Q E D H =
  LK true (lk E 1) fun g t1 => B3 g ((Op.bin .eql) [t1, (.str [])]) fun g t15 => IF3 g t15 (fun g => LK g (lk E 0) fun g t0 => LK g (lk E 3) fun g t3 => C3 M g (.func qk9) [t0, t3] H fun g t18 H1 => GO3 g (SEQ3 (W M c (qi 18)) Q) .ret ((8, t18)::E) D H1) (fun g => GO3 g (SEQ3 (W M c (qi 18)) Q) .normal E D H)) ∧
 (∀ Q E D H, W M c (qi 18) true Q E D H =
  LK true (lk E 3) fun g t3 => B3 g ((Op.bin .lss) [t3, (.int .i64 0)]) fun g t20 => IF3 g t20 (fun g => LK g (lk E 0) fun g t0 => LK g (lk E 1) fun g t1 => C3 M g (.func ko) [t0, t1] H fun g t23 H1 => B3 g ((Op.bin .add) [t23, (.int .i64 1)]) fun g t24 => GO3 g (SEQ3 (W M c (qi 24)) Q) .normal ((3, t24)::E) D H1) (fun g => GO3 g (SEQ3 (W M c (qi 24)) Q) .normal E D H)) ∧
 (∀ Q E D H, W M c (qi 24) true Q E D H =
  LK true (lk E 3) fun g t3 => LK g (lk E 0) fun g t0 => B3 g (Op.lenStr [t0]) fun g t27 => B3 g ((Op.bin .add) [t27, (.int .i64 1)]) fun g t28 => B3 g ((Op.minmax false) [t3, t28]) fun g t29 => B32 g ((Op.mkSlice qm 16 [(.str [])]) [t29, t29]) fun g o1 k1 => W M c (qi 28) g Q ((9, (k1 H.next))::(3, t29)::E) D (H.alloc o1)) ∧
 (∀ Q E D H, W M c (qi 28) true Q E D H =
  LK true (lk E 3) fun g t3 => B3 g ((Op.bin .sub) [t3, (.int .i64 1)]) fun g t33 => W M c (qi 32) g Q ((10, (.int .i64 0))::(3, t33)::E) D H) ∧
 (∀ Q E D H, W M c (qi 32) true Q E D H =
  LOOP3 (W M c (qi 35)) (BLK3 0 (SEQ3 (W M c (qi 55)) Q)) E D H) ∧
 (∀ Q E D H, W M c (qi 55) true Q E D H =
  LK true (lk E 9) fun g t9 => LK g (lk E 10) fun g t10 => LK g (lk E 0) fun g t0 => B3 g ((Op.indexSl 1) [t9, t10]) fun g t61 => B32 g ((Op.store 1) [t61, t0] H) fun g u H1 => LK g (lk E 9) fun g t9_1 => LK g (lk E 10) fun g t10_1 => B3 g ((Op.bin .add) [t10_1, (.int .i64 1)]) fun g t64 => B3 g ((Op.sliceSl 1 [none, (some 0), none]) [t9_1, t64]) fun g t65 => GO3 g Q .ret ((8, t65)::E) D H1) ∧
 (∀ Q E D H, W M c (qi 35) true Q E D H =
  LK true (lk E 10) fun g t10 => LK g (lk E 3) fun g t3 => B3 g ((Op.bin .lss) [t10, t3]) fun g t36 => IF3 g t36 (fun g => GO3 g (SEQ3 (W M c (qi 41)) Q) .normal E D H) (fun g => GO3 g (SEQ3 (W M c (qi 41)) Q) (.exit 0) E D H)) ∧
 (∀ Q E D H, W M c (qi 41) true Q E D H =
  LK true (lk E 0) fun g t0 => LK g (lk E 1) fun g t1 => C3 M g (.func kr) [t0, t1] H fun g t39 H1 => W M c (qi 44) g (BLK3 1 Q) ((11, t39)::E) D H1) ∧
 (∀ Q E D H, W M c (qi 44) true Q E D H =
  LK true (lk E 11) fun g t11 => B3 g ((Op.bin .lss) [t11, (.int .i64 0)]) fun g t41 => IF3 g t41 (fun g => GO3 g (SEQ3 (W M c (qi 50)) Q) (.exit 0) E D H) (fun g => GO3 g (SEQ3 (W M c (qi 50)) Q) .normal E D H)) ∧
 (∀ Q E D H, W M c (qi 50) true Q E D H =
  LK true (lk E 9) fun g t9 => LK g (lk E 10) fun g t10 => LK g (lk E 0) fun g t0 => LK g (lk E 11) fun g t11 => LK g (lk E 2) fun g t2 => B3 g ((Op.bin .add) [t11, t2]) fun g t47 => B3 g ((Op.sliceStr [none, (some 0)]) [t0, t47]) fun g t48 => B3 g ((Op.indexSl 1) [t9, t10]) fun g t49 => B32 g ((Op.store 1) [t49, t48] H) fun g u H1 => LK g (lk E 0) fun g t0_1 => LK g (lk E 11) fun g t11_1 => LK g (lk E 1) fun g t1 => B3 g (Op.lenStr [t1]) fun g t53 => B3 g ((Op.bin .add) [t11_1, t53]) fun g t54 => B3 g ((Op.sliceStr [(some 0), none]) [t0_1, t54]) fun g t55 => LK g (lk E 10) fun g t10_1 => B3 g ((Op.bin .add) [t10_1, (.int .i64 1)]) fun g t57 => GO3 g Q .normal ((10, t57)::(0, t55)::E) D H1) := by (repeat' apply And.intro) <;> (intro _ _ _ _; refine W_unf ?_; kernel_rfl)
theorem qep : (cProg Tryd.prog).func jt = some vy ∧ vy.results = [.tmp 8] := qw (by kernel_rfl)
theorem qi1 {M : Mac} [MK M] : M.func jt = some vy := MK.at (by decide) qep.1
theorem qj2 {M : Mac} [MK M] {a0 a1 a2 a3 : AV} {H : AHeap} {Q : AEnd → AHeap → Prop} (h : W M ⟨none, jt⟩ (qi 0) true (FIN3 M [.tmp 8] Q) [(0, a0), (1, a1), (2, a2), (3, a3)] [] H) : CALLE M jt [a0, a1, a2, a3] H Q :=
  calle qi1 (ks := qet) (by kernel_rfl) (by rw [qep.2]; exact h)
def vg : AFunc := funcAt Tryd.prog je
def qd3 : Kp := ⟨[0, 1, 2, 6, 7, 8, 9], false, [0, 4, 12]⟩
def jg (k : Nat) : Kp × ACode := (qd3, part vg.body k)
theorem vj (M : Mac) (c : Ctx) : (∀ Q E D H, W M c (jg 0) true Q E D H =
  LK true (lk E 0) fun g t0 => LK g (lk E 1) fun g t1 => LK g (lk E 2) fun g t2 => C3 M g (.func qx) [t0, t1, t2] H fun g t14 H1 => B3 g ((Op.extract 0) [t14]) fun g t15 => B3 g ((Op.extract 1) [t14]) fun g t16 => W M c (jg 4) g Q ((9, t16)::(8, t15)::(7, .nili)::(6, (.int .u64 0))::E) D H1) ∧
 (∀ Q E D H, W M c (jg 4) true Q E D H =
  LK true (lk E 9) fun g t9 => B3 g ((Op.eq .iface true) [t9, .nili] H) fun g t18 => IF3 g t18 (fun g => LK g (lk E 8) fun g t8 => LK g (lk E 0) fun g t0 => LK g (lk E 1) fun g t1 => LK g (lk E 2) fun g t2 => LK g (lk E 9) fun g t9_1 => C3 M g (.func jx) [(.str [80, 97, 114, 115, 101, 85, 105, 110, 116]), t0, t1, t2, t9_1] H fun g t24 H1 => GO3 g (SEQ3 (W M c (jg 12)) Q) .ret ((7, t24)::(6, t8)::E) D H1) (fun g => GO3 g (SEQ3 (W M c (jg 12)) Q) .normal E D H)) ∧
 (∀ Q E D H, W M c (jg 12) true Q E D H =
  LK true (lk E 8) fun g t8 => GO3 g Q .ret ((7, .nili)::(6, t8)::E) D H) := by (repeat' apply And.intro) <;> (intro _ _ _ _; refine W_unf ?_; kernel_rfl)
theorem qec : (cProg Tryd.prog).func je = some vg ∧ vg.results = [.tmp 6, .tmp 7] := qw (by kernel_rfl)
theorem qih {M : Mac} [MK M] : M.func je = some vg := MK.at (by decide) qec.1
theorem qjj {M : Mac} [MK M] {a0 a1 a2 : AV} {H : AHeap} {Q : AEnd → AHeap → Prop} (h : W M ⟨none, je⟩ (jg 0) true (FIN3 M [.tmp 6, .tmp 7] Q) [(0, a0), (1, a1), (2, a2)] [] H) : CALLE M je [a0, a1, a2] H Q :=
  calle qih (ks := qd3) (by kernel_rfl) (by rw [qec.2]; exact h)
def qan : AFunc := funcAt Tryd.prog x7
def qfx : Kp := ⟨[0, 1, 3, 4], false, [0, 2, 8, 11, 19]⟩
def xy (k : Nat) : Kp × ACode := (qfx, part qan.body k)
theorem qfp (M : Mac) (c : Ctx) : (∀ Q E D H, W M c (xy 0) true Q E D H =
  LOOP3 (W M c (xy 2)) (BLK3 0 Q) E D H) ∧
 (∀ Q E D H, W M c (xy 2) true Q E D H =
  LK true (lk E 1) fun g t1 => B3 g (Op.load1 [t1] H) fun g t5 => B3 g (Op.lenStr [t5]) fun g t6 => B3 g ((Op.bin .gtr) [t6, (.int .i64 0)]) fun g t7 => IF3 g t7 (fun g => GO3 g (SEQ3 (W M c (xy 8)) Q) .normal E D H) (fun g => GO3 g (SEQ3 (W M c (xy 8)) Q) (.exit 0) E D H)) ∧
 (∀ Q E D H, W M c (xy 8) true Q E D H =
  W M c (xy 11) true (BLK3 1 Q) ((3, (.str []))::E) D H) ∧
 (∀ Q E D H, W M c (xy 11) true Q E D H =
  LK true (lk E 1) fun g t1 => B3 g (Op.load1 [t1] H) fun g t8 => C3 M g (.func zl) [t8, (.int .u8 10)] H fun g t9 H1 => B3 g ((Op.bin .geq) [t9, (.int .i64 0)]) fun g t11 => IF3 g t11 (fun g => LK g (lk E 1) fun g t1_1 => B3 g (Op.load1 [t1_1] H1) fun g t12 => B3 g ((Op.bin .add) [t9, (.int .i64 1)]) fun g t14 => B3 g ((Op.sliceStr [none, (some 0)]) [t12, t14]) fun g t15 => B3 g (Op.load1 [t1_1] H1) fun g t16 => B3 g ((Op.bin .add) [t9, (.int .i64 1)]) fun g t18 => B3 g ((Op.sliceStr [(some 0), none]) [t16, t18]) fun g t19 => B32 g ((Op.store 1) [t1_1, t19] H1) fun g u H2 => GO3 g (SEQ3 (W M c (xy 19)) Q) .normal ((3, t15)::(4, t9)::E) D H2) (fun g => LK g (lk E 1) fun g t1_1 => B3 g (Op.load1 [t1_1] H1) fun g t20 => B32 g ((Op.store 1) [t1_1, (.str [])] H1) fun g u H2 => GO3 g (SEQ3 (W M c (xy 19)) Q) .normal ((3, t20)::(4, t9)::E) D H2)) ∧
 (∀ Q E D H, W M c (xy 19) true Q E D H =
  LK true (lk E 0) fun g t0 => LK g (lk E 3) fun g t3 => V3 g [t0, t3] fun g f vs => C3 M g f vs H fun g t23 H1 => B3 g ((Op.un .not) [t23]) fun g t24 => IF3 g t24 (fun g => GO3 g Q .ret E D H1) (fun g => GO3 g Q .normal E D H1)) := by (repeat' apply And.intro) <;> (intro _ _ _ _; refine W_unf ?_; kernel_rfl)
theorem qfl : (cProg Tryd.prog).func x7 = some qan ∧ qan.results = [] := qw (by kernel_rfl)
theorem qk1 {M : Mac} [MK M] : M.func x7 = some qan := MK.at (by decide) qfl.1
theorem qll {M : Mac} [MK M] {a0 a1 : AV} {H : AHeap} {Q : AEnd → AHeap → Prop} (h : W M ⟨none, x7⟩ (xy 0) true (FIN3 M [] Q) [(0, a0), (1, a1)] [] H) : CALLE M x7 [a0, a1] H Q :=
  calle qk1 (ks := qfx) (by kernel_rfl) (by rw [qfl.2]; exact h)
def zh : AFunc := funcAt Tryd.prog xh
def yc : Kp := ⟨[0, 1, 4], false, [0, 2, 10]⟩
def xi (k : Nat) : Kp × ACode := (yc, part zh.body k)
theorem ju (M : Mac) (c : Ctx) : (∀ Q E D H, W M c (xi 0) true Q E D H =
  W M c (xi 2) true Q ((4, (.str []))::E) D H) ∧
 (∀ Q E D H, W M c (xi 2) true Q E D H =
  LK true (lk E 0) fun g t0 => LK g (lk E 1) fun g t1 => C3 M g (.func xd) [t0, t1] H fun g t7 H1 => IF3 g t7 (fun g => LK g (lk E 0) fun g t0_1 => B3 g (Op.lenStr [t0_1]) fun g t10 => LK g (lk E 1) fun g t1_1 => B3 g (Op.lenStr [t1_1]) fun g t12 => B3 g ((Op.bin .sub) [t10, t12]) fun g t13 => B3 g ((Op.sliceStr [none, (some 0)]) [t0_1, t13]) fun g t14 => GO3 g (SEQ3 (W M c (xi 10)) Q) .ret ((4, t14)::E) D H1) (fun g => GO3 g (SEQ3 (W M c (xi 10)) Q) .normal E D H1)) ∧
 (∀ Q E D H, W M c (xi 10) true Q E D H =
  LK true (lk E 0) fun g t0 => GO3 g Q .ret ((4, t0)::E) D H) := by (repeat' apply And.intro) <;> (intro _ _ _ _; refine W_unf ?_; kernel_rfl)
theorem yi : (cProg Tryd.prog).func xh = some zh ∧ zh.results = [.tmp 4] := qw (by kernel_rfl)
theorem qa7 {M : Mac} [MK M] : M.func xh = some zh := MK.at (by decide) yi.1
theorem qbc {M : Mac} [MK M] {a0 a1 : AV} {H : AHeap} {Q : AEnd → AHeap → Prop} (h : W M ⟨none, xh⟩ (xi 0) true (FIN3 M [.tmp 4] Q) [(0, a0), (1, a1)] [] H) : CALLE M xh [a0, a1] H Q :=
  calle qa7 (ks := yc) (by kernel_rfl) (by rw [yi.2]; exact h)
def zk : AFunc := funcAt Tryd.prog xd
def yq : Kp := ⟨[0, 1, 4], false, [0]⟩
def yr (k : Nat) : Kp × ACode := (yq, part zk.body k)
theorem yn (M : Mac) (c : Ctx) : (∀ Q E D H, W M c (yr 0) true Q E D H =
  LK true (lk E 0) fun g t0 => B3 g (Op.lenStr [t0]) fun g t6 => LK g (lk E 1) fun g t1 => B3 g (Op.lenStr [t1]) fun g t8 => B3 g ((Op.bin .geq) [t6, t8]) fun g t9 => JN (fun (k : Bool → AV → AV → AV → AV → AV → AV → AV → AV → AV → AHeap → Prop) => B3 g (wantV true (some t9)) fun g w => IG3 g w (fun g => B3 g (Op.lenStr [t0]) fun g t13 => B3 g (Op.lenStr [t1]) fun g t15 => B3 g ((Op.bin .sub) [t13, t15]) fun g t16 => B3 g ((Op.sliceStr [(some 0), none]) [t0, t16]) fun g t17 => B3 g ((Op.bin .eql) [t17, t1]) fun g t19 => k g t19 t1 t17 t16 t15 t1 t13 t0 t0 H) (fun g => k g uu uu uu uu uu uu uu uu uu H)) (fun g t19_1 t18_1 t17_1 t16_1 t15_1 t14_1 t13_1 t12_1 t11_1 H1 => B3 g (Op.pick [t9, t19_1, (.bool false)]) fun g t20 => GO3 g Q .ret ((4, t20)::(4, (.bool false))::E) D H1)) := by intro _ _ _ _; refine W_unf ?_; kernel_rfl
theorem yu : (cProg Tryd.prog).func xd = some zk ∧ zk.results = [.tmp 4] := qw (by kernel_rfl)
theorem qa9 {M : Mac} [MK M] : M.func xd = some zk := MK.at (by decide) yu.1
theorem qbo {M : Mac} [MK M] {a0 a1 : AV} {H : AHeap} {Q : AEnd → AHeap → Prop} (h : W M ⟨none, xd⟩ (yr 0) true (FIN3 M [.tmp 4] Q) [(0, a0), (1, a1)] [] H) : CALLE M xd [a0, a1] H Q :=
  calle qa9 (ks := yq) (by kernel_rfl) (by rw [yu.2]; exact h)
def qbi : AFunc := funcAt Tryd.prog ko
def qhw : Kp := ⟨[0, 1, 4, 5, 6], false, [0, 2, 10, 18, 22, 25, 33]⟩
def zr (k : Nat) : Kp × ACode := (qhw, part qbi.body k)
theorem qpi (M : Mac) (c : Ctx) : (∀ Q E D H, W M c (zr 0) true Q E D H =
  W M c (zr 2) true Q ((4, (.int .i64 0))::E) D H) ∧
 (∀ Q E D H, W M c (zr 2) true Q E D H =
  LK true (lk E 1) fun g t1 => B3 g (Op.lenStr [t1]) fun g t8 => B3 g ((Op.bin .eql) [t8, (.int .i64 0)]) fun g t9 => IF3 g t9 (fun g => LK g (lk E 0) fun g t0 => C3 M g (.func qbn) [t0] H fun g t11 H1 => B3 g ((Op.bin .add) [t11, (.int .i64 1)]) fun g t12 => GO3 g (SEQ3 (W M c (zr 10)) Q) .ret ((4, t12)::E) D H1) (fun g => GO3 g (SEQ3 (W M c (zr 10)) Q) .normal E D H)) ∧
 (∀ Q E D H, W M c (zr 10) true Q E D H =
  LK true (lk E 1) fun g t1 => B3 g (Op.lenStr [t1]) fun g t14 => B3 g ((Op.bin .eql) [t14, (.int .i64 1)]) fun g t15 => IF3 g t15 (fun g => LK g (lk E 0) fun g t0 => LK g (lk E 1) fun g t1_1 => B3 g (Op.indexStr [t1_1, (.int .i64 0)]) fun g t18 => B3 g (Op.countString [t0, t18]) fun g t19 => GO3 g (SEQ3 (W M c (zr 18)) Q) .ret ((4, t19)::E) D H) (fun g => GO3 g (SEQ3 (W M c (zr 18)) Q) .normal E D H)) ∧
 (∀ Q E D H, W M c (zr 18) true Q E D H =
  LOOP3 (W M c (zr 22)) (BLK3 0 Q) ((5, (.int .i64 0))::E) D H) := by (repeat' apply And.intro) <;> (intro _ _ _ _; refine W_unf ?_; kernel_rfl)
theorem qho : (cProg Tryd.prog).func ko = some qbi ∧ qbi.results = [.tmp 4] := qw (by kernel_rfl)
theorem qmh {M : Mac} [MK M] : M.func ko = some qbi := MK.at (by decide) qho.1
theorem qnh {M : Mac} [MK M] {a0 a1 : AV} {H : AHeap} {Q : AEnd → AHeap → Prop} (h : W M ⟨none, ko⟩ (zr 0) true (FIN3 M [.tmp 4] Q) [(0, a0), (1, a1)] [] H) : CALLE M ko [a0, a1] H Q :=
  calle qmh (ks := qhw) (by kernel_rfl) (by rw [qho.2]; exact h)
def qba : AFunc := funcAt Tryd.prog kr
def qhz : Kp := ⟨[0, 1, 4], false, [0]⟩
def qg7 (k : Nat) : Kp × ACode := (qhz, part qba.body k)
theorem qhb (M : Mac) (c : Ctx) : (∀ Q E D H, W M c (qg7 0) true Q E D H =
  LK true (lk E 0) fun g t0 => LK g (lk E 1) fun g t1 => C3 M g (.func xk) [t0, t1] H fun g t7 H1 => GO3 g Q .ret ((4, t7)::(4, (.int .i64 0))::E) D H1) := by intro _ _ _ _; refine W_unf ?_; kernel_rfl
theorem qg4 : (cProg Tryd.prog).func kr = some qba ∧ qba.results = [.tmp 4] := qw (by kernel_rfl)
theorem qmk {M : Mac} [MK M] : M.func kr = some qba := MK.at (by decide) qg4.1
theorem qnj {M : Mac} [MK M] {a0 a1 : AV} {H : AHeap} {Q : AEnd → AHeap → Prop} (h : W M ⟨none, kr⟩ (qg7 0) true (FIN3 M [.tmp 4] Q) [(0, a0), (1, a1)] [] H) : CALLE M kr [a0, a1] H Q :=
  calle qmk (ks := qhz) (by kernel_rfl) (by rw [qg4.2]; exact h)
def jm : AFunc := funcAt Tryd.prog qx
def vz : Kp := ⟨[0, 1, 2, 6, 7, 8, 9, 10, 11, 12, 13, 15, 16, 17, 85, 99, 100, 101], false, [0, 2, 10, 14, 23, 35, 54, 66, 68, 81, 85, 87, 92, 98, 104, 116, 123, 131, 139, 143, 151, 152, 153, 161]⟩
def qa (k : Nat) : Kp × ACode := (vz, part jm.body k)
theorem qdk (M : Mac) (c : Ctx) : (∀ Q E D H, W M c (qa 0) true Q E D H =
  W M c (qa 2) true Q ((7, .nili)::(6, (.int .u64 0))::E) D H) ∧
 (∀ Q E D H, W M c (qa 2) true Q E D H =
  LK true (lk E 0) fun g t0 => B3 g ((Op.bin .eql) [t0, (.str [])]) fun g t19 => IF3 g t19 (fun g => B3 g ((Op.mkIface qj) [(.int .i64 2)]) fun g t20 => GO3 g (SEQ3 (W M c (qa 10)) Q) .ret ((7, t20)::(6, (.int .u64 0))::E) D H) (fun g => GO3 g (SEQ3 (W M c (qa 10)) Q) .normal E D H)) ∧
 (∀ Q E D H, W M c (qa 10) true Q E D H =
  LK true (lk E 1) fun g t1 => B3 g ((Op.bin .eql) [t1, (.int .i64 0)]) fun g t22 => LK g (lk E 0) fun g t0 => W M c (qa 14) g Q ((9, t0)::(8, t22)::E) D H) ∧
 (∀ Q E D H, W M c (qa 14) true Q E D H =
  LK true (lk E 1) fun g t1 => B3 g ((Op.bin .leq) [(.int .i64 2), t1]) fun g t27 => JN (fun (k : Bool → AV → AV → AHeap → Prop) => B3 g (wantV true (some t27)) fun g w => IG3 g w (fun g => B3 g ((Op.bin .leq) [t1, (.int .i64 36)]) fun g t30 => k g t30 t1 H) (fun g => k g uu uu H)) (fun g t30_1 t29_1 H1 => B3 g (Op.pick [t27, t30_1, (.bool false)]) fun g t31 => IF3 g t31 (fun g => GO3 g (BLK3 0 (SEQ3 (W M c (qa 54)) Q)) .normal E D H1) (fun g => LK g (lk E 1) fun g t1_1 => B3 g ((Op.bin .eql) [t1_1, (.int .i64 0)]) fun g t34 => IF3 g t34 (fun g => W M c (qa 23) g (BLK3 0 (SEQ3 (W M c (qa 54)) Q)) E D H1) (fun g => B3 g ((Op.mkIface qj) [(.int .i64 3)]) fun g t24 => GO3 g (BLK3 0 (SEQ3 (W M c (qa 54)) Q)) .ret ((7, t24)::(6, (.int .u64 0))::E) D H1)))) ∧
 (∀ Q E D H, W M c (qa 54) true Q E D H =
  LK true (lk E 2) fun g t2 => B3 g ((Op.bin .eql) [t2, (.int .i64 0)]) fun g t77 => IF3 g t77 (fun g => GO3 g (SEQ3 (W M c (qa 66)) Q) .normal ((2, (.int .i64 64))::E) D H) (fun g => LK g (lk E 2) fun g t2_1 => B3 g ((Op.bin .lss) [t2_1, (.int .i64 0)]) fun g t79 => JN (fun (k : Bool → AV → AV → AHeap → Prop) => B3 g (wantV false (some t79)) fun g w => IG3 g w (fun g => B3 g ((Op.bin .gtr) [t2_1, (.int .i64 64)]) fun g t82 => k g t82 t2_1 H) (fun g => k g uu uu H)) (fun g t82_1 t81_1 H1 => B3 g (Op.pick [t79, (.bool true), t82_1]) fun g t83 => IF3 g t83 (fun g => B3 g ((Op.mkIface qj) [(.int .i64 4)]) fun g t84 => GO3 g (SEQ3 (W M c (qa 66)) Q) .ret ((7, t84)::(6, (.int .u64 0))::E) D H1) (fun g => GO3 g (SEQ3 (W M c (qa 66)) Q) .normal E D H1)))) ∧
 (∀ Q E D H, W M c (qa 23) true Q E D H =
  LK true (lk E 0) fun g t0 => B3 g (Op.indexStr [t0, (.int .i64 0)]) fun g t36 => B3 g ((Op.bin .eql) [t36, (.int .u8 48)]) fun g t37 => IF3 g t37 (fun g => LK g (lk E 0) fun g t0_1 => B3 g (Op.lenStr [t0_1]) fun g t42 => B3 g ((Op.bin .geq) [t42, (.int .i64 3)]) fun g t43 => JN (fun (k : Bool → AV → AV → AV → AV → AHeap → Prop) => B3 g (wantV true (some t43)) fun g w => IG3 g w (fun g => B3 g (Op.indexStr [t0_1, (.int .i64 1)]) fun g t46 => C3 M g (.func qz) [t46] H fun g t47 H1 => B3 g ((Op.bin .eql) [t47, (.int .u8 98)]) fun g t48 => k g t48 t47 t46 t0_1 H1) (fun g => k g uu uu uu uu H)) (fun g t48_1 t47_1 t46_1 t45_1 H2 => B3 g (Op.pick [t43, t48_1, (.bool false)]) fun g t49 => IF3 g t49 (fun g => LK g (lk E 0) fun g t0_2 => B3 g ((Op.sliceStr [(some 0), none]) [t0_2, (.int .i64 2)]) fun g t51 => GO3 g (BLK3 1 Q) .normal ((0, t51)::(1, (.int .i64 2))::(1, (.int .i64 10))::E) D H2) (fun g => W M c (qa 35) g (BLK3 1 Q) ((1, (.int .i64 10))::E) D H2))) (fun g => GO3 g Q .normal ((1, (.int .i64 10))::E) D H)) ∧
 (∀ Q E D H, W M c (qa 66) true Q E D H =
  W M c (qa 68) true Q ((10, (.int .u64 0))::E) D H) ∧
 (∀ Q E D H, W M c (qa 35) true Q E D H =
  LK true (lk E 0) fun g t0 => B3 g (Op.lenStr [t0]) fun g t54 => B3 g ((Op.bin .geq) [t54, (.int .i64 3)]) fun g t55 => JN (fun (k : Bool → AV → AV → AV → AV → AHeap → Prop) => B3 g (wantV true (some t55)) fun g w => IG3 g w (fun g => B3 g (Op.indexStr [t0, (.int .i64 1)]) fun g t58 => C3 M g (.func qz) [t58] H fun g t59 H1 => B3 g ((Op.bin .eql) [t59, (.int .u8 111)]) fun g t60 => k g t60 t59 t58 t0 H1) (fun g => k g uu uu uu uu H)) (fun g t60_1 t59_1 t58_1 t57_1 H2 => B3 g (Op.pick [t55, t60_1, (.bool false)]) fun g t61 => IF3 g t61 (fun g => LK g (lk E 0) fun g t0_1 => B3 g ((Op.sliceStr [(some 0), none]) [t0_1, (.int .i64 2)]) fun g t63 => GO3 g Q .normal ((0, t63)::(1, (.int .i64 8))::E) D H2) (fun g => LK g (lk E 0) fun g t0_1 => B3 g (Op.lenStr [t0_1]) fun g t66 => B3 g ((Op.bin .geq) [t66, (.int .i64 3)]) fun g t67 => JN (fun (k : Bool → AV → AV → AV → AV → AHeap → Prop) => B3 g (wantV true (some t67)) fun g w => IG3 g w (fun g => B3 g (Op.indexStr [t0_1, (.int .i64 1)]) fun g t70 => C3 M g (.func qz) [t70] H2 fun g t71 H3 => B3 g ((Op.bin .eql) [t71, (.int .u8 120)]) fun g t72 => k g t72 t71 t70 t0_1 H3) (fun g => k g uu uu uu uu H2)) (fun g t72_1 t71_1 t70_1 t69_1 H4 => B3 g (Op.pick [t67, t72_1, (.bool false)]) fun g t73 => IF3 g t73 (fun g => LK g (lk E 0) fun g t0_2 => B3 g ((Op.sliceStr [(some 0), none]) [t0_2, (.int .i64 2)]) fun g t75 => GO3 g Q .normal ((0, t75)::(1, (.int .i64 16))::E) D H4) (fun g => LK g (lk E 0) fun g t0_2 => B3 g ((Op.sliceStr [(some 0), none]) [t0_2, (.int .i64 1)]) fun g t39 => GO3 g Q .normal ((0, t39)::(1, (.int .i64 8))::E) D H4))))) ∧
 (∀ Q E D H, W M c (qa 68) true Q E D H =
  LK true (lk E 1) fun g t1 => B3 g ((Op.bin .eql) [t1, (.int .i64 10)]) fun g t91 => IF3 g t91 (fun g => GO3 g (BLK3 2 (SEQ3 (W M c (qa 81)) Q)) .normal ((10, (.int .u64 1844674407370955162))::(85, t1)::E) D H) (fun g => B3 g ((Op.bin .eql) [t1, (.int .i64 16)]) fun g t93 => IF3 g t93 (fun g => GO3 g (BLK3 2 (SEQ3 (W M c (qa 81)) Q)) .normal ((10, (.int .u64 1152921504606846976))::(85, t1)::E) D H) (fun g => LK g (lk E 1) fun g t1_1 => B3 g ((Op.wrap .u64) [t1_1]) fun g t87 => B3 g ((Op.bin .quo) [(.int .u64 18446744073709551615), t87]) fun g t88 => B3 g ((Op.bin .add) [t88, (.int .u64 1)]) fun g t89 => GO3 g (BLK3 2 (SEQ3 (W M c (qa 81)) Q)) .normal ((10, t89)::(85, t1)::E) D H))) ∧
 (∀ Q E D H, W M c (qa 81) true Q E D H =
  LK true (lk E 2) fun g t2 => B3 g ((Op.wrap .u64) [t2]) fun g t95 => B3 g ((Op.bin .shl) [(.int .u64 1), t95]) fun g t96 => B3 g ((Op.bin .sub) [t96, (.int .u64 1)]) fun g t97 => W M c (qa 85) g Q ((12, (.bool false))::(11, t97)::E) D H) ∧
 (∀ Q E D H, W M c (qa 85) true Q E D H =
  W M c (qa 87) true Q ((13, (.int .u64 0))::E) D H) ∧
 (∀ Q E D H, W M c (qa 87) true Q E D H =
  LK true (lk E 0) fun g t0 => B32 g ((Op.bytesOfStr j6) [t0]) fun g o1 k1 => B3 g (Op.lenSl [(k1 H.next)]) fun g t100 => LOOP3 (W M c (qa 92)) (BLK3 3 (SEQ3 (W M c (qa 153)) Q)) ((101, (.int .i64 0))::(100, t100)::(99, (k1 H.next))::E) D (H.alloc o1)) ∧
 (∀ Q E D H, W M c (qa 153) true Q E D H =
  LK true (lk E 12) fun g t12 => JN (fun (k : Bool → AV → AV → AV → AHeap → Prop) => B3 g (wantV true (some t12)) fun g w => IG3 g w (fun g => LK g (lk E 9) fun g t9 => C3 M g (.func qbx) [t9] H fun g t167 H1 => B3 g ((Op.un .not) [t167]) fun g t168 => k g t168 t167 t9 H1) (fun g => k g uu uu uu H)) (fun g t168_1 t167_1 t166_1 H2 => B3 g (Op.pick [t12, t168_1, (.bool false)]) fun g t169 => IF3 g t169 (fun g => B3 g ((Op.mkIface qj) [(.int .i64 2)]) fun g t170 => GO3 g (SEQ3 (W M c (qa 161)) Q) .ret ((7, t170)::(6, (.int .u64 0))::E) D H2) (fun g => GO3 g (SEQ3 (W M c (qa 161)) Q) .normal E D H2))) ∧
 (∀ Q E D H, W M c (qa 92) true Q E D H =
  LK true (lk E 101) fun g t101 => LK g (lk E 100) fun g t100 => B3 g ((Op.bin .lss) [t101, t100]) fun g t102 => IF3 g t102 (fun g => GO3 g (SEQ3 (W M c (qa 98)) Q) .normal E D H) (fun g => GO3 g (SEQ3 (W M c (qa 98)) Q) (.exit 3) E D H)) ∧
 (∀ Q E D H, W M c (qa 161) true Q E D H =
  LK true (lk E 13) fun g t13 => GO3 g Q .ret ((7, .nili)::(6, t13)::E) D H) ∧
 (∀ Q E D H, W M c (qa 98) true Q E D H =
  LK true (lk E 99) fun g t99 => LK g (lk E 101) fun g t101 => B3 g ((Op.indexSl 1) [t99, t101]) fun g t103 => B3 g (Op.load1 [t103] H) fun g t104 => W M c (qa 104) g (BLK3 4 (SEQ3 (W M c (qa 152)) Q)) ((16, (.int .u8 0))::(15, t104)::E) D H) ∧
 (∀ Q E D H, W M c (qa 152) true Q E D H =
  LK true (lk E 101) fun g t101 => B3 g ((Op.bin .add) [t101, (.int .i64 1)]) fun g t163 => GO3 g Q .normal ((101, t163)::E) D H) ∧
 (∀ Q E D H, W M c (qa 104) true Q E D H =
  LK true (lk E 15) fun g t15 => B3 g ((Op.bin .eql) [t15, (.int .u8 95)]) fun g t108 => JN (fun (k : Bool → AV → AHeap → Prop) => B3 g (wantV true (some t108)) fun g w => IG3 g w (fun g => LK g (lk E 8) fun g t8 => k g t8 H) (fun g => k g uu H)) (fun g t110_1 H1 => B3 g (Op.pick [t108, t110_1, (.bool false)]) fun g t111 => IF3 g t111 (fun g => GO3 g (BLK3 5 (SEQ3 (W M c (qa 123)) Q)) (.exit 4) ((12, (.bool true))::E) D H1) (fun g => LK g (lk E 15) fun g t15_1 => B3 g ((Op.bin .leq) [(.int .u8 48), t15_1]) fun g t114 => JN (fun (k : Bool → AV → AV → AHeap → Prop) => B3 g (wantV true (some t114)) fun g w => IG3 g w (fun g => B3 g ((Op.bin .leq) [t15_1, (.int .u8 57)]) fun g t117 => k g t117 t15_1 H1) (fun g => k g uu uu H1)) (fun g t117_1 t116_1 H2 => B3 g (Op.pick [t114, t117_1, (.bool false)]) fun g t118 => IF3 g t118 (fun g => LK g (lk E 15) fun g t15_2 => B3 g ((Op.bin .sub) [t15_2, (.int .u8 48)]) fun g t120 => GO3 g (BLK3 5 (SEQ3 (W M c (qa 123)) Q)) .normal ((16, t120)::E) D H2) (fun g => W M c (qa 116) g (BLK3 5 (SEQ3 (W M c (qa 123)) Q)) E D H2))))) ∧
 (∀ Q E D H, W M c (qa 123) true Q E D H =
  LK true (lk E 16) fun g t16 => LK g (lk E 1) fun g t1 => B3 g ((Op.wrap .u8) [t1]) fun g t136 => B3 g ((Op.bin .geq) [t16, t136]) fun g t137 => IF3 g t137 (fun g => B3 g ((Op.mkIface qj) [(.int .i64 2)]) fun g t138 => GO3 g (SEQ3 (W M c (qa 131)) Q) .ret ((7, t138)::(6, (.int .u64 0))::E) D H) (fun g => GO3 g (SEQ3 (W M c (qa 131)) Q) .normal E D H)) ∧
 (∀ Q E D H, W M c (qa 116) true Q E D H =
  LK true (lk E 15) fun g t15 => C3 M g (.func qz) [t15] H fun g t123 H1 => B3 g ((Op.bin .leq) [(.int .u8 97), t123]) fun g t124 => JN (fun (k : Bool → AV → AV → AV → AHeap → Prop) => B3 g (wantV true (some t124)) fun g w => IG3 g w (fun g => C3 M g (.func qz) [t15] H1 fun g t127 H2 => B3 g ((Op.bin .leq) [t127, (.int .u8 122)]) fun g t128 => k g t128 t127 t15 H2) (fun g => k g uu uu uu H1)) (fun g t128_1 t127_1 t126_1 H3 => B3 g (Op.pick [t124, t128_1, (.bool false)]) fun g t129 => IF3 g t129 (fun g => LK g (lk E 15) fun g t15_1 => C3 M g (.func qz) [t15_1] H3 fun g t131 H4 => B3 g ((Op.bin .sub) [t131, (.int .u8 97)]) fun g t132 => B3 g ((Op.bin .add) [t132, (.int .u8 10)]) fun g t133 => GO3 g Q .normal ((16, t133)::E) D H4) (fun g => B3 g ((Op.mkIface qj) [(.int .i64 2)]) fun g t105 => GO3 g Q .ret ((7, t105)::(6, (.int .u64 0))::E) D H3))) ∧
 (∀ Q E D H, W M c (qa 131) true Q E D H =
  LK true (lk E 13) fun g t13 => LK g (lk E 10) fun g t10 => B3 g ((Op.bin .geq) [t13, t10]) fun g t141 => IF3 g t141 (fun g => LK g (lk E 11) fun g t11 => B3 g ((Op.mkIface qj) [(.int .i64 1)]) fun g t143 => GO3 g (SEQ3 (W M c (qa 139)) Q) .ret ((7, t143)::(6, t11)::E) D H) (fun g => GO3 g (SEQ3 (W M c (qa 139)) Q) .normal E D H)) ∧
 (∀ Q E D H, W M c (qa 139) true Q E D H =
  LK true (lk E 13) fun g t13 => LK g (lk E 1) fun g t1 => B3 g ((Op.wrap .u64) [t1]) fun g t146 => B3 g ((Op.bin .mul) [t13, t146]) fun g t147 => LK g (lk E 16) fun g t16 => B3 g ((Op.wrap .u64) [t16]) fun g t150 => B3 g ((Op.bin .add) [t147, t150]) fun g t151 => W M c (qa 143) g Q ((17, t151)::(13, t147)::E) D H) ∧
 (∀ Q E D H, W M c (qa 143) true Q E D H =
  LK true (lk E 17) fun g t17 => LK g (lk E 13) fun g t13 => B3 g ((Op.bin .lss) [t17, t13]) fun g t154 => JN (fun (k : Bool → AV → AV → AV → AHeap → Prop) => B3 g (wantV false (some t154)) fun g w => IG3 g w (fun g => LK g (lk E 11) fun g t11 => B3 g ((Op.bin .gtr) [t17, t11]) fun g t158 => k g t158 t11 t17 H) (fun g => k g uu uu uu H)) (fun g t158_1 t157_1 t156_1 H1 => B3 g (Op.pick [t154, (.bool true), t158_1]) fun g t159 => IF3 g t159 (fun g => LK g (lk E 11) fun g t11_1 => B3 g ((Op.mkIface qj) [(.int .i64 1)]) fun g t161 => GO3 g (SEQ3 (W M c (qa 151)) Q) .ret ((7, t161)::(6, t11_1)::E) D H1) (fun g => GO3 g (SEQ3 (W M c (qa 151)) Q) .normal E D H1))) ∧
 (∀ Q E D H, W M c (qa 151) true Q E D H =
  LK true (lk E 17) fun g t17 => GO3 g Q .normal ((13, t17)::E) D H) := by (repeat' apply And.intro) <;> (intro _ _ _ _; refine W_unf ?_; kernel_rfl)
theorem wv : (cProg Tryd.prog).func qx = some jm ∧ jm.results = [.tmp 6, .tmp 7] := qw (by kernel_rfl)
theorem qcn {M : Mac} [MK M] : M.func qx = some jm := MK.at (by decide) wv.1
theorem qc8 {M : Mac} [MK M] {a0 a1 a2 : AV} {H : AHeap} {Q : AEnd → AHeap → Prop} (h : W M ⟨none, qx⟩ (qa 0) true (FIN3 M [.tmp 6, .tmp 7] Q) [(0, a0), (1, a1), (2, a2)] [] H) : CALLE M qx [a0, a1, a2] H Q :=
  calle qcn (ks := vz) (by kernel_rfl) (by rw [wv.2]; exact h)
def qao : AFunc := funcAt Tryd.prog jx
def qfo : Kp := ⟨[0, 1, 2, 3, 4, 10, 11], false, [0, 2, 18, 31]⟩
def ze (k : Nat) : Kp × ACode := (qfo, part qao.body k)
theorem qfb (M : Mac) (c : Ctx) : (∀ Q E D H, W M c (ze 0) true Q E D H =
  W M c (ze 2) true Q ((10, .nili)::E) D H) ∧
 (∀ Q E D H, W M c (ze 2) true Q E D H =
  LK true (lk E 4) fun g t4 => B3 g ((Op.mkIface qj) [(.int .i64 2)]) fun g t13 => B3 g ((Op.eq (.ifaces (ifT Tryd.prog)) false) [t4, t13] H) fun g t14 => IF3 g t14 (fun g => LK g (lk E 0) fun g t0 => LK g (lk E 1) fun g t1 => C3 M g (.func zp) [t0, t1] H fun g t17 H1 => B3 g ((Op.mkIface j9) [t17]) fun g t18 => GO3 g (BLK3 0 (SEQ3 (W M c (ze 31)) Q)) .ret ((10, t18)::(11, t4)::E) D H1) (fun g => B3 g ((Op.mkIface qj) [(.int .i64 1)]) fun g t20 => B3 g ((Op.eq (.ifaces (ifT Tryd.prog)) false) [t4, t20] H) fun g t21 => IF3 g t21 (fun g => LK g (lk E 0) fun g t0 => LK g (lk E 1) fun g t1 => C3 M g (.func zy) [t0, t1] H fun g t24 H1 => B3 g ((Op.mkIface j9) [t24]) fun g t25 => GO3 g (BLK3 0 (SEQ3 (W M c (ze 31)) Q)) .ret ((10, t25)::(11, t4)::E) D H1) (fun g => W M c (ze 18) g (BLK3 0 (SEQ3 (W M c (ze 31)) Q)) ((11, t4)::E) D H))) ∧
 (∀ Q E D H, W M c (ze 31) true Q E D H =
  LK true (lk E 4) fun g t4 => GO3 g Q .ret ((10, t4)::E) D H) ∧
 (∀ Q E D H, W M c (ze 18) true Q E D H =
  B3 true ((Op.mkIface qj) [(.int .i64 3)]) fun g t27 => LK g (lk E 11) fun g t11 => B3 g ((Op.eq (.ifaces (ifT Tryd.prog)) false) [t11, t27] H) fun g t28 => IF3 g t28 (fun g => LK g (lk E 0) fun g t0 => LK g (lk E 1) fun g t1 => LK g (lk E 2) fun g t2 => C3 M g (.func qjk) [t0, t1, t2] H fun g t32 H1 => B3 g ((Op.mkIface j9) [t32]) fun g t33 => GO3 g Q .ret ((10, t33)::E) D H1) (fun g => B3 g ((Op.mkIface qj) [(.int .i64 4)]) fun g t35 => LK g (lk E 11) fun g t11_1 => B3 g ((Op.eq (.ifaces (ifT Tryd.prog)) false) [t11_1, t35] H) fun g t36 => IF3 g t36 (fun g => LK g (lk E 0) fun g t0 => LK g (lk E 1) fun g t1 => LK g (lk E 3) fun g t3 => C3 M g (.func qgz) [t0, t1, t3] H fun g t40 H1 => B3 g ((Op.mkIface j9) [t40]) fun g t41 => GO3 g Q .ret ((10, t41)::E) D H1) (fun g => GO3 g Q .normal E D H))) := by (repeat' apply And.intro) <;> (intro _ _ _ _; refine W_unf ?_; kernel_rfl)
theorem qfi : (cProg Tryd.prog).func jx = some qao ∧ qao.results = [.tmp 10] := qw (by kernel_rfl)
theorem qjm {M : Mac} [MK M] : M.func jx = some qao := MK.at (by decide) qfi.1
theorem qlk {M : Mac} [MK M] {a0 a1 a2 a3 a4 : AV} {H : AHeap} {Q : AEnd → AHeap → Prop} (h : W M ⟨none, jx⟩ (ze 0) true (FIN3 M [.tmp 10] Q) [(0, a0), (1, a1), (2, a2), (3, a3), (4, a4)] [] H) : CALLE M jx [a0, a1, a2, a3, a4] H Q :=
  calle qjm (ks := qfo) (by kernel_rfl) (by rw [qfi.2]; exact h)
def ve : AFunc := funcAt Tryd.prog zl
def qd7 : Kp := ⟨[0, 1, 4], false, [0]⟩
def qei (k : Nat) : Kp × ACode := (qd7, part ve.body k)
theorem qeh (M : Mac) (c : Ctx) : (∀ Q E D H, W M c (qei 0) true Q E D H =
  LK true (lk E 0) fun g t0 => LK g (lk E 1) fun g t1 => C3 M g (.func xe) [t0, t1] H fun g t7 H1 => GO3 g Q .ret ((4, t7)::(4, (.int .i64 0))::E) D H1) := by intro _ _ _ _; refine W_unf ?_; kernel_rfl
theorem qd5 : (cProg Tryd.prog).func zl = some ve ∧ ve.results = [.tmp 4] := qw (by kernel_rfl)
theorem qif {M : Mac} [MK M] : M.func zl = some ve := MK.at (by decide) qd5.1
theorem qjd {M : Mac} [MK M] {a0 a1 : AV} {H : AHeap} {Q : AEnd → AHeap → Prop} (h : W M ⟨none, zl⟩ (qei 0) true (FIN3 M [.tmp 4] Q) [(0, a0), (1, a1)] [] H) : CALLE M zl [a0, a1] H Q :=
  calle qif (ks := qd7) (by kernel_rfl) (by rw [qd5.2]; exact h)
def jq : AFunc := funcAt Tryd.prog xk
def wg : Kp := ⟨[0, 1, 4, 5, 6, 7, 8, 9, 10, 11, 12, 13], false, [0, 4, 18, 31, 35, 39, 41, 44, 50, 57, 65, 67, 75, 79, 84, 92, 98, 100, 108, 112]⟩
def qy (k : Nat) : Kp × ACode := (wg, part jq.body k)
theorem qdn (M : Mac) (c : Ctx) : (∀ Q E D H, W M c (qy 0) true Q E D H =
  LK true (lk E 1) fun g t1 => B3 g (Op.lenStr [t1]) fun g t15 => W M c (qy 4) g Q ((5, t15)::(4, (.int .i64 0))::E) D H) ∧
 (∀ Q E D H, W M c (qy 4) true Q E D H =
  LK true (lk E 5) fun g t5 => B3 g ((Op.bin .eql) [t5, (.int .i64 0)]) fun g t18 => JN (fun (k : Bool → AV → AV → AV → AHeap → Prop) => B3 g (wantV false (some t18)) fun g w => IG3 g w (fun g => LK g (lk E 1) fun g t1 => LK g (lk E 0) fun g t0 => B3 g ((Op.bin .eql) [t1, t0]) fun g t22 => k g t22 t0 t1 H) (fun g => k g uu uu uu H)) (fun g t22_1 t21_1 t20_1 H1 => B3 g (Op.pick [t18, (.bool true), t22_1]) fun g t23 => IF3 g t23 (fun g => GO3 g (BLK3 0 (SEQ3 (W M c (qy 31)) Q)) .ret ((4, (.int .i64 0))::E) D H1) (fun g => LK g (lk E 5) fun g t5_1 => B3 g ((Op.bin .eql) [t5_1, (.int .i64 1)]) fun g t26 => IF3 g t26 (fun g => LK g (lk E 0) fun g t0_1 => LK g (lk E 1) fun g t1_1 => B3 g (Op.indexStr [t1_1, (.int .i64 0)]) fun g t29 => C3 M g (.func xe) [t0_1, t29] H1 fun g t30 H2 => GO3 g (BLK3 0 (SEQ3 (W M c (qy 31)) Q)) .ret ((4, t30)::E) D H2) (fun g => W M c (qy 18) g (BLK3 0 (SEQ3 (W M c (qy 31)) Q)) E D H1)))) ∧
 (∀ Q E D H, W M c (qy 31) true Q E D H =
  LK true (lk E 1) fun g t1 => B3 g (Op.indexStr [t1, (.int .i64 0)]) fun g t49 => LK g (lk E 1) fun g t1_1 => B3 g (Op.indexStr [t1_1, (.int .i64 1)]) fun g t51 => W M c (qy 35) g Q ((7, t51)::(6, t49)::E) D H) := by (repeat' apply And.intro) <;> (intro _ _ _ _; refine W_unf ?_; kernel_rfl)
theorem wx : (cProg Tryd.prog).func xk = some jq ∧ jq.results = [.tmp 4] := qw (by kernel_rfl)
theorem qcq {M : Mac} [MK M] : M.func xk = some jq := MK.at (by decide) wx.1
theorem qc6 {M : Mac} [MK M] {a0 a1 : AV} {H : AHeap} {Q : AEnd → AHeap → Prop} (h : W M ⟨none, xk⟩ (qy 0) true (FIN3 M [.tmp 4] Q) [(0, a0), (1, a1)] [] H) : CALLE M xk [a0, a1] H Q :=
  calle qcq (ks := wg) (by kernel_rfl) (by rw [wx.2]; exact h)
def j5 : AFunc := funcAt Tryd.prog qz
def qa5 : Kp := ⟨[0, 2], false, [0]⟩
def qa3 (k : Nat) : Kp × ACode := (qa5, part j5.body k)
theorem qfg (M : Mac) (c : Ctx) : (∀ Q E D H, W M c (qa3 0) true Q E D H =
  LK true (lk E 0) fun g t0 => B3 g ((Op.bin .or) [t0, (.int .u8 32)]) fun g t4 => GO3 g Q .ret ((2, t4)::(2, (.int .u8 0))::E) D H) := by intro _ _ _ _; refine W_unf ?_; kernel_rfl
theorem qa2 : (cProg Tryd.prog).func qz = some j5 ∧ j5.results = [.tmp 2] := qw (by kernel_rfl)
theorem qe9 {M : Mac} [MK M] : M.func qz = some j5 := MK.at (by decide) qa2.1
theorem qff {M : Mac} [MK M] {a0 : AV} {H : AHeap} {Q : AEnd → AHeap → Prop} (h : W M ⟨none, qz⟩ (qa3 0) true (FIN3 M [.tmp 2] Q) [(0, a0)] [] H) : CALLE M qz [a0] H Q :=
  calle qe9 (ks := qa5) (by kernel_rfl) (by rw [qa2.2]; exact h)
def yf : AFunc := funcAt Tryd.prog zp
def qcc : Kp := ⟨[0, 1, 4], false, [0]⟩
def qcd (k : Nat) : Kp × ACode := (qcc, part yf.body k)
theorem qb9 (M : Mac) (c : Ctx) : (∀ Q E D H, W M c (qcd 0) true Q E D H =
  LK true (lk E 0) fun g t0 => LK g (lk E 1) fun g t1 => B3 g (Op.load1 [(.ptr zm 0)] H) fun g t8 => C3 M g (.func xm) [t1] H fun g t7 H1 => CK3 g (Op.load1 [(.ptr zm 0)] H1) (some t8) fun g => B3 g ((Op.build [(.str []), (.str []), .nili] [(0, 1), (1, 1), (2, 1)]) [t0, t7, t8]) fun g t9 => A3 g qew (AV.cells t9) H1 fun g t10 H2 => GO3 g Q .ret ((4, t10)::(4, .nilp)::E) D H2) := by intro _ _ _ _; refine W_unf ?_; kernel_rfl
theorem qca : (cProg Tryd.prog).func zp = some yf ∧ yf.results = [.tmp 4] := qw (by kernel_rfl)
theorem qgy {M : Mac} [MK M] : M.func zp = some yf := MK.at (by decide) qca.1
theorem qg2 {M : Mac} [MK M] {a0 a1 : AV} {H : AHeap} {Q : AEnd → AHeap → Prop} (h : W M ⟨none, zp⟩ (qcd 0) true (FIN3 M [.tmp 4] Q) [(0, a0), (1, a1)] [] H) : CALLE M zp [a0, a1] H Q :=
  calle qgy (ks := qcc) (by kernel_rfl) (by rw [qca.2]; exact h)
def yw : AFunc := funcAt Tryd.prog zy
def qcu : Kp := ⟨[0, 1, 4], false, [0]⟩
def qct (k : Nat) : Kp × ACode := (qcu, part yw.body k)
theorem qc0 (M : Mac) (c : Ctx) : (∀ Q E D H, W M c (qct 0) true Q E D H =
  LK true (lk E 0) fun g t0 => LK g (lk E 1) fun g t1 => B3 g (Op.load1 [(.ptr z4 0)] H) fun g t8 => C3 M g (.func xm) [t1] H fun g t7 H1 => CK3 g (Op.load1 [(.ptr z4 0)] H1) (some t8) fun g => B3 g ((Op.build [(.str []), (.str []), .nili] [(0, 1), (1, 1), (2, 1)]) [t0, t7, t8]) fun g t9 => A3 g qew (AV.cells t9) H1 fun g t10 H2 => GO3 g Q .ret ((4, t10)::(4, .nilp)::E) D H2) := by intro _ _ _ _; refine W_unf ?_; kernel_rfl
theorem qc4 : (cProg Tryd.prog).func zy = some yw ∧ yw.results = [.tmp 4] := qw (by kernel_rfl)
theorem qhf {M : Mac} [MK M] : M.func zy = some yw := MK.at (by decide) qc4.1
theorem qid {M : Mac} [MK M] {a0 a1 : AV} {H : AHeap} {Q : AEnd → AHeap → Prop} (h : W M ⟨none, zy⟩ (qct 0) true (FIN3 M [.tmp 4] Q) [(0, a0), (1, a1)] [] H) : CALLE M zy [a0, a1] H Q :=
  calle qhf (ks := qcu) (by kernel_rfl) (by rw [qc4.2]; exact h)
def zj : AFunc := funcAt Tryd.prog xe
def yp : Kp := ⟨[0, 1, 4], false, [0]⟩
def ym (k : Nat) : Kp × ACode := (yp, part zj.body k)
theorem qbp (M : Mac) (c : Ctx) : (∀ Q E D H, W M c (ym 0) true Q E D H =
  LK true (lk E 0) fun g t0 => LK g (lk E 1) fun g t1 => B3 g (Op.indexByteString [t0, t1]) fun g t7 => GO3 g Q .ret ((4, t7)::(4, (.int .i64 0))::E) D H) := by intro _ _ _ _; refine W_unf ?_; kernel_rfl
theorem yo : (cProg Tryd.prog).func xe = some zj ∧ zj.results = [.tmp 4] := qw (by kernel_rfl)
theorem qbf {M : Mac} [MK M] : M.func xe = some zj := MK.at (by decide) yo.1
theorem qbm {M : Mac} [MK M] {a0 a1 : AV} {H : AHeap} {Q : AEnd → AHeap → Prop} (h : W M ⟨none, xe⟩ (ym 0) true (FIN3 M [.tmp 4] Q) [(0, a0), (1, a1)] [] H) : CALLE M xe [a0, a1] H Q :=
  calle qbf (ks := yp) (by kernel_rfl) (by rw [yo.2]; exact h)
def jo : AFunc := funcAt Tryd.prog xm
def ww : Kp := ⟨[0, 2, 3], false, [0, 2, 10]⟩
def xw (k : Nat) : Kp × ACode := (ww, part jo.body k)
theorem w5 (M : Mac) (c : Ctx) : (∀ Q E D H, W M c (xw 0) true Q E D H =
  W M c (xw 2) true Q ((2, (.str []))::E) D H) ∧
 (∀ Q E D H, W M c (xw 2) true Q E D H =
  LK true (lk E 0) fun g t0 => B3 g (Op.lenStr [t0]) fun g t5 => B3 g ((Op.bin .eql) [t5, (.int .i64 0)]) fun g t6 => IF3 g t6 (fun g => GO3 g (SEQ3 (W M c (xw 10)) Q) .ret ((2, (.str []))::E) D H) (fun g => GO3 g (SEQ3 (W M c (xw 10)) Q) .normal E D H)) ∧
 (∀ Q E D H, W M c (xw 10) true Q E D H =
  LK true (lk E 0) fun g t0 => B3 g (Op.lenStr [t0]) fun g t8 => B32 g ((Op.mkSlice j6 1 [(.int .u8 0)]) [t8, t8]) fun g o1 k1 => LK g (lk E 0) fun g t0_1 => B32 g ((Op.copy 1) [(k1 H.next), t0_1] (H.alloc o1)) fun g t12 H2 => B3 g ((Op.indexSl 1) [(k1 H.next), (.int .i64 0)]) fun g t14 => B3 g (Op.lenSl [(k1 H.next)]) fun g t16 => B32 g ((Op.strOfPtr j6) [t14, t16] H2) fun g t17 H3 => GO3 g Q .ret ((2, t17)::(3, (k1 H.next))::E) D H3) := by (repeat' apply And.intro) <;> (intro _ _ _ _; refine W_unf ?_; kernel_rfl)
theorem vx : (cProg Tryd.prog).func xm = some jo ∧ jo.results = [.tmp 2] := qw (by kernel_rfl)
theorem qch {M : Mac} [MK M] : M.func xm = some jo := MK.at (by decide) vx.1
theorem qdb {M : Mac} [MK M] {a0 : AV} {H : AHeap} {Q : AEnd → AHeap → Prop} (h : W M ⟨none, xm⟩ (xw 0) true (FIN3 M [.tmp 2] Q) [(0, a0)] [] H) : CALLE M xm [a0] H Q :=
  calle qch (ks := ww) (by kernel_rfl) (by rw [vx.2]; exact h)
end
end Go.Am
namespace Go.Am
abbrev jr : Nat := 7
abbrev za : Nat := 20
abbrev jy : Nat := 22
abbrev z8 : Nat := 70
abbrev x3 : Nat := 48
abbrev js : Nat := 47
abbrev z5 : Nat := 42
noncomputable section
open Go.Proofs Go.Proofs.YtkfheegmlgfdoaaDoor
def wz : AFunc := funcAt Tryd.prog jr
def qe1 : Kp := ⟨[0, 1, 4, 5, 6, 7, 8, 9, 10, 11, 12, 13, 14, 15], false, [0, 2, 10, 14, 18, 22]⟩
def xo (k : Nat) : Kp × ACode := (qe1, part wz.body k)
theorem qko (M : Mac) (c : Ctx) : (∀ Q E D H, W M c (xo 0) true Q E D H =
  W M c (xo 2) true Q ((4, (.bool false))::E) D H) ∧
 (∀ Q E D H, W M c (xo 2) true Q E D H =
  LK true (lk E 0) fun g t0 => B3 g (Op.lenSl [t0]) fun g t17 => B3 g ((Op.bin .gtr) [t17, (.int .i64 5000)]) fun g t18 => JN (fun (k : Bool → AV → AV → AV → AHeap → Prop) => B3 g (wantV false (some t18)) fun g w => IG3 g w (fun g => LK g (lk E 1) fun g t1 => B3 g (Op.lenStr [t1]) fun g t21 => B3 g ((Op.bin .gtr) [t21, (.int .i64 5000)]) fun g t22 => k g t22 t21 t1 H) (fun g => k g uu uu uu H)) (fun g t22_1 t21_1 t20_1 H1 => B3 g (Op.pick [t18, (.bool true), t22_1]) fun g t23 => IF3 g t23 (fun g => GO3 g (SEQ3 (W M c (xo 10)) Q) .ret ((4, (.bool true))::E) D H1) (fun g => GO3 g (SEQ3 (W M c (xo 10)) Q) .normal E D H1))) ∧
 (∀ Q E D H, W M c (xo 10) true Q E D H =
  LK true (lk E 0) fun g t0 => B32 g ((Op.append j6 1 1) [.nils, t0] H) fun g t26 H1 => B32 g ((Op.buildSlice j6 1 [(.int .u8 0)] [(0, 1)]) [(.int .u8 7)]) fun g o2 k2 => B32 g ((Op.append j6 1 1) [t26, (k2 H1.next)] (H1.alloc o2)) fun g t28 H3 => W M c (xo 14) g Q ((5, t28)::(5, .nils)::E) D H3) ∧
 (∀ Q E D H, W M c (xo 14) true Q E D H =
  LK true (lk E 5) fun g t5 => LK g (lk E 0) fun g t0 => B3 g (Op.lenSl [t0]) fun g t32 => B3 g ((Op.sliceSl 1 [none, (some 0), none]) [t5, t32]) fun g t33 => C3 M g (.func yk) [t33] H fun g t34 H1 => B3 g ((Op.extract 0) [t34]) fun g t35 => B3 g ((Op.extract 1) [t34]) fun g t36 => LK g (lk E 0) fun g t0_1 => C3 M g (.func za) [t0_1] H1 fun g t39 H2 => B3 g ((Op.extract 0) [t39]) fun g t40 => B3 g ((Op.extract 1) [t39]) fun g t41 => W M c (xo 18) g Q ((9, t41)::(8, t40)::(7, t36)::(6, t35)::E) D H2) ∧
 (∀ Q E D H, W M c (xo 18) true Q E D H =
  LK true (lk E 1) fun g t1 => C3 M g (.func kg) [t1] H fun g t44 H1 => B3 g ((Op.extract 0) [t44]) fun g t45 => B3 g ((Op.extract 1) [t44]) fun g t46 => B3 g ((Op.extract 2) [t44]) fun g t47 => LK g (lk E 1) fun g t1_1 => C3 M g (.func jy) [t1_1] H1 fun g t50 H2 => B3 g ((Op.extract 0) [t50]) fun g t51 => B3 g ((Op.extract 1) [t50]) fun g t52 => B3 g ((Op.extract 2) [t50]) fun g t53 => W M c (xo 22) g Q ((15, t53)::(14, t52)::(13, t51)::(12, t47)::(11, t46)::(10, t45)::E) D H2) ∧
 (∀ Q E D H, W M c (xo 22) true Q E D H =
  LK true (lk E 7) fun g t7 => LK g (lk E 9) fun g t9 => B3 g ((Op.bin .eql) [t7, t9]) fun g t56 => JN (fun (k : Bool → AV → AV → AV → AHeap → Prop) => B3 g (wantV true (some t56)) fun g w => IG3 g w (fun g => LK g (lk E 6) fun g t6 => LK g (lk E 8) fun g t8 => C3 M g (.func vc) [t6, t8] H fun g t60 H1 => k g t60 t8 t6 H1) (fun g => k g uu uu uu H)) (fun g t60_1 t59_1 t58_1 H2 => B3 g (Op.pick [t56, t60_1, (.bool false)]) fun g t61 => JN (fun (k : Bool → AV → AV → AV → AHeap → Prop) => B3 g (wantV true (some t61)) fun g w => IG3 g w (fun g => LK g (lk E 12) fun g t12 => LK g (lk E 15) fun g t15 => B3 g ((Op.bin .eql) [t12, t15]) fun g t65 => k g t65 t15 t12 H2) (fun g => k g uu uu uu H2)) (fun g t65_1 t64_1 t63_1 H3 => B3 g (Op.pick [t61, t65_1, (.bool false)]) fun g t66 => JN (fun (k : Bool → AV → AV → AV → AHeap → Prop) => B3 g (wantV true (some t66)) fun g w => IG3 g w (fun g => LK g (lk E 11) fun g t11 => LK g (lk E 14) fun g t14 => B3 g ((Op.bin .eql) [t11, t14]) fun g t70 => k g t70 t14 t11 H3) (fun g => k g uu uu uu H3)) (fun g t70_1 t69_1 t68_1 H4 => B3 g (Op.pick [t66, t70_1, (.bool false)]) fun g t71 => JN (fun (k : Bool → AV → AV → AV → AHeap → Prop) => B3 g (wantV true (some t71)) fun g w => IG3 g w (fun g => LK g (lk E 10) fun g t10 => LK g (lk E 13) fun g t13 => C3 M g (.func vc) [t10, t13] H4 fun g t75 H5 => k g t75 t13 t10 H5) (fun g => k g uu uu uu H4)) (fun g t75_1 t74_1 t73_1 H6 => B3 g (Op.pick [t71, t75_1, (.bool false)]) fun g t76 => JN (fun (k : Bool → AV → AV → AV → AV → AV → AV → AV → AV → AHeap → Prop) => B3 g (wantV true (some t76)) fun g w => IG3 g w (fun g => LK g (lk E 5) fun g t5 => LK g (lk E 0) fun g t0 => B3 g (Op.lenSl [t0]) fun g t80 => B3 g ((Op.sliceSl 1 [none, (some 0), none]) [t5, t80]) fun g t81 => B3 g (Op.strOfBytes [t81] H6) fun g t82 => B3 g (Op.strOfBytes [t0] H6) fun g t84 => B3 g ((Op.bin .eql) [t82, t84]) fun g t85 => k g t85 t84 t0 t82 t81 t80 t0 t5 H6) (fun g => k g uu uu uu uu uu uu uu uu H6)) (fun g t85_1 t84_1 t83_1 t82_1 t81_1 t80_1 t79_1 t78_1 H7 => B3 g (Op.pick [t76, t85_1, (.bool false)]) fun g t86 => JN (fun (k : Bool → AV → AV → AV → AV → AV → AV → AHeap → Prop) => B3 g (wantV true (some t86)) fun g w => IG3 g w (fun g => LK g (lk E 5) fun g t5_1 => LK g (lk E 0) fun g t0_1 => B3 g (Op.lenSl [t0_1]) fun g t90 => B3 g ((Op.indexSl 1) [t5_1, t90]) fun g t91 => B3 g (Op.load1 [t91] H7) fun g t92 => B3 g ((Op.bin .eql) [t92, (.int .u8 7)]) fun g t93 => k g t93 t92 t91 t90 t0_1 t5_1 H7) (fun g => k g uu uu uu uu uu uu H7)) (fun g t93_1 t92_1 t91_1 t90_1 t89_1 t88_1 H8 => B3 g (Op.pick [t86, t93_1, (.bool false)]) fun g t94 => GO3 g Q .ret ((4, t94)::E) D H8))))))) := by (repeat' apply And.intro) <;> (intro _ _ _ _; refine W_unf ?_; kernel_rfl)
theorem qex : (cProg Tryd.prog).func jr = some wz ∧ wz.results = [.tmp 4] := qw (by kernel_rfl)
theorem qi6 {M : Mac} [MK M] : M.func jr = some wz := MK.at (by decide) qex.1
theorem qkb {M : Mac} [MK M] {a0 a1 : AV} {H : AHeap} {Q : AEnd → AHeap → Prop} (h : W M ⟨none, jr⟩ (xo 0) true (FIN3 M [.tmp 4] Q) [(0, a0), (1, a1)] [] H) : CALLE M jr [a0, a1] H Q :=
  calle qi6 (ks := qe1) (by kernel_rfl) (by rw [qex.2]; exact h)
def qb3 : AFunc := funcAt Tryd.prog za
def qin : Kp := ⟨[0, 2, 3, 4, 5, 6, 7, 8, 9, 10, 11, 12, 13, 14, 15, 16, 17], false, [0, 4, 6, 9, 15, 20, 22, 30, 34, 39, 45, 51, 59, 62, 63, 66]⟩
def qh (k : Nat) : Kp × ACode := (qin, part qb3.body k)
theorem qe7 (M : Mac) (c : Ctx) : (∀ Q E D H, W M c (qh 0) true Q E D H =
  W M c (qh 4) true Q ((4, .nils)::(3, (.int .i64 0))::(2, .nils)::E) D H) ∧
 (∀ Q E D H, W M c (qh 4) true Q E D H =
  W M c (qh 6) true Q ((5, (.int .i64 0))::E) D H) ∧
 (∀ Q E D H, W M c (qh 6) true Q E D H =
  LOOP3 (W M c (qh 9)) (BLK3 0 (SEQ3 (W M c (qh 66)) Q)) E D H) ∧
 (∀ Q E D H, W M c (qh 66) true Q E D H =
  LK true (lk E 4) fun g t4 => GO3 g Q .ret ((3, (.int .i64 0))::(2, t4)::E) D H) ∧
 (∀ Q E D H, W M c (qh 9) true Q E D H =
  LK true (lk E 5) fun g t5 => LK g (lk E 0) fun g t0 => B3 g (Op.lenSl [t0]) fun g t20 => B3 g ((Op.bin .lss) [t5, t20]) fun g t21 => IF3 g t21 (fun g => GO3 g (SEQ3 (W M c (qh 15)) Q) .normal E D H) (fun g => GO3 g (SEQ3 (W M c (qh 15)) Q) (.exit 0) E D H)) ∧
 (∀ Q E D H, W M c (qh 15) true Q E D H =
  LK true (lk E 0) fun g t0 => LK g (lk E 5) fun g t5 => B3 g ((Op.indexSl 1) [t0, t5]) fun g t24 => B3 g (Op.load1 [t24] H) fun g t25 => B3 g ((Op.wrap .i64) [t25]) fun g t26 => LK g (lk E 0) fun g t0_1 => LK g (lk E 5) fun g t5_1 => B3 g ((Op.bin .add) [t5_1, (.int .i64 1)]) fun g t30 => C3 M g (.func z5) [t0_1, t30] H fun g t31 H1 => B3 g ((Op.extract 0) [t31]) fun g t32 => B3 g ((Op.extract 1) [t31]) fun g t33 => W M c (qh 20) g (BLK3 1 Q) ((8, t33)::(7, t32)::(6, t26)::E) D H1) ∧
 (∀ Q E D H, W M c (qh 20) true Q E D H =
  LK true (lk E 0) fun g t0 => LK g (lk E 8) fun g t8 => C3 M g (.func z5) [t0, t8] H fun g t37 H1 => B3 g ((Op.extract 0) [t37]) fun g t38 => B3 g ((Op.extract 1) [t37]) fun g t39 => W M c (qh 22) g Q ((10, t39)::(9, t38)::E) D H1) ∧
 (∀ Q E D H, W M c (qh 22) true Q E D H =
  LK true (lk E 6) fun g t6 => B3 g ((Op.bin .lss) [t6, (.int .i64 1)]) fun g t41 => JN (fun (k : Bool → AV → AV → AHeap → Prop) => B3 g (wantV false (some t41)) fun g w => IG3 g w (fun g => B3 g ((Op.bin .gtr) [t6, (.int .i64 8)]) fun g t44 => k g t44 t6 H) (fun g => k g uu uu H)) (fun g t44_1 t43_1 H1 => B3 g (Op.pick [t41, (.bool true), t44_1]) fun g t45 => JN (fun (k : Bool → AV → AV → AHeap → Prop) => B3 g (wantV false (some t45)) fun g w => IG3 g w (fun g => LK g (lk E 8) fun g t8 => B3 g ((Op.bin .lss) [t8, (.int .i64 0)]) fun g t48 => k g t48 t8 H1) (fun g => k g uu uu H1)) (fun g t48_1 t47_1 H2 => B3 g (Op.pick [t45, (.bool true), t48_1]) fun g t49 => JN (fun (k : Bool → AV → AV → AHeap → Prop) => B3 g (wantV false (some t49)) fun g w => IG3 g w (fun g => LK g (lk E 10) fun g t10 => B3 g ((Op.bin .lss) [t10, (.int .i64 0)]) fun g t52 => k g t52 t10 H2) (fun g => k g uu uu H2)) (fun g t52_1 t51_1 H3 => B3 g (Op.pick [t49, (.bool true), t52_1]) fun g t53 => JN (fun (k : Bool → AV → AV → AHeap → Prop) => B3 g (wantV false (some t53)) fun g w => IG3 g w (fun g => LK g (lk E 7) fun g t7 => B3 g ((Op.bin .geq) [t7, (.int .u64 4)]) fun g t56 => k g t56 t7 H3) (fun g => k g uu uu H3)) (fun g t56_1 t55_1 H4 => B3 g (Op.pick [t53, (.bool true), t56_1]) fun g t57 => JN (fun (k : Bool → AV → AV → AHeap → Prop) => B3 g (wantV false (some t57)) fun g w => IG3 g w (fun g => LK g (lk E 9) fun g t9 => B3 g ((Op.bin .gtr) [t9, (.int .u64 9223372036854775807)]) fun g t60 => k g t60 t9 H4) (fun g => k g uu uu H4)) (fun g t60_1 t59_1 H5 => B3 g (Op.pick [t57, (.bool true), t60_1]) fun g t61 => IF3 g t61 (fun g => GO3 g (SEQ3 (W M c (qh 30)) Q) .ret ((3, (.int .i64 230))::(2, .nils)::E) D H5) (fun g => GO3 g (SEQ3 (W M c (qh 30)) Q) .normal E D H5))))))) ∧
 (∀ Q E D H, W M c (qh 30) true Q E D H =
  LK true (lk E 6) fun g t6 => LK g (lk E 7) fun g t7 => B3 g ((Op.wrap .i64) [t7]) fun g t64 => LK g (lk E 9) fun g t9 => B3 g ((Op.wrap .i64) [t9]) fun g t66 => C3 M g (.func yb) [t6, t64, t66] H fun g t67 H1 => A3 g qb [(.int .i64 0), (.int .i64 0), (.int .i64 0), (.int .i64 0), (.int .i64 0), (.int .i64 0), (.int .i64 0), (.int .u64 0), (.int .i64 0)] H1 fun g t11 H2 => B32 g ((Op.store 9) [t11, t67] H2) fun g u H3 => LK g (lk E 6) fun g t6_1 => C3 M g (.func yg) [t6_1] H3 fun g t69 H4 => W M c (qh 34) g Q ((12, t69)::(11, t11)::E) D H4) ∧
 (∀ Q E D H, W M c (qh 34) true Q E D H =
  LOOP3 (W M c (qh 39)) (BLK3 2 (SEQ3 (W M c (qh 63)) Q)) ((13, (.int .i64 0))::E) D H) ∧
 (∀ Q E D H, W M c (qh 63) true Q E D H =
  LK true (lk E 4) fun g t4 => LK g (lk E 11) fun g t11 => B3 g ((Op.loadN 9) [t11] H) fun g t100 => B32 g ((Op.buildSlice qb 1 [(.int .i64 0), (.int .i64 0), (.int .i64 0), (.int .i64 0), (.int .i64 0), (.int .i64 0), (.int .i64 0), (.int .u64 0), (.int .i64 0)] [(0, 9)]) [t100]) fun g o1 k1 => B32 g ((Op.append qb 9 72) [t4, (k1 H.next)] (H.alloc o1)) fun g t102 H2 => LK g (lk E 10) fun g t10 => GO3 g Q .normal ((5, t10)::(4, t102)::E) D H2) ∧
 (∀ Q E D H, W M c (qh 39) true Q E D H =
  LK true (lk E 13) fun g t13 => LK g (lk E 12) fun g t12 => B3 g (Op.lenStr [t12]) fun g t72 => B3 g ((Op.bin .lss) [t13, t72]) fun g t73 => IF3 g t73 (fun g => GO3 g (SEQ3 (W M c (qh 45)) Q) .normal E D H) (fun g => GO3 g (SEQ3 (W M c (qh 45)) Q) (.exit 2) E D H)) ∧
 (∀ Q E D H, W M c (qh 45) true Q E D H =
  LK true (lk E 0) fun g t0 => LK g (lk E 10) fun g t10 => C3 M g (.func z5) [t0, t10] H fun g t79 H1 => B3 g ((Op.extract 0) [t79]) fun g t80 => B3 g ((Op.extract 1) [t79]) fun g t81 => LK g (lk E 11) fun g t11 => B3 g ((Op.loadN 9) [t11] H1) fun g t83 => LK g (lk E 12) fun g t12 => LK g (lk E 13) fun g t13 => B3 g (Op.indexStr [t12, t13]) fun g t86 => C3 M g (.func qae) [t83, t86, t80] H1 fun g t88 H2 => B3 g ((Op.extract 0) [t88]) fun g t89 => B3 g ((Op.extract 1) [t88]) fun g t90 => A3 g qb [(.int .i64 0), (.int .i64 0), (.int .i64 0), (.int .i64 0), (.int .i64 0), (.int .i64 0), (.int .i64 0), (.int .u64 0), (.int .i64 0)] H2 fun g t16 H3 => B32 g ((Op.store 9) [t16, t89] H3) fun g u H4 => W M c (qh 51) g (BLK3 3 (SEQ3 (W M c (qh 62)) Q)) ((17, t90)::(16, t16)::(15, t81)::(14, t80)::E) D H4) ∧
 (∀ Q E D H, W M c (qh 62) true Q E D H =
  LK true (lk E 13) fun g t13 => B3 g ((Op.bin .add) [t13, (.int .i64 1)]) fun g t75 => GO3 g Q .normal ((13, t75)::E) D H) ∧
 (∀ Q E D H, W M c (qh 51) true Q E D H =
  LK true (lk E 15) fun g t15 => B3 g ((Op.bin .lss) [t15, (.int .i64 0)]) fun g t92 => JN (fun (k : Bool → AV → AV → AHeap → Prop) => B3 g (wantV false (some t92)) fun g w => IG3 g w (fun g => LK g (lk E 17) fun g t17 => B3 g ((Op.un .not) [t17]) fun g t95 => k g t95 t17 H) (fun g => k g uu uu H)) (fun g t95_1 t94_1 H1 => B3 g (Op.pick [t92, (.bool true), t95_1]) fun g t96 => IF3 g t96 (fun g => GO3 g (SEQ3 (W M c (qh 59)) Q) .ret ((3, (.int .i64 230))::(2, .nils)::E) D H1) (fun g => GO3 g (SEQ3 (W M c (qh 59)) Q) .normal E D H1))) ∧
 (∀ Q E D H, W M c (qh 59) true Q E D H =
  LK true (lk E 16) fun g t16 => B3 g ((Op.loadN 9) [t16] H) fun g t97 => LK g (lk E 11) fun g t11 => B32 g ((Op.store 9) [t11, t97] H) fun g u H1 => LK g (lk E 15) fun g t15 => GO3 g Q .normal ((10, t15)::E) D H1) := by (repeat' apply And.intro) <;> (intro _ _ _ _; refine W_unf ?_; kernel_rfl)
theorem qim : (cProg Tryd.prog).func za = some qb3 ∧ qb3.results = [.tmp 2, .tmp 3] := qw (by kernel_rfl)
theorem qn0 {M : Mac} [MK M] : M.func za = some qb3 := MK.at (by decide) qim.1
theorem qqr {M : Mac} [MK M] {a0 : AV} {H : AHeap} {Q : AEnd → AHeap → Prop} (h : W M ⟨none, za⟩ (qh 0) true (FIN3 M [.tmp 2, .tmp 3] Q) [(0, a0)] [] H) : CALLE M za [a0] H Q :=
  calle qn0 (ks := qin) (by kernel_rfl) (by rw [qim.2]; exact h)
def qdc : AFunc := funcAt Tryd.prog jy
def qj4 : Kp := ⟨[0, 2, 3, 4, 5, 6, 7, 8, 9, 10], false, [0, 4, 6, 11, 17, 21, 27, 29, 37, 38, 39]⟩
def xb (k : Nat) : Kp × ACode := (qj4, part qdc.body k)
theorem qsa (M : Mac) (c : Ctx) : (∀ Q E D H, W M c (xb 0) true Q E D H =
  LK true (lk E 0) fun g t0 => C3 M g (.func js) [t0, (.int .u8 10)] H fun g t12 H1 => W M c (xb 4) g Q ((5, t12)::(4, (.int .i64 0))::(3, (.int .i64 0))::(2, .nils)::E) D H1) ∧
 (∀ Q E D H, W M c (xb 4) true Q E D H =
  W M c (xb 6) true Q ((6, .nils)::E) D H) ∧
 (∀ Q E D H, W M c (xb 6) true Q E D H =
  LOOP3 (W M c (xb 11)) (BLK3 0 (SEQ3 (W M c (xb 39)) Q)) ((7, (.int .i64 0))::E) D H) ∧
 (∀ Q E D H, W M c (xb 39) true Q E D H =
  LK true (lk E 6) fun g t6 => GO3 g Q .ret ((4, (.int .i64 0))::(3, (.int .i64 0))::(2, t6)::E) D H) ∧
 (∀ Q E D H, W M c (xb 11) true Q E D H =
  LK true (lk E 7) fun g t7 => LK g (lk E 5) fun g t5 => B3 g (Op.lenSl [t5]) fun g t15 => B3 g ((Op.bin .lss) [t7, t15]) fun g t16 => IF3 g t16 (fun g => GO3 g (SEQ3 (W M c (xb 17)) Q) .normal E D H) (fun g => GO3 g (SEQ3 (W M c (xb 17)) Q) (.exit 0) E D H)) ∧
 (∀ Q E D H, W M c (xb 17) true Q E D H =
  LK true (lk E 7) fun g t7 => LK g (lk E 5) fun g t5 => B3 g (Op.lenSl [t5]) fun g t21 => B3 g ((Op.bin .sub) [t21, (.int .i64 1)]) fun g t22 => B3 g ((Op.bin .eql) [t7, t22]) fun g t23 => W M c (xb 21) g (BLK3 1 (SEQ3 (W M c (xb 38)) Q)) ((8, t23)::E) D H) ∧
 (∀ Q E D H, W M c (xb 38) true Q E D H =
  LK true (lk E 7) fun g t7 => B3 g ((Op.bin .add) [t7, (.int .i64 1)]) fun g t18 => GO3 g Q .normal ((7, t18)::E) D H) ∧
 (∀ Q E D H, W M c (xb 21) true Q E D H =
  LK true (lk E 8) fun g t8 => JN (fun (k : Bool → AV → AV → AV → AV → AV → AV → AHeap → Prop) => B3 g (wantV true (some t8)) fun g w => IG3 g w (fun g => LK g (lk E 5) fun g t5 => LK g (lk E 7) fun g t7 => B3 g ((Op.indexSl 1) [t5, t7]) fun g t28 => B3 g (Op.load1 [t28] H) fun g t29 => B3 g (Op.lenStr [t29]) fun g t30 => B3 g ((Op.bin .eql) [t30, (.int .i64 0)]) fun g t31 => k g t31 t30 t29 t28 t7 t5 H) (fun g => k g uu uu uu uu uu uu H)) (fun g t31_1 t30_1 t29_1 t28_1 t27_1 t26_1 H1 => B3 g (Op.pick [t8, t31_1, (.bool false)]) fun g t32 => IF3 g t32 (fun g => GO3 g (SEQ3 (W M c (xb 27)) Q) (.exit 0) E D H1) (fun g => GO3 g (SEQ3 (W M c (xb 27)) Q) .normal E D H1))) ∧
 (∀ Q E D H, W M c (xb 27) true Q E D H =
  LK true (lk E 5) fun g t5 => LK g (lk E 7) fun g t7 => B3 g ((Op.indexSl 1) [t5, t7]) fun g t36 => B3 g (Op.load1 [t36] H) fun g t37 => C3 M g (.func x3) [t37] H fun g t38 H1 => B3 g ((Op.extract 0) [t38]) fun g t39 => B3 g ((Op.extract 1) [t38]) fun g t40 => A3 g qb [(.int .i64 0), (.int .i64 0), (.int .i64 0), (.int .i64 0), (.int .i64 0), (.int .i64 0), (.int .i64 0), (.int .u64 0), (.int .i64 0)] H1 fun g t9 H2 => B32 g ((Op.store 9) [t9, t39] H2) fun g u H3 => W M c (xb 29) g Q ((10, t40)::(9, t9)::E) D H3) ∧
 (∀ Q E D H, W M c (xb 29) true Q E D H =
  LK true (lk E 10) fun g t10 => B3 g ((Op.un .not) [t10]) fun g t42 => JN (fun (k : Bool → AV → AHeap → Prop) => B3 g (wantV false (some t42)) fun g w => IG3 g w (fun g => LK g (lk E 8) fun g t8 => k g t8 H) (fun g => k g uu H)) (fun g t44_1 H1 => B3 g (Op.pick [t42, (.bool true), t44_1]) fun g t45 => IF3 g t45 (fun g => LK g (lk E 7) fun g t7 => B3 g ((Op.bin .add) [t7, (.int .i64 1)]) fun g t47 => GO3 g (SEQ3 (W M c (xb 37)) Q) .ret ((4, (.int .i64 230))::(3, t47)::(2, .nils)::E) D H1) (fun g => GO3 g (SEQ3 (W M c (xb 37)) Q) .normal E D H1))) ∧
 (∀ Q E D H, W M c (xb 37) true Q E D H =
  LK true (lk E 6) fun g t6 => LK g (lk E 9) fun g t9 => B3 g ((Op.loadN 9) [t9] H) fun g t49 => B32 g ((Op.buildSlice qb 1 [(.int .i64 0), (.int .i64 0), (.int .i64 0), (.int .i64 0), (.int .i64 0), (.int .i64 0), (.int .i64 0), (.int .u64 0), (.int .i64 0)] [(0, 9)]) [t49]) fun g o1 k1 => B32 g ((Op.append qb 9 72) [t6, (k1 H.next)] (H.alloc o1)) fun g t51 H2 => GO3 g Q .normal ((6, t51)::E) D H2) := by (repeat' apply And.intro) <;> (intro _ _ _ _; refine W_unf ?_; kernel_rfl)
theorem qk2 : (cProg Tryd.prog).func jy = some qdc ∧ qdc.results = [.tmp 2, .tmp 3, .tmp 4] := qw (by kernel_rfl)
theorem qp7 {M : Mac} [MK M] : M.func jy = some qdc := MK.at (by decide) qk2.1
theorem qtk {M : Mac} [MK M] {a0 : AV} {H : AHeap} {Q : AEnd → AHeap → Prop} (h : W M ⟨none, jy⟩ (xb 0) true (FIN3 M [.tmp 2, .tmp 3, .tmp 4] Q) [(0, a0)] [] H) : CALLE M jy [a0] H Q :=
  calle qp7 (ks := qj4) (by kernel_rfl) (by rw [qk2.2]; exact h)
def qev : AFunc := funcAt Tryd.prog z5
def qma : Kp := ⟨[0, 1, 4, 5, 6, 7, 8, 9], false, [0, 4, 6, 11, 17, 21, 29, 33, 40, 41]⟩
def xl (k : Nat) : Kp × ACode := (qma, part qev.body k)
theorem qcb (M : Mac) (c : Ctx) : (∀ Q E D H, W M c (xl 0) true Q E D H =
  W M c (xl 4) true Q ((6, (.int .u64 0))::(5, (.int .i64 0))::(4, (.int .u64 0))::E) D H) ∧
 (∀ Q E D H, W M c (xl 4) true Q E D H =
  W M c (xl 6) true Q ((7, (.int .u64 1))::E) D H) ∧
 (∀ Q E D H, W M c (xl 6) true Q E D H =
  LOOP3 (W M c (xl 11)) (BLK3 0 (SEQ3 (W M c (xl 41)) Q)) ((8, (.int .i64 0))::E) D H) ∧
 (∀ Q E D H, W M c (xl 41) true Q E D H =
  GO3 true Q .ret ((5, (.int .i64 (-1)))::(4, (.int .u64 0))::E) D H) ∧
 (∀ Q E D H, W M c (xl 11) true Q E D H =
  LK true (lk E 8) fun g t8 => B3 g ((Op.bin .lss) [t8, (.int .i64 10)]) fun g t11 => JN (fun (k : Bool → AV → AV → AHeap → Prop) => B3 g (wantV true (some t11)) fun g w => IG3 g w (fun g => LK g (lk E 1) fun g t1 => B3 g ((Op.bin .geq) [t1, (.int .i64 0)]) fun g t14 => k g t14 t1 H) (fun g => k g uu uu H)) (fun g t14_1 t13_1 H1 => B3 g (Op.pick [t11, t14_1, (.bool false)]) fun g t15 => JN (fun (k : Bool → AV → AV → AV → AV → AV → AV → AHeap → Prop) => B3 g (wantV true (some t15)) fun g w => IG3 g w (fun g => LK g (lk E 1) fun g t1_1 => B3 g ((Op.bin .add) [t1_1, t8]) fun g t19 => LK g (lk E 0) fun g t0 => B3 g (Op.lenSl [t0]) fun g t21 => B3 g ((Op.bin .lss) [t19, t21]) fun g t22 => k g t22 t21 t0 t19 t8 t1_1 H1) (fun g => k g uu uu uu uu uu uu H1)) (fun g t22_1 t21_1 t20_1 t19_1 t18_1 t17_1 H2 => B3 g (Op.pick [t15, t22_1, (.bool false)]) fun g t23 => IF3 g t23 (fun g => GO3 g (SEQ3 (W M c (xl 17)) Q) .normal E D H2) (fun g => GO3 g (SEQ3 (W M c (xl 17)) Q) (.exit 0) E D H2)))) ∧
 (∀ Q E D H, W M c (xl 17) true Q E D H =
  LK true (lk E 0) fun g t0 => LK g (lk E 1) fun g t1 => LK g (lk E 8) fun g t8 => B3 g ((Op.bin .add) [t1, t8]) fun g t29 => B3 g ((Op.indexSl 1) [t0, t29]) fun g t30 => B3 g (Op.load1 [t30] H) fun g t31 => B3 g ((Op.bin .rem) [t31, (.int .u8 128)]) fun g t32 => B3 g ((Op.wrap .u64) [t32]) fun g t33 => W M c (xl 21) g (BLK3 1 (SEQ3 (W M c (xl 40)) Q)) ((9, t33)::E) D H) ∧
 (∀ Q E D H, W M c (xl 40) true Q E D H =
  LK true (lk E 8) fun g t8 => B3 g ((Op.bin .add) [t8, (.int .i64 1)]) fun g t25 => GO3 g Q .normal ((8, t25)::E) D H) ∧
 (∀ Q E D H, W M c (xl 21) true Q E D H =
  LK true (lk E 8) fun g t8 => B3 g ((Op.bin .eql) [t8, (.int .i64 9)]) fun g t35 => JN (fun (k : Bool → AV → AV → AV → AV → AV → AV → AV → AHeap → Prop) => B3 g (wantV true (some t35)) fun g w => IG3 g w (fun g => LK g (lk E 0) fun g t0 => LK g (lk E 1) fun g t1 => B3 g ((Op.bin .add) [t1, t8]) fun g t40 => B3 g ((Op.indexSl 1) [t0, t40]) fun g t41 => B3 g (Op.load1 [t41] H) fun g t42 => B3 g ((Op.bin .gtr) [t42, (.int .u8 1)]) fun g t43 => k g t43 t42 t41 t40 t8 t1 t0 H) (fun g => k g uu uu uu uu uu uu uu H)) (fun g t43_1 t42_1 t41_1 t40_1 t39_1 t38_1 t37_1 H1 => B3 g (Op.pick [t35, t43_1, (.bool false)]) fun g t44 => JN (fun (k : Bool → AV → AV → AV → AHeap → Prop) => B3 g (wantV false (some t44)) fun g w => IG3 g w (fun g => B3 g ((Op.bin .gtr) [t8, (.int .i64 0)]) fun g t47 => k g t47 t47 t8 H1) (fun g => k g uu uu uu H1)) (fun g t48_1 t47_1 t46_1 H2 => JN (fun (k : Bool → AV → AV → AV → AV → AV → AV → AV → AHeap → Prop) => B3 g (wantV true (some t48_1)) fun g w => IG3 g w (fun g => LK g (lk E 0) fun g t0_1 => LK g (lk E 1) fun g t1_1 => B3 g ((Op.bin .add) [t1_1, t8]) fun g t52 => B3 g ((Op.indexSl 1) [t0_1, t52]) fun g t53 => B3 g (Op.load1 [t53] H2) fun g t54 => B3 g ((Op.bin .eql) [t54, (.int .u8 0)]) fun g t55 => k g t55 t54 t53 t52 t8 t1_1 t0_1 H2) (fun g => k g uu uu uu uu uu uu uu H2)) (fun g t55_1 t54_1 t53_1 t52_1 t51_1 t50_1 t49_1 H3 => JN (fun (k : Bool → AV → AHeap → Prop) => B3 g (wantV false (some t44)) fun g w => IG3 g w (fun g => B3 g (Op.pick [t48_1, t55_1, (.bool false)]) fun g t56 => k g t56 H3) (fun g => k g uu H3)) (fun g t56_1 H4 => B3 g (Op.pick [t44, (.bool true), t56_1]) fun g t57 => IF3 g t57 (fun g => GO3 g (SEQ3 (W M c (xl 29)) Q) .ret ((5, (.int .i64 (-1)))::(4, (.int .u64 0))::E) D H4) (fun g => GO3 g (SEQ3 (W M c (xl 29)) Q) .normal E D H4)))))) ∧
 (∀ Q E D H, W M c (xl 29) true Q E D H =
  LK true (lk E 6) fun g t6 => LK g (lk E 9) fun g t9 => LK g (lk E 7) fun g t7 => B3 g ((Op.bin .mul) [t9, t7]) fun g t61 => B3 g ((Op.bin .add) [t6, t61]) fun g t62 => LK g (lk E 7) fun g t7_1 => B3 g ((Op.bin .mul) [t7_1, (.int .u64 128)]) fun g t64 => W M c (xl 33) g Q ((7, t64)::(6, t62)::E) D H) ∧
 (∀ Q E D H, W M c (xl 33) true Q E D H =
  LK true (lk E 0) fun g t0 => LK g (lk E 1) fun g t1 => LK g (lk E 8) fun g t8 => B3 g ((Op.bin .add) [t1, t8]) fun g t68 => B3 g ((Op.indexSl 1) [t0, t68]) fun g t69 => B3 g (Op.load1 [t69] H) fun g t70 => B3 g ((Op.bin .lss) [t70, (.int .u8 128)]) fun g t71 => IF3 g t71 (fun g => LK g (lk E 6) fun g t6 => LK g (lk E 1) fun g t1_1 => LK g (lk E 8) fun g t8_1 => B3 g ((Op.bin .add) [t1_1, t8_1]) fun g t75 => B3 g ((Op.bin .add) [t75, (.int .i64 1)]) fun g t76 => GO3 g Q .ret ((5, t76)::(4, t6)::E) D H) (fun g => GO3 g Q .normal E D H)) := by (repeat' apply And.intro) <;> (intro _ _ _ _; refine W_unf ?_; kernel_rfl)
theorem ql7 : (cProg Tryd.prog).func z5 = some qev ∧ qev.results = [.tmp 4, .tmp 5] := qw (by kernel_rfl)
theorem qth {M : Mac} [MK M] : M.func z5 = some qev := MK.at (by decide) ql7.1
theorem qlv {M : Mac} [MK M] {a0 a1 : AV} {H : AHeap} {Q : AEnd → AHeap → Prop} (h : W M ⟨none, z5⟩ (xl 0) true (FIN3 M [.tmp 4, .tmp 5] Q) [(0, a0), (1, a1)] [] H) : CALLE M z5 [a0, a1] H Q :=
  calle qth (ks := qma) (by kernel_rfl) (by rw [ql7.2]; exact h)
def qdt : AFunc := funcAt Tryd.prog js
def qke : Kp := ⟨[0, 1, 4, 5, 6, 7], false, [0, 4, 6, 11, 17, 26, 27]⟩
def x5 (k : Nat) : Kp × ACode := (qke, part qdt.body k)
theorem qr5 (M : Mac) (c : Ctx) : (∀ Q E D H, W M c (x5 0) true Q E D H =
  W M c (x5 4) true Q ((5, .nils)::(4, .nils)::E) D H) ∧
 (∀ Q E D H, W M c (x5 4) true Q E D H =
  W M c (x5 6) true Q ((6, (.int .i64 0))::E) D H) ∧
 (∀ Q E D H, W M c (x5 6) true Q E D H =
  LOOP3 (W M c (x5 11)) (BLK3 0 (SEQ3 (W M c (x5 27)) Q)) ((7, (.int .i64 0))::E) D H) ∧
 (∀ Q E D H, W M c (x5 27) true Q E D H =
  LK true (lk E 5) fun g t5 => LK g (lk E 0) fun g t0 => LK g (lk E 6) fun g t6 => B3 g ((Op.sliceStr [(some 0), none]) [t0, t6]) fun g t31 => B32 g ((Op.buildSlice qm 1 [(.str [])] [(0, 1)]) [t31]) fun g o1 k1 => B32 g ((Op.append qm 1 16) [t5, (k1 H.next)] (H.alloc o1)) fun g t33 H2 => GO3 g Q .ret ((4, t33)::E) D H2) ∧
 (∀ Q E D H, W M c (x5 11) true Q E D H =
  LK true (lk E 7) fun g t7 => LK g (lk E 0) fun g t0 => B3 g (Op.lenStr [t0]) fun g t10 => B3 g ((Op.bin .lss) [t7, t10]) fun g t11 => IF3 g t11 (fun g => GO3 g (SEQ3 (W M c (x5 17)) Q) .normal E D H) (fun g => GO3 g (SEQ3 (W M c (x5 17)) Q) (.exit 0) E D H)) ∧
 (∀ Q E D H, W M c (x5 17) true Q E D H =
  LK true (lk E 0) fun g t0 => LK g (lk E 7) fun g t7 => B3 g (Op.indexStr [t0, t7]) fun g t16 => LK g (lk E 1) fun g t1 => B3 g ((Op.bin .eql) [t16, t1]) fun g t18 => IF3 g t18 (fun g => LK g (lk E 5) fun g t5 => LK g (lk E 0) fun g t0_1 => LK g (lk E 6) fun g t6 => LK g (lk E 7) fun g t7_1 => B3 g ((Op.sliceStr [(some 0), (some 1)]) [t0_1, t6, t7_1]) fun g t23 => B32 g ((Op.buildSlice qm 1 [(.str [])] [(0, 1)]) [t23]) fun g o1 k1 => B32 g ((Op.append qm 1 16) [t5, (k1 H.next)] (H.alloc o1)) fun g t25 H2 => LK g (lk E 7) fun g t7_2 => B3 g ((Op.bin .add) [t7_2, (.int .i64 1)]) fun g t27 => GO3 g (BLK3 1 (SEQ3 (W M c (x5 26)) Q)) .normal ((6, t27)::(5, t25)::E) D H2) (fun g => GO3 g (BLK3 1 (SEQ3 (W M c (x5 26)) Q)) .normal E D H)) ∧
 (∀ Q E D H, W M c (x5 26) true Q E D H =
  LK true (lk E 7) fun g t7 => B3 g ((Op.bin .add) [t7, (.int .i64 1)]) fun g t13 => GO3 g Q .normal ((7, t13)::E) D H) := by (repeat' apply And.intro) <;> (intro _ _ _ _; refine W_unf ?_; kernel_rfl)
theorem qjs : (cProg Tryd.prog).func js = some qdt ∧ qdt.results = [.tmp 4] := qw (by kernel_rfl)
theorem qp3 {M : Mac} [MK M] : M.func js = some qdt := MK.at (by decide) qjs.1
theorem qsb {M : Mac} [MK M] {a0 a1 : AV} {H : AHeap} {Q : AEnd → AHeap → Prop} (h : W M ⟨none, js⟩ (x5 0) true (FIN3 M [.tmp 4] Q) [(0, a0), (1, a1)] [] H) : CALLE M js [a0, a1] H Q :=
  calle qp3 (ks := qke) (by kernel_rfl) (by rw [qjs.2]; exact h)
def qen : AFunc := funcAt Tryd.prog x3
def ql0 : Kp := ⟨[0, 2, 3, 4, 5, 6, 7, 8, 9, 10, 11, 12, 13, 14, 15, 16, 17, 18, 19, 20], false, [0, 4, 12, 14, 19, 25, 34, 35, 43, 47, 49, 57, 59, 64, 70, 76, 82, 86, 92, 101, 103, 105, 113, 114, 115]⟩
def qf (k : Nat) : Kp × ACode := (ql0, part qen.body k)
theorem qcg (M : Mac) (c : Ctx) : (∀ Q E D H, W M c (qf 0) true Q E D H =
  A3 true qb [(.int .i64 0), (.int .i64 0), (.int .i64 0), (.int .i64 0), (.int .i64 0), (.int .i64 0), (.int .i64 0), (.int .u64 0), (.int .i64 0)] H fun g t2 H1 => LK g (lk E 0) fun g t0 => C3 M g (.func js) [t0, (.int .u8 32)] H1 fun g t22 H2 => W M c (qf 4) g Q ((4, t22)::(3, (.bool false))::(2, t2)::E) D H2) ∧
 (∀ Q E D H, W M c (qf 4) true Q E D H =
  LK true (lk E 4) fun g t4 => B3 g (Op.lenSl [t4]) fun g t24 => B3 g ((Op.bin .lss) [t24, (.int .i64 3)]) fun g t25 => IF3 g t25 (fun g => B3 g ((Op.build [(.int .i64 0), (.int .i64 0), (.int .i64 0), (.int .i64 0), (.int .i64 0), (.int .i64 0), (.int .i64 0), (.int .u64 0), (.int .i64 0)] []) []) fun g t26 => LK g (lk E 2) fun g t2 => B32 g ((Op.store 9) [t2, t26] H) fun g u H1 => GO3 g (SEQ3 (W M c (qf 12)) Q) .ret ((3, (.bool false))::E) D H1) (fun g => GO3 g (SEQ3 (W M c (qf 12)) Q) .normal E D H)) ∧
 (∀ Q E D H, W M c (qf 12) true Q E D H =
  W M c (qf 14) true Q ((5, (.int .i64 0))::E) D H) ∧
 (∀ Q E D H, W M c (qf 14) true Q E D H =
  LOOP3 (W M c (qf 19)) (BLK3 0 (SEQ3 (W M c (qf 35)) Q)) ((6, (.int .i64 1))::E) D H) ∧
 (∀ Q E D H, W M c (qf 35) true Q E D H =
  LK true (lk E 5) fun g t5 => B3 g ((Op.bin .eql) [t5, (.int .i64 0)]) fun g t40 => IF3 g t40 (fun g => B3 g ((Op.build [(.int .i64 0), (.int .i64 0), (.int .i64 0), (.int .i64 0), (.int .i64 0), (.int .i64 0), (.int .i64 0), (.int .u64 0), (.int .i64 0)] []) []) fun g t41 => LK g (lk E 2) fun g t2 => B32 g ((Op.store 9) [t2, t41] H) fun g u H1 => GO3 g (SEQ3 (W M c (qf 43)) Q) .ret ((3, (.bool false))::E) D H1) (fun g => GO3 g (SEQ3 (W M c (qf 43)) Q) .normal E D H)) ∧
 (∀ Q E D H, W M c (qf 19) true Q E D H =
  LK true (lk E 6) fun g t6 => B3 g ((Op.bin .leq) [t6, (.int .i64 8)]) fun g t28 => IF3 g t28 (fun g => GO3 g (SEQ3 (W M c (qf 25)) Q) .normal E D H) (fun g => GO3 g (SEQ3 (W M c (qf 25)) Q) (.exit 0) E D H)) ∧
 (∀ Q E D H, W M c (qf 43) true Q E D H =
  LK true (lk E 5) fun g t5 => C3 M g (.func yg) [t5] H fun g t43 H1 => LK g (lk E 4) fun g t4 => B3 g ((Op.indexSl 1) [t4, (.int .i64 0)]) fun g t46 => B3 g (Op.load1 [t46] H1) fun g t47 => C3 M g (.func z8) [t47] H1 fun g t48 H2 => B3 g ((Op.extract 0) [t48]) fun g t49 => B3 g ((Op.extract 1) [t48]) fun g t50 => W M c (qf 47) g Q ((10, t50)::(9, t49)::(8, t43)::E) D H2) ∧
 (∀ Q E D H, W M c (qf 25) true Q E D H =
  LK true (lk E 6) fun g t6 => C3 M g (.func qag) [t6] H fun g t32 H1 => LK g (lk E 4) fun g t4 => B3 g ((Op.indexSl 1) [t4, (.int .i64 2)]) fun g t35 => B3 g (Op.load1 [t35] H1) fun g t36 => B3 g ((Op.bin .eql) [t32, t36]) fun g t37 => IF3 g t37 (fun g => LK g (lk E 6) fun g t6_1 => GO3 g (BLK3 1 (SEQ3 (W M c (qf 34)) Q)) .normal ((5, t6_1)::(7, t32)::E) D H1) (fun g => GO3 g (BLK3 1 (SEQ3 (W M c (qf 34)) Q)) .normal ((7, t32)::E) D H1)) ∧
 (∀ Q E D H, W M c (qf 47) true Q E D H =
  LK true (lk E 4) fun g t4 => B3 g ((Op.indexSl 1) [t4, (.int .i64 1)]) fun g t53 => B3 g (Op.load1 [t53] H) fun g t54 => C3 M g (.func z8) [t54] H fun g t55 H1 => B3 g ((Op.extract 0) [t55]) fun g t56 => B3 g ((Op.extract 1) [t55]) fun g t57 => W M c (qf 49) g Q ((12, t57)::(11, t56)::E) D H1) ∧
 (∀ Q E D H, W M c (qf 34) true Q E D H =
  LK true (lk E 6) fun g t6 => B3 g ((Op.bin .add) [t6, (.int .i64 1)]) fun g t30 => GO3 g Q .normal ((6, t30)::E) D H) ∧
 (∀ Q E D H, W M c (qf 49) true Q E D H =
  LK true (lk E 4) fun g t4 => B3 g (Op.lenSl [t4]) fun g t59 => LK g (lk E 8) fun g t8 => B3 g (Op.lenStr [t8]) fun g t61 => B3 g ((Op.bin .add) [(.int .i64 3), t61]) fun g t62 => B3 g ((Op.bin .neq) [t59, t62]) fun g t63 => JN (fun (k : Bool → AV → AV → AHeap → Prop) => B3 g (wantV false (some t63)) fun g w => IG3 g w (fun g => LK g (lk E 10) fun g t10 => B3 g ((Op.un .not) [t10]) fun g t66 => k g t66 t10 H) (fun g => k g uu uu H)) (fun g t66_1 t65_1 H1 => B3 g (Op.pick [t63, (.bool true), t66_1]) fun g t67 => JN (fun (k : Bool → AV → AV → AHeap → Prop) => B3 g (wantV false (some t67)) fun g w => IG3 g w (fun g => LK g (lk E 12) fun g t12 => B3 g ((Op.un .not) [t12]) fun g t70 => k g t70 t12 H1) (fun g => k g uu uu H1)) (fun g t70_1 t69_1 H2 => B3 g (Op.pick [t67, (.bool true), t70_1]) fun g t71 => JN (fun (k : Bool → AV → AV → AHeap → Prop) => B3 g (wantV false (some t71)) fun g w => IG3 g w (fun g => LK g (lk E 9) fun g t9 => B3 g ((Op.bin .gtr) [t9, (.int .u64 9223372036854775807)]) fun g t74 => k g t74 t9 H2) (fun g => k g uu uu H2)) (fun g t74_1 t73_1 H3 => B3 g (Op.pick [t71, (.bool true), t74_1]) fun g t75 => JN (fun (k : Bool → AV → AV → AHeap → Prop) => B3 g (wantV false (some t75)) fun g w => IG3 g w (fun g => LK g (lk E 11) fun g t11 => B3 g ((Op.bin .geq) [t11, (.int .u64 4)]) fun g t78 => k g t78 t11 H3) (fun g => k g uu uu H3)) (fun g t78_1 t77_1 H4 => B3 g (Op.pick [t75, (.bool true), t78_1]) fun g t79 => IF3 g t79 (fun g => B3 g ((Op.build [(.int .i64 0), (.int .i64 0), (.int .i64 0), (.int .i64 0), (.int .i64 0), (.int .i64 0), (.int .i64 0), (.int .u64 0), (.int .i64 0)] []) []) fun g t80 => LK g (lk E 2) fun g t2 => B32 g ((Op.store 9) [t2, t80] H4) fun g u H5 => GO3 g (SEQ3 (W M c (qf 57)) Q) .ret ((3, (.bool false))::E) D H5) (fun g => GO3 g (SEQ3 (W M c (qf 57)) Q) .normal E D H4)))))) ∧
 (∀ Q E D H, W M c (qf 57) true Q E D H =
  LK true (lk E 5) fun g t5 => LK g (lk E 11) fun g t11 => B3 g ((Op.wrap .i64) [t11]) fun g t83 => LK g (lk E 9) fun g t9 => B3 g ((Op.wrap .i64) [t9]) fun g t85 => C3 M g (.func yb) [t5, t83, t85] H fun g t86 H1 => A3 g qb [(.int .i64 0), (.int .i64 0), (.int .i64 0), (.int .i64 0), (.int .i64 0), (.int .i64 0), (.int .i64 0), (.int .u64 0), (.int .i64 0)] H1 fun g t13 H2 => B32 g ((Op.store 9) [t13, t86] H2) fun g u H3 => W M c (qf 59) g Q ((13, t13)::E) D H3) ∧
 (∀ Q E D H, W M c (qf 59) true Q E D H =
  LOOP3 (W M c (qf 64)) (BLK3 2 (SEQ3 (W M c (qf 115)) Q)) ((14, (.int .i64 0))::E) D H) ∧
 (∀ Q E D H, W M c (qf 115) true Q E D H =
  LK true (lk E 13) fun g t13 => B3 g ((Op.loadN 9) [t13] H) fun g t144 => LK g (lk E 2) fun g t2 => B32 g ((Op.store 9) [t2, t144] H) fun g u H1 => GO3 g Q .ret ((3, (.bool true))::E) D H1) ∧
 (∀ Q E D H, W M c (qf 64) true Q E D H =
  LK true (lk E 14) fun g t14 => LK g (lk E 8) fun g t8 => B3 g (Op.lenStr [t8]) fun g t89 => B3 g ((Op.bin .lss) [t14, t89]) fun g t90 => IF3 g t90 (fun g => GO3 g (SEQ3 (W M c (qf 70)) Q) .normal E D H) (fun g => GO3 g (SEQ3 (W M c (qf 70)) Q) (.exit 2) E D H)) ∧
 (∀ Q E D H, W M c (qf 70) true Q E D H =
  LK true (lk E 4) fun g t4 => LK g (lk E 14) fun g t14 => B3 g ((Op.bin .add) [(.int .i64 3), t14]) fun g t96 => B3 g ((Op.indexSl 1) [t4, t96]) fun g t97 => B3 g (Op.load1 [t97] H) fun g t98 => C3 M g (.func z8) [t98] H fun g t99 H1 => B3 g ((Op.extract 0) [t99]) fun g t100 => B3 g ((Op.extract 1) [t99]) fun g t101 => LK g (lk E 8) fun g t8 => LK g (lk E 14) fun g t14_1 => B3 g (Op.indexStr [t8, t14_1]) fun g t104 => C3 M g (.func vd) [t104] H1 fun g t105 H2 => W M c (qf 76) g (BLK3 3 (SEQ3 (W M c (qf 114)) Q)) ((17, t105)::(16, t101)::(15, t100)::E) D H2) ∧
 (∀ Q E D H, W M c (qf 114) true Q E D H =
  LK true (lk E 14) fun g t14 => B3 g ((Op.bin .add) [t14, (.int .i64 1)]) fun g t92 => GO3 g Q .normal ((14, t92)::E) D H) ∧
 (∀ Q E D H, W M c (qf 76) true Q E D H =
  LK true (lk E 17) fun g t17 => B3 g (Op.lenSl [t17]) fun g t107 => B3 g ((Op.bin .gtr) [t107, (.int .i64 0)]) fun g t108 => IF3 g t108 (fun g => W M c (qf 82) g (SEQ3 (W M c (qf 103)) Q) ((16, (.bool false))::E) D H) (fun g => GO3 g (SEQ3 (W M c (qf 103)) Q) .normal E D H)) ∧
 (∀ Q E D H, W M c (qf 103) true Q E D H =
  LK true (lk E 13) fun g t13 => B3 g ((Op.loadN 9) [t13] H) fun g t128 => LK g (lk E 8) fun g t8 => LK g (lk E 14) fun g t14 => B3 g (Op.indexStr [t8, t14]) fun g t131 => LK g (lk E 15) fun g t15 => C3 M g (.func qae) [t128, t131, t15] H fun g t133 H1 => B3 g ((Op.extract 0) [t133]) fun g t134 => B3 g ((Op.extract 1) [t133]) fun g t135 => A3 g qb [(.int .i64 0), (.int .i64 0), (.int .i64 0), (.int .i64 0), (.int .i64 0), (.int .i64 0), (.int .i64 0), (.int .u64 0), (.int .i64 0)] H1 fun g t19 H2 => B32 g ((Op.store 9) [t19, t134] H2) fun g u H3 => W M c (qf 105) g Q ((20, t135)::(19, t19)::E) D H3) ∧
 (∀ Q E D H, W M c (qf 82) true Q E D H =
  LOOP3 (W M c (qf 86)) (BLK3 4 Q) ((18, (.int .i64 1))::E) D H) ∧
 (∀ Q E D H, W M c (qf 105) true Q E D H =
  LK true (lk E 16) fun g t16 => B3 g ((Op.un .not) [t16]) fun g t137 => JN (fun (k : Bool → AV → AV → AHeap → Prop) => B3 g (wantV false (some t137)) fun g w => IG3 g w (fun g => LK g (lk E 20) fun g t20 => B3 g ((Op.un .not) [t20]) fun g t140 => k g t140 t20 H) (fun g => k g uu uu H)) (fun g t140_1 t139_1 H1 => B3 g (Op.pick [t137, (.bool true), t140_1]) fun g t141 => IF3 g t141 (fun g => B3 g ((Op.build [(.int .i64 0), (.int .i64 0), (.int .i64 0), (.int .i64 0), (.int .i64 0), (.int .i64 0), (.int .i64 0), (.int .u64 0), (.int .i64 0)] []) []) fun g t142 => LK g (lk E 2) fun g t2 => B32 g ((Op.store 9) [t2, t142] H1) fun g u H2 => GO3 g (SEQ3 (W M c (qf 113)) Q) .ret ((3, (.bool false))::E) D H2) (fun g => GO3 g (SEQ3 (W M c (qf 113)) Q) .normal E D H1))) ∧
 (∀ Q E D H, W M c (qf 86) true Q E D H =
  LK true (lk E 18) fun g t18 => LK g (lk E 17) fun g t17 => B3 g (Op.lenSl [t17]) fun g t111 => B3 g ((Op.bin .lss) [t18, t111]) fun g t112 => IF3 g t112 (fun g => GO3 g (SEQ3 (W M c (qf 92)) Q) .normal E D H) (fun g => GO3 g (SEQ3 (W M c (qf 92)) Q) (.exit 4) E D H)) ∧
 (∀ Q E D H, W M c (qf 113) true Q E D H =
  LK true (lk E 19) fun g t19 => B3 g ((Op.loadN 9) [t19] H) fun g t143 => LK g (lk E 13) fun g t13 => B32 g ((Op.store 9) [t13, t143] H) fun g u H1 => GO3 g Q .normal E D H1) ∧
 (∀ Q E D H, W M c (qf 92) true Q E D H =
  LK true (lk E 17) fun g t17 => LK g (lk E 18) fun g t18 => B3 g ((Op.indexSl 1) [t17, t18]) fun g t117 => B3 g (Op.load1 [t117] H) fun g t118 => LK g (lk E 4) fun g t4 => LK g (lk E 14) fun g t14 => B3 g ((Op.bin .add) [(.int .i64 3), t14]) fun g t121 => B3 g ((Op.indexSl 1) [t4, t121]) fun g t122 => B3 g (Op.load1 [t122] H) fun g t123 => B3 g ((Op.bin .eql) [t118, t123]) fun g t124 => IF3 g t124 (fun g => LK g (lk E 18) fun g t18_1 => B3 g ((Op.wrap .u64) [t18_1]) fun g t126 => GO3 g (BLK3 5 (SEQ3 (W M c (qf 101)) Q)) .normal ((16, (.bool true))::(15, t126)::E) D H) (fun g => GO3 g (BLK3 5 (SEQ3 (W M c (qf 101)) Q)) .normal E D H)) ∧
 (∀ Q E D H, W M c (qf 101) true Q E D H =
  LK true (lk E 18) fun g t18 => B3 g ((Op.bin .add) [t18, (.int .i64 1)]) fun g t114 => GO3 g Q .normal ((18, t114)::E) D H) := by (repeat' apply And.intro) <;> (intro _ _ _ _; refine W_unf ?_; kernel_rfl)
theorem qmb : (cProg Tryd.prog).func x3 = some qen ∧ qen.results = [.cellN 9 2, .tmp 3] := qw (by kernel_rfl)
theorem qta {M : Mac} [MK M] : M.func x3 = some qen := MK.at (by decide) qmb.1
theorem qt2 {M : Mac} [MK M] {a0 : AV} {H : AHeap} {Q : AEnd → AHeap → Prop} (h : W M ⟨none, x3⟩ (qf 0) true (FIN3 M [.cellN 9 2, .tmp 3] Q) [(0, a0)] [] H) : CALLE M x3 [a0] H Q :=
  calle qta (ks := ql0) (by kernel_rfl) (by rw [qmb.2]; exact h)
def qb4 : AFunc := funcAt Tryd.prog z8
def qip : Kp := ⟨[0, 2, 3, 4, 5, 6], false, [0, 2, 10, 12, 17, 23, 33, 35, 43, 44, 45]⟩
def qt (k : Nat) : Kp × ACode := (qip, part qb4.body k)
theorem qp1 (M : Mac) (c : Ctx) : (∀ Q E D H, W M c (qt 0) true Q E D H =
  W M c (qt 2) true Q ((3, (.bool false))::(2, (.int .u64 0))::E) D H) ∧
 (∀ Q E D H, W M c (qt 2) true Q E D H =
  LK true (lk E 0) fun g t0 => B3 g (Op.lenStr [t0]) fun g t8 => B3 g ((Op.bin .eql) [t8, (.int .i64 0)]) fun g t9 => JN (fun (k : Bool → AV → AV → AV → AHeap → Prop) => B3 g (wantV false (some t9)) fun g w => IG3 g w (fun g => B3 g (Op.lenStr [t0]) fun g t12 => B3 g ((Op.bin .gtr) [t12, (.int .i64 20)]) fun g t13 => k g t13 t12 t0 H) (fun g => k g uu uu uu H)) (fun g t13_1 t12_1 t11_1 H1 => B3 g (Op.pick [t9, (.bool true), t13_1]) fun g t14 => JN (fun (k : Bool → AV → AV → AV → AV → AHeap → Prop) => B3 g (wantV false (some t14)) fun g w => IG3 g w (fun g => B3 g (Op.lenStr [t0]) fun g t17 => B3 g ((Op.bin .gtr) [t17, (.int .i64 1)]) fun g t18 => k g t18 t18 t17 t0 H1) (fun g => k g uu uu uu uu H1)) (fun g t19_1 t18_1 t17_1 t16_1 H2 => JN (fun (k : Bool → AV → AV → AV → AHeap → Prop) => B3 g (wantV true (some t19_1)) fun g w => IG3 g w (fun g => B3 g (Op.indexStr [t0, (.int .i64 0)]) fun g t21 => B3 g ((Op.bin .eql) [t21, (.int .u8 48)]) fun g t22 => k g t22 t21 t0 H2) (fun g => k g uu uu uu H2)) (fun g t22_1 t21_1 t20_1 H3 => JN (fun (k : Bool → AV → AHeap → Prop) => B3 g (wantV false (some t14)) fun g w => IG3 g w (fun g => B3 g (Op.pick [t19_1, t22_1, (.bool false)]) fun g t23 => k g t23 H3) (fun g => k g uu H3)) (fun g t23_1 H4 => B3 g (Op.pick [t14, (.bool true), t23_1]) fun g t24 => IF3 g t24 (fun g => GO3 g (SEQ3 (W M c (qt 10)) Q) .ret ((3, (.bool false))::(2, (.int .u64 0))::E) D H4) (fun g => GO3 g (SEQ3 (W M c (qt 10)) Q) .normal E D H4)))))) ∧
 (∀ Q E D H, W M c (qt 10) true Q E D H =
  W M c (qt 12) true Q ((4, (.int .u64 0))::E) D H) ∧
 (∀ Q E D H, W M c (qt 12) true Q E D H =
  LOOP3 (W M c (qt 17)) (BLK3 0 (SEQ3 (W M c (qt 45)) Q)) ((5, (.int .i64 0))::E) D H) ∧
 (∀ Q E D H, W M c (qt 45) true Q E D H =
  LK true (lk E 4) fun g t4 => GO3 g Q .ret ((3, (.bool true))::(2, t4)::E) D H) ∧
 (∀ Q E D H, W M c (qt 17) true Q E D H =
  LK true (lk E 5) fun g t5 => LK g (lk E 0) fun g t0 => B3 g (Op.lenStr [t0]) fun g t27 => B3 g ((Op.bin .lss) [t5, t27]) fun g t28 => IF3 g t28 (fun g => GO3 g (SEQ3 (W M c (qt 23)) Q) .normal E D H) (fun g => GO3 g (SEQ3 (W M c (qt 23)) Q) (.exit 0) E D H)) ∧
 (∀ Q E D H, W M c (qt 23) true Q E D H =
  LK true (lk E 0) fun g t0 => LK g (lk E 5) fun g t5 => B3 g (Op.indexStr [t0, t5]) fun g t33 => B3 g ((Op.bin .lss) [t33, (.int .u8 48)]) fun g t34 => JN (fun (k : Bool → AV → AV → AV → AV → AHeap → Prop) => B3 g (wantV false (some t34)) fun g w => IG3 g w (fun g => B3 g (Op.indexStr [t0, t5]) fun g t38 => B3 g ((Op.bin .gtr) [t38, (.int .u8 57)]) fun g t39 => k g t39 t38 t5 t0 H) (fun g => k g uu uu uu uu H)) (fun g t39_1 t38_1 t37_1 t36_1 H1 => B3 g (Op.pick [t34, (.bool true), t39_1]) fun g t40 => IF3 g t40 (fun g => GO3 g (SEQ3 (W M c (qt 33)) (BLK3 1 (SEQ3 (W M c (qt 44)) Q))) .ret ((3, (.bool false))::(2, (.int .u64 0))::E) D H1) (fun g => GO3 g (SEQ3 (W M c (qt 33)) (BLK3 1 (SEQ3 (W M c (qt 44)) Q))) .normal E D H1))) ∧
 (∀ Q E D H, W M c (qt 44) true Q E D H =
  LK true (lk E 5) fun g t5 => B3 g ((Op.bin .add) [t5, (.int .i64 1)]) fun g t30 => GO3 g Q .normal ((5, t30)::E) D H) ∧
 (∀ Q E D H, W M c (qt 33) true Q E D H =
  LK true (lk E 0) fun g t0 => LK g (lk E 5) fun g t5 => B3 g (Op.indexStr [t0, t5]) fun g t43 => B3 g ((Op.bin .sub) [t43, (.int .u8 48)]) fun g t44 => B3 g ((Op.wrap .u64) [t44]) fun g t45 => W M c (qt 35) g Q ((6, t45)::E) D H) ∧
 (∀ Q E D H, W M c (qt 35) true Q E D H =
  LK true (lk E 4) fun g t4 => LK g (lk E 6) fun g t6 => B3 g ((Op.bin .sub) [(.int .u64 18446744073709551615), t6]) fun g t48 => B3 g ((Op.bin .quo) [t48, (.int .u64 10)]) fun g t49 => B3 g ((Op.bin .gtr) [t4, t49]) fun g t50 => IF3 g t50 (fun g => GO3 g (SEQ3 (W M c (qt 43)) Q) .ret ((3, (.bool false))::(2, (.int .u64 0))::E) D H) (fun g => GO3 g (SEQ3 (W M c (qt 43)) Q) .normal E D H)) ∧
 (∀ Q E D H, W M c (qt 43) true Q E D H =
  LK true (lk E 4) fun g t4 => B3 g ((Op.bin .mul) [(.int .u64 10), t4]) fun g t52 => LK g (lk E 6) fun g t6 => B3 g ((Op.bin .add) [t52, t6]) fun g t54 => GO3 g Q .normal ((4, t54)::E) D H) := by (repeat' apply And.intro) <;> (intro _ _ _ _; refine W_unf ?_; kernel_rfl)
theorem qix : (cProg Tryd.prog).func z8 = some qb4 ∧ qb4.results = [.tmp 2, .tmp 3] := qw (by kernel_rfl)
theorem qn4 {M : Mac} [MK M] : M.func z8 = some qb4 := MK.at (by decide) qix.1
theorem qpy {M : Mac} [MK M] {a0 : AV} {H : AHeap} {Q : AEnd → AHeap → Prop} (h : W M ⟨none, z8⟩ (qt 0) true (FIN3 M [.tmp 2, .tmp 3] Q) [(0, a0)] [] H) : CALLE M z8 [a0] H Q :=
  calle qn4 (ks := qip) (by kernel_rfl) (by rw [qix.2]; exact h)
end
end Go.Am
