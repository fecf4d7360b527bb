/- CodeK: CodeS CodeWA CodeWD CodeRA CodeRC. -/
import Derived.Test.YtkfheegmlgfdoaaDoorAmKB4
import Derived.Test.YtkfheegmlgfdoaaDoorAmKB1
import Derived.KernelRfl
import Derived.Test.YtkfheegmlgfdoaaDoorRows
set_option linter.unusedVariables false
set_option maxRecDepth 100000
namespace Go.Am
abbrev x1 : Nat := 81
abbrev xu : Nat := 72
abbrev z6 : Nat := 71
abbrev xz : Nat := 96
abbrev qw : Nat := 84
abbrev qag : Nat := 85
abbrev xy : Nat := 94
abbrev xp : Nat := 83
abbrev x5 : Nat := 82
abbrev qlv : Nat := 15
abbrev jt : Nat := 95
abbrev zd : Nat := 53
abbrev kq : Nat := 52
abbrev zn : Nat := 54
abbrev zg : Nat := 56
abbrev xe : Nat := 55
abbrev xq : Nat := 73
abbrev jg : Nat := 74
abbrev j5 : Nat := 34
abbrev T__97 : Nat := 125
abbrev qp : Nat := 9
abbrev ze : Nat := 97
abbrev zq : Nat := 5
abbrev xg : Nat := 2
def qv4 : List UInt8 := [115, 116, 114, 105, 110, 103, 115, 58, 32, 74, 111, 105, 110, 32, 111, 117, 116, 112, 117, 116, 32, 108, 101, 110, 103, 116, 104, 32, 111, 118, 101, 114, 102, 108, 111, 119]
def q3y : List UInt8 := [115, 116, 114, 105, 110, 103, 115, 46, 66, 117, 105, 108, 100, 101, 114, 46, 71, 114, 111, 119, 58, 32, 110, 101, 103, 97, 116, 105, 118, 101, 32, 99, 111, 117, 110, 116]
def qo9 : List UInt8 := [48, 49, 50, 51, 52, 53, 54, 55, 56, 57, 97, 98, 99, 100, 101, 102, 103, 104, 105, 106, 107, 108, 109, 110, 111, 112, 113, 114, 115, 116, 117, 118, 119, 120, 121, 122]
def z9 : List UInt8 := [48, 48, 48, 49, 48, 50, 48, 51, 48, 52, 48, 53, 48, 54, 48, 55, 48, 56, 48, 57, 49, 48, 49, 49, 49, 50, 49, 51, 49, 52, 49, 53, 49, 54, 49, 55, 49, 56, 49, 57, 50, 48, 50, 49, 50, 50, 50, 51, 50, 52, 50, 53, 50, 54, 50, 55, 50, 56, 50, 57, 51, 48, 51, 49, 51, 50, 51, 51, 51, 52, 51, 53, 51, 54, 51, 55, 51, 56, 51, 57, 52, 48, 52, 49, 52, 50, 52, 51, 52, 52, 52, 53, 52, 54, 52, 55, 52, 56, 52, 57, 53, 48, 53, 49, 53, 50, 53, 51, 53, 52, 53, 53, 53, 54, 53, 55, 53, 56, 53, 57, 54, 48, 54, 49, 54, 50, 54, 51, 54, 52, 54, 53, 54, 54, 54, 55, 54, 56, 54, 57, 55, 48, 55, 49, 55, 50, 55, 51, 55, 52, 55, 53, 55, 54, 55, 55, 55, 56, 55, 57, 56, 48, 56, 49, 56, 50, 56, 51, 56, 52, 56, 53, 56, 54, 56, 55, 56, 56, 56, 57, 57, 48, 57, 49, 57, 50, 57, 51, 57, 52, 57, 53, 57, 54, 57, 55, 57, 56, 57, 57]
def qmj : List UInt8 := [0, 1, 2, 2, 3, 3, 3, 3, 4, 4, 4, 4, 4, 4, 4, 4, 5, 5, 5, 5, 5, 5, 5, 5, 5, 5, 5, 5, 5, 5, 5, 5, 6, 6, 6, 6, 6, 6, 6, 6, 6, 6, 6, 6, 6, 6, 6, 6, 6, 6, 6, 6, 6, 6, 6, 6, 6, 6, 6, 6, 6, 6, 6, 6, 7, 7, 7, 7, 7, 7, 7, 7, 7, 7, 7, 7, 7, 7, 7, 7, 7, 7, 7, 7, 7, 7, 7, 7, 7, 7, 7, 7, 7, 7, 7, 7, 7, 7, 7, 7, 7, 7, 7, 7, 7, 7, 7, 7, 7, 7, 7, 7, 7, 7, 7, 7, 7, 7, 7, 7, 7, 7, 7, 7, 7, 7, 7, 7, 8, 8, 8, 8, 8, 8, 8, 8, 8, 8, 8, 8, 8, 8, 8, 8, 8, 8, 8, 8, 8, 8, 8, 8, 8, 8, 8, 8, 8, 8, 8, 8, 8, 8, 8, 8, 8, 8, 8, 8, 8, 8, 8, 8, 8, 8, 8, 8, 8, 8, 8, 8, 8, 8, 8, 8, 8, 8, 8, 8, 8, 8, 8, 8, 8, 8, 8, 8, 8, 8, 8, 8, 8, 8, 8, 8, 8, 8, 8, 8, 8, 8, 8, 8, 8, 8, 8, 8, 8, 8, 8, 8, 8, 8, 8, 8, 8, 8, 8, 8, 8, 8, 8, 8, 8, 8, 8, 8, 8, 8, 8, 8, 8, 8, 8, 8, 8, 8, 8, 8, 8, 8, 8, 8, 8, 8, 8, 8]
noncomputable section
open Go.Proofs Go.Proofs.YtkfheegmlgfdoaaDoor
class MK (M : Mac) : Prop where
  ok : ∀ n, memN n [15] = false → M.func n = (cProg Tryd.prog).func n
theorem MK.at {M : Mac} [h : MK M] {n : Nat} {F : AFunc} (hn : memN n [15] = false) (hF : (cProg Tryd.prog).func n = some F) : M.func n = some F := (h.ok n hn).trans hF
def qdl : AFunc := funcAt Tryd.prog j5
def qj8 : Kp := ⟨[0, 1, 4, 5, 7, 8, 10, 12, 39, 40, 41, 63, 64, 65], false, [0, 2, 19, 21, 25, 31, 33, 38, 44, 48, 54, 55, 56, 60, 62, 67, 73, 80, 81]⟩
def qg (k : Nat) : Kp × ACode := (qj8, part qdl.body k)
theorem za (M : Mac) (c : Ctx) : (∀ Q E D H, W M c (qg 0) true Q E D H =
  W M c (qg 2) true Q ((4, (.str []))::E) D H) ∧
 (∀ Q E D H, W M c (qg 2) true Q E D H =
  LK true (lk E 0) fun g t0 => B3 g (Op.lenSl [t0]) fun g t12 => B3 g ((Op.bin .eql) [t12, (.int .i64 0)]) fun g t14 => IF3 g t14 (fun g => GO3 g (BLK3 0 (SEQ3 (W M c (qg 19)) Q)) .ret ((4, (.str []))::(12, t12)::E) D H) (fun g => B3 g ((Op.bin .eql) [t12, (.int .i64 1)]) fun g t16 => IF3 g t16 (fun g => LK g (lk E 0) fun g t0_1 => B3 g ((Op.indexSl 1) [t0_1, (.int .i64 0)]) fun g t18 => B3 g (Op.load1 [t18] H) fun g t19 => GO3 g (BLK3 0 (SEQ3 (W M c (qg 19)) Q)) .ret ((4, t19)::(12, t12)::E) D H) (fun g => GO3 g (BLK3 0 (SEQ3 (W M c (qg 19)) Q)) .normal ((12, t12)::E) D H))) ∧
 (∀ Q E D H, W M c (qg 19) true Q E D H =
  W M c (qg 21) true Q ((5, (.int .i64 0))::E) D H) ∧
 (∀ Q E D H, W M c (qg 21) true Q E D H =
  LK true (lk E 1) fun g t1 => B3 g (Op.lenStr [t1]) fun g t21 => B3 g ((Op.bin .gtr) [t21, (.int .i64 0)]) fun g t22 => IF3 g t22 (fun g => W M c (qg 25) g (SEQ3 (W M c (qg 33)) Q) E D H) (fun g => GO3 g (SEQ3 (W M c (qg 33)) Q) .normal E D H)) ∧
 (∀ Q E D H, W M c (qg 33) true Q E D H =
  LK true (lk E 0) fun g t0 => B3 g (Op.lenSl [t0]) fun g t40 => LOOP3 (W M c (qg 38)) (BLK3 1 (SEQ3 (W M c (qg 56)) Q)) ((41, (.int .i64 0))::(40, t40)::(39, t0)::E) D H) ∧
 (∀ Q E D H, W M c (qg 25) true Q E D H =
  LK true (lk E 1) fun g t1 => B3 g (Op.lenStr [t1]) fun g t24 => LK g (lk E 0) fun g t0 => B3 g (Op.lenSl [t0]) fun g t26 => B3 g ((Op.bin .sub) [t26, (.int .i64 1)]) fun g t27 => B3 g ((Op.bin .quo) [(.int .i64 9223372036854775807), t27]) fun g t28 => B3 g ((Op.bin .geq) [t24, t28]) fun g t29 => IF3 g t29 (fun g => B3 g ((Op.mkIface qp) [(.str qv4)]) fun g t30 => False) (fun g => GO3 g (SEQ3 (W M c (qg 31)) Q) .normal E D H)) ∧
 (∀ Q E D H, W M c (qg 56) true Q E D H =
  A3 true ze [.nilp, .nils] H fun g t8 H1 => LK g (lk E 5) fun g t5 => C3 M g (.func zn) [t8, t5] H1 fun g t57 H2 => W M c (qg 60) g Q ((8, t8)::E) D H2) ∧
 (∀ Q E D H, W M c (qg 38) true Q E D H =
  LK true (lk E 41) fun g t41 => LK g (lk E 40) fun g t40 => B3 g ((Op.bin .lss) [t41, t40]) fun g t42 => IF3 g t42 (fun g => GO3 g (SEQ3 (W M c (qg 44)) Q) .normal E D H) (fun g => GO3 g (SEQ3 (W M c (qg 44)) Q) (.exit 1) E D H)) ∧
 (∀ Q E D H, W M c (qg 31) true Q E D H =
  LK true (lk E 5) fun g t5 => LK g (lk E 1) fun g t1 => B3 g (Op.lenStr [t1]) fun g t33 => LK g (lk E 0) fun g t0 => B3 g (Op.lenSl [t0]) fun g t35 => B3 g ((Op.bin .sub) [t35, (.int .i64 1)]) fun g t36 => B3 g ((Op.bin .mul) [t33, t36]) fun g t37 => B3 g ((Op.bin .add) [t5, t37]) fun g t38 => GO3 g Q .normal ((5, t38)::E) D H) ∧
 (∀ Q E D H, W M c (qg 60) true Q E D H =
  LK true (lk E 0) fun g t0 => B3 g ((Op.indexSl 1) [t0, (.int .i64 0)]) fun g t59 => B3 g (Op.load1 [t59] H) fun g t60 => LK g (lk E 8) fun g t8 => C3 M g (.func xe) [t8, t60] H fun g t61 H1 => W M c (qg 62) g Q E D H1) ∧
 (∀ Q E D H, W M c (qg 44) true Q E D H =
  LK true (lk E 39) fun g t39 => LK g (lk E 41) fun g t41 => B3 g ((Op.indexSl 1) [t39, t41]) fun g t43 => B3 g (Op.load1 [t43] H) fun g t44 => W M c (qg 48) g (BLK3 2 (SEQ3 (W M c (qg 55)) Q)) ((7, t44)::E) D H) ∧
 (∀ Q E D H, W M c (qg 62) true Q E D H =
  LK true (lk E 0) fun g t0 => B3 g ((Op.sliceSl 1 [(some 0), none, none]) [t0, (.int .i64 1)]) fun g t63 => B3 g (Op.lenSl [t63]) fun g t64 => LOOP3 (W M c (qg 67)) (BLK3 3 (SEQ3 (W M c (qg 81)) Q)) ((65, (.int .i64 0))::(64, t64)::(63, t63)::E) D H) ∧
 (∀ Q E D H, W M c (qg 55) true Q E D H =
  LK true (lk E 41) fun g t41 => B3 g ((Op.bin .add) [t41, (.int .i64 1)]) fun g t55 => GO3 g Q .normal ((41, t55)::E) D H) ∧
 (∀ Q E D H, W M c (qg 48) true Q E D H =
  LK true (lk E 7) fun g t7 => B3 g (Op.lenStr [t7]) fun g t46 => LK g (lk E 5) fun g t5 => B3 g ((Op.bin .sub) [(.int .i64 9223372036854775807), t5]) fun g t48 => B3 g ((Op.bin .gtr) [t46, t48]) fun g t49 => IF3 g t49 (fun g => B3 g ((Op.mkIface qp) [(.str qv4)]) fun g t50 => False) (fun g => GO3 g (SEQ3 (W M c (qg 54)) Q) .normal E D H)) ∧
 (∀ Q E D H, W M c (qg 81) true Q E D H =
  LK true (lk E 8) fun g t8 => C3 M g (.func zg) [t8] H fun g t74 H1 => GO3 g Q .ret ((4, t74)::E) D H1) ∧
 (∀ Q E D H, W M c (qg 67) true Q E D H =
  LK true (lk E 65) fun g t65 => LK g (lk E 64) fun g t64 => B3 g ((Op.bin .lss) [t65, t64]) fun g t66 => IF3 g t66 (fun g => GO3 g (SEQ3 (W M c (qg 73)) Q) .normal E D H) (fun g => GO3 g (SEQ3 (W M c (qg 73)) Q) (.exit 3) E D H)) ∧
 (∀ Q E D H, W M c (qg 54) true Q E D H =
  LK true (lk E 5) fun g t5 => LK g (lk E 7) fun g t7 => B3 g (Op.lenStr [t7]) fun g t53 => B3 g ((Op.bin .add) [t5, t53]) fun g t54 => GO3 g Q .normal ((5, t54)::E) D H) ∧
 (∀ Q E D H, W M c (qg 73) true Q E D H =
  LK true (lk E 63) fun g t63 => LK g (lk E 65) fun g t65 => B3 g ((Op.indexSl 1) [t63, t65]) fun g t67 => B3 g (Op.load1 [t67] H) fun g t68 => LK g (lk E 1) fun g t1 => LK g (lk E 8) fun g t8 => C3 M g (.func xe) [t8, t1] H fun g t70 H1 => LK g (lk E 8) fun g t8_1 => C3 M g (.func xe) [t8_1, t68] H1 fun g t72 H2 => GO3 g (BLK3 4 (SEQ3 (W M c (qg 80)) Q)) .normal ((10, t68)::E) D H2) ∧
 (∀ Q E D H, W M c (qg 80) true Q E D H =
  LK true (lk E 65) fun g t65 => B3 g ((Op.bin .add) [t65, (.int .i64 1)]) fun g t73 => GO3 g Q .normal ((65, t73)::E) D H) := by (repeat' apply And.intro) <;> (intro _ _ _ _; refine W_unf ?_; kernel_rfl)
theorem qke : (cProg Tryd.prog).func j5 = some qdl ∧ qdl.results = [.tmp 4] := qt (by kernel_rfl)
theorem qo5 {M : Mac} [MK M] : M.func j5 = some qdl := MK.at (by decide) qke.1
theorem qq9 {M : Mac} [MK M] {a0 a1 : AV} {H : AHeap} {Q : AEnd → AHeap → Prop} (h : W M ⟨none, j5⟩ (qg 0) true (FIN3 M [.tmp 4] Q) [(0, a0), (1, a1)] [] H) : CALLE M j5 [a0, a1] H Q :=
  calle qo5 (ks := qj8) (by kernel_rfl) (by rw [qke.2]; exact h)
def qdk : AFunc := funcAt Tryd.prog kq
def qki : Kp := ⟨[0, 2], false, [0]⟩
def qkl (k : Nat) : Kp × ACode := (qki, part qdk.body k)
theorem qkr (M : Mac) (c : Ctx) : (∀ Q E D H, W M c (qkl 0) true Q E D H =
  LK true (lk E 0) fun g t0 => C3 M g (.func z6) [t0] H fun g t4 H1 => GO3 g Q .ret ((2, t4)::(2, (.str []))::E) D H1) := by intro _ _ _ _; refine W_unf ?_; kernel_rfl
theorem qkn : (cProg Tryd.prog).func kq = some qdk ∧ qdk.results = [.tmp 2] := qt (by kernel_rfl)
theorem qqg {M : Mac} [MK M] : M.func kq = some qdk := MK.at (by decide) qkn.1
theorem qrc {M : Mac} [MK M] {a0 : AV} {H : AHeap} {Q : AEnd → AHeap → Prop} (h : W M ⟨none, kq⟩ (qkl 0) true (FIN3 M [.tmp 2] Q) [(0, a0)] [] H) : CALLE M kq [a0] H Q :=
  calle qqg (ks := qki) (by kernel_rfl) (by rw [qkn.2]; exact h)
def vw : AFunc := funcAt Tryd.prog zd
def qd9 : Kp := ⟨[0, 1, 4], false, [0]⟩
def qeh (k : Nat) : Kp × ACode := (qd9, part vw.body k)
theorem qec (M : Mac) (c : Ctx) : (∀ Q E D H, W M c (qeh 0) true Q E D H =
  LK true (lk E 0) fun g t0 => LK g (lk E 1) fun g t1 => C3 M g (.func xu) [t0, t1] H fun g t7 H1 => GO3 g Q .ret ((4, t7)::(4, (.str []))::E) D H1) := by intro _ _ _ _; refine W_unf ?_; kernel_rfl
theorem qef : (cProg Tryd.prog).func zd = some vw ∧ vw.results = [.tmp 4] := qt (by kernel_rfl)
theorem qiy {M : Mac} [MK M] : M.func zd = some vw := MK.at (by decide) qef.1
theorem qj1 {M : Mac} [MK M] {a0 a1 : AV} {H : AHeap} {Q : AEnd → AHeap → Prop} (h : W M ⟨none, zd⟩ (qeh 0) true (FIN3 M [.tmp 4] Q) [(0, a0), (1, a1)] [] H) : CALLE M zd [a0, a1] H Q :=
  calle qiy (ks := qd9) (by kernel_rfl) (by rw [qef.2]; exact h)
def y8 : AFunc := funcAt Tryd.prog zn
def qcy : Kp := ⟨[0, 1], false, [0, 2, 8]⟩
def jf (k : Nat) : Kp × ACode := (qcy, part y8.body k)
theorem yy (M : Mac) (c : Ctx) : (∀ Q E D H, W M c (jf 0) true Q E D H =
  LK true (lk E 0) fun g t0 => C3 M g (.func xq) [t0] H fun g t5 H1 => W M c (jf 2) g Q E D H1) ∧
 (∀ Q E D H, W M c (jf 2) true Q E D H =
  LK true (lk E 1) fun g t1 => B3 g ((Op.bin .lss) [t1, (.int .i64 0)]) fun g t7 => IF3 g t7 (fun g => B3 g ((Op.mkIface qp) [(.str q3y)]) fun g t8 => False) (fun g => GO3 g (SEQ3 (W M c (jf 8)) Q) .normal E D H)) ∧
 (∀ Q E D H, W M c (jf 8) true Q E D H =
  LK true (lk E 0) fun g t0 => B3 g (Op.nilCheck [t0]) fun g t10 => B3 g ((Op.fieldAddr 1) [t10]) fun g t11 => B3 g (Op.load1 [t11] H) fun g t12 => B3 g (Op.cap [t12]) fun g t13 => B3 g (Op.nilCheck [t0]) fun g t15 => B3 g ((Op.fieldAddr 1) [t15]) fun g t16 => B3 g (Op.load1 [t16] H) fun g t17 => B3 g (Op.lenSl [t17]) fun g t18 => B3 g ((Op.bin .sub) [t13, t18]) fun g t19 => LK g (lk E 1) fun g t1 => B3 g ((Op.bin .lss) [t19, t1]) fun g t21 => IF3 g t21 (fun g => LK g (lk E 0) fun g t0_1 => LK g (lk E 1) fun g t1_1 => C3 M g (.func jg) [t0_1, t1_1] H fun g t24 H1 => GO3 g Q .normal E D H1) (fun g => GO3 g Q .normal E D H)) := by (repeat' apply And.intro) <;> (intro _ _ _ _; refine W_unf ?_; kernel_rfl)
theorem qc2 : (cProg Tryd.prog).func zn = some y8 ∧ y8.results = [] := qt (by kernel_rfl)
theorem qhw {M : Mac} [MK M] : M.func zn = some y8 := MK.at (by decide) qc2.1
theorem qic {M : Mac} [MK M] {a0 a1 : AV} {H : AHeap} {Q : AEnd → AHeap → Prop} (h : W M ⟨none, zn⟩ (jf 0) true (FIN3 M [] Q) [(0, a0), (1, a1)] [] H) : CALLE M zn [a0, a1] H Q :=
  calle qhw (ks := qcy) (by kernel_rfl) (by rw [qc2.2]; exact h)
def jj : AFunc := funcAt Tryd.prog xe
def qai : Kp := ⟨[0, 1, 4, 5], false, [0]⟩
def qaf (k : Nat) : Kp × ACode := (qai, part jj.body k)
theorem k9 (M : Mac) (c : Ctx) : (∀ Q E D H, W M c (qaf 0) true Q E D H =
  LK true (lk E 0) fun g t0 => C3 M g (.func xq) [t0] H fun g t7 H1 => LK g (lk E 0) fun g t0_1 => B3 g (Op.nilCheck [t0_1]) fun g t10 => B3 g ((Op.fieldAddr 1) [t10]) fun g t11 => B3 g (Op.load1 [t11] H1) fun g t12 => LK g (lk E 1) fun g t1 => B32 g ((Op.append zq 1 1) [t12, t1] H1) fun g t14 H2 => B3 g (Op.nilCheck [t0_1]) fun g t15 => B3 g ((Op.fieldAddr 1) [t15]) fun g t16 => B32 g ((Op.store 1) [t16, t14] H2) fun g u H3 => LK g (lk E 1) fun g t1_1 => B3 g (Op.lenStr [t1_1]) fun g t18 => GO3 g Q .ret ((5, .nili)::(4, t18)::(5, .nili)::(4, (.int .i64 0))::E) D H3) := by intro _ _ _ _; refine W_unf ?_; kernel_rfl
theorem qaj : (cProg Tryd.prog).func xe = some jj ∧ jj.results = [.tmp 4, .tmp 5] := qt (by kernel_rfl)
theorem qdo {M : Mac} [MK M] : M.func xe = some jj := MK.at (by decide) qaj.1
theorem qd2 {M : Mac} [MK M] {a0 a1 : AV} {H : AHeap} {Q : AEnd → AHeap → Prop} (h : W M ⟨none, xe⟩ (qaf 0) true (FIN3 M [.tmp 4, .tmp 5] Q) [(0, a0), (1, a1)] [] H) : CALLE M xe [a0, a1] H Q :=
  calle qdo (ks := qai) (by kernel_rfl) (by rw [qaj.2]; exact h)
def k8 : AFunc := funcAt Tryd.prog zg
def qb3 : Kp := ⟨[0, 2], false, [0]⟩
def qbz (k : Nat) : Kp × ACode := (qb3, part k8.body k)
theorem qgs (M : Mac) (c : Ctx) : (∀ Q E D H, W M c (qbz 0) true Q E D H =
  LK true (lk E 0) fun g t0 => B3 g (Op.nilCheck [t0]) fun g t4 => B3 g ((Op.fieldAddr 1) [t4]) fun g t5 => B3 g (Op.load1 [t5] H) fun g t6 => B3 g (Op.sliceData [t6]) fun g t7 => B3 g (Op.nilCheck [t0]) fun g t9 => B3 g ((Op.fieldAddr 1) [t9]) fun g t10 => B3 g (Op.load1 [t10] H) fun g t11 => B3 g (Op.lenSl [t11]) fun g t12 => B32 g ((Op.strOfPtr zq) [t7, t12] H) fun g t13 H1 => GO3 g Q .ret ((2, t13)::(2, (.str []))::E) D H1) := by intro _ _ _ _; refine W_unf ?_; kernel_rfl
theorem qb2 : (cProg Tryd.prog).func zg = some k8 ∧ k8.results = [.tmp 2] := qt (by kernel_rfl)
theorem qgi {M : Mac} [MK M] : M.func zg = some k8 := MK.at (by decide) qb2.1
theorem qgq {M : Mac} [MK M] {a0 : AV} {H : AHeap} {Q : AEnd → AHeap → Prop} (h : W M ⟨none, zg⟩ (qbz 0) true (FIN3 M [.tmp 2] Q) [(0, a0)] [] H) : CALLE M zg [a0] H Q :=
  calle qgi (ks := qb3) (by kernel_rfl) (by rw [qb2.2]; exact h)
def yi : AFunc := funcAt Tryd.prog z6
def qcf : Kp := ⟨[0, 2], false, [0]⟩
def qce (k : Nat) : Kp × ACode := (qcf, part yi.body k)
theorem qcb (M : Mac) (c : Ctx) : (∀ Q E D H, W M c (qce 0) true Q E D H =
  LK true (lk E 0) fun g t0 => C3 M g (.func x1) [t0, (.int .i64 10)] H fun g t4 H1 => GO3 g Q .ret ((2, t4)::(2, (.str []))::E) D H1) := by intro _ _ _ _; refine W_unf ?_; kernel_rfl
theorem qca : (cProg Tryd.prog).func z6 = some yi ∧ yi.results = [.tmp 2] := qt (by kernel_rfl)
theorem qgx {M : Mac} [MK M] : M.func z6 = some yi := MK.at (by decide) qca.1
theorem qhr {M : Mac} [MK M] {a0 : AV} {H : AHeap} {Q : AEnd → AHeap → Prop} (h : W M ⟨none, z6⟩ (qce 0) true (FIN3 M [.tmp 2] Q) [(0, a0)] [] H) : CALLE M z6 [a0] H Q :=
  calle qgx (ks := qcf) (by kernel_rfl) (by rw [qca.2]; exact h)
def jk : AFunc := funcAt Tryd.prog xu
def qak : Kp := ⟨[0, 1, 4, 5, 6, 8], false, [0, 2, 6, 14, 24]⟩
def qr (k : Nat) : Kp × ACode := (qak, part jk.body k)
theorem jn (M : Mac) (c : Ctx) : (∀ Q E D H, W M c (qr 0) true Q E D H =
  W M c (qr 2) true Q ((4, (.str []))::E) D H) ∧
 (∀ Q E D H, W M c (qr 2) true Q E D H =
  LK true (lk E 1) fun g t1 => B3 g ((Op.bin .eql) [t1, (.int .i64 10)]) fun g t10 => IF3 g t10 (fun g => W M c (qr 6) g (SEQ3 (W M c (qr 24)) Q) E D H) (fun g => GO3 g (SEQ3 (W M c (qr 24)) Q) .normal E D H)) ∧
 (∀ Q E D H, W M c (qr 24) true Q E D H =
  LK true (lk E 0) fun g t0 => LK g (lk E 1) fun g t1 => C3 M g (.func qag) [.nils, t0, t1, (.bool false), (.bool false)] H fun g t28 H1 => B3 g ((Op.extract 0) [t28]) fun g t29 => B3 g ((Op.extract 1) [t28]) fun g t30 => GO3 g Q .ret ((4, t30)::(8, t30)::E) D H1) ∧
 (∀ Q E D H, W M c (qr 6) true Q E D H =
  LK true (lk E 0) fun g t0 => B3 g ((Op.bin .lss) [t0, (.int .u64 100)]) fun g t12 => IF3 g t12 (fun g => LK g (lk E 0) fun g t0_1 => B3 g ((Op.wrap .i64) [t0_1]) fun g t14 => C3 M g (.func x5) [t14] H fun g t15 H1 => GO3 g (SEQ3 (W M c (qr 14)) Q) .ret ((4, t15)::E) D H1) (fun g => GO3 g (SEQ3 (W M c (qr 14)) Q) .normal E D H)) ∧
 (∀ Q E D H, W M c (qr 14) true Q E D H =
  A3 true T__97 (List.replicate 24 (.int .u8 0)) H fun g t5 H1 => LK g (lk E 0) fun g t0 => C3 M g (.func xp) [t0] H1 fun g t17 H2 => B3 g ((Op.sliceArr 24 1 [none, (some 0), none]) [t5, t17]) fun g t19 => LK g (lk E 0) fun g t0_1 => C3 M g (.func qw) [t19, t0_1] H2 fun g t21 H3 => B3 g ((Op.sliceArr 24 1 [none, (some 0), none]) [t5, t17]) fun g t23 => B3 g (Op.strOfBytes [t23] H3) fun g t24 => GO3 g Q .ret ((4, t24)::(6, t17)::(5, t5)::E) D H3) := by (repeat' apply And.intro) <;> (intro _ _ _ _; refine W_unf ?_; kernel_rfl)
theorem qae : (cProg Tryd.prog).func xu = some jk ∧ jk.results = [.tmp 4] := qt (by kernel_rfl)
theorem qds {M : Mac} [MK M] : M.func xu = some jk := MK.at (by decide) qae.1
theorem qd5 {M : Mac} [MK M] {a0 a1 : AV} {H : AHeap} {Q : AEnd → AHeap → Prop} (h : W M ⟨none, xu⟩ (qr 0) true (FIN3 M [.tmp 4] Q) [(0, a0), (1, a1)] [] H) : CALLE M xu [a0, a1] H Q :=
  calle qds (ks := qak) (by kernel_rfl) (by rw [qae.2]; exact h)
def j7 : AFunc := funcAt Tryd.prog xq
def qa7 : Kp := ⟨[0], false, [0]⟩
def qa6 (k : Nat) : Kp × ACode := (qa7, part j7.body k)
theorem qa8 (M : Mac) (c : Ctx) : (∀ Q E D H, W M c (qa6 0) true Q E D H =
  LK true (lk E 0) fun g t0 => B3 g (Op.nilCheck [t0]) fun g t3 => B3 g ((Op.fieldAddr 0) [t3]) fun g t4 => B3 g (Op.load1 [t4] H) fun g t5 => B3 g ((Op.eq .ptr false) [t5, .nilp] H) fun g t6 => IF3 g t6 (fun g => LK g (lk E 0) fun g t0_1 => B3 g ((Op.castPtr (liesB Tryd.prog 97)) [t0_1] H) fun g t9 => B3 g (Op.noEscape [t9]) fun g t10 => B3 g ((Op.castPtr (liesB Tryd.prog 97)) [t10] H) fun g t11 => B3 g (Op.nilCheck [t0_1]) fun g t12 => B3 g ((Op.fieldAddr 0) [t12]) fun g t13 => B32 g ((Op.store 1) [t13, t11] H) fun g u H1 => GO3 g Q .normal E D H1) (fun g => LK g (lk E 0) fun g t0_1 => B3 g (Op.nilCheck [t0_1]) fun g t15 => B3 g ((Op.fieldAddr 0) [t15]) fun g t16 => B3 g (Op.load1 [t16] H) fun g t17 => B3 g ((Op.eq .ptr true) [t17, t0_1] H) fun g t19 => IF3 g t19 (fun g => False) (fun g => GO3 g Q .normal E D H))) := by intro _ _ _ _; refine W_unf ?_; kernel_rfl
theorem qba : (cProg Tryd.prog).func xq = some j7 ∧ j7.results = [] := qt (by kernel_rfl)
theorem qeo {M : Mac} [MK M] : M.func xq = some j7 := MK.at (by decide) qba.1
theorem qfs {M : Mac} [MK M] {a0 : AV} {H : AHeap} {Q : AEnd → AHeap → Prop} (h : W M ⟨none, xq⟩ (qa6 0) true (FIN3 M [] Q) [(0, a0)] [] H) : CALLE M xq [a0] H Q :=
  calle qeo (ks := qa7) (by kernel_rfl) (by rw [qba.2]; exact h)
def yz : AFunc := funcAt Tryd.prog jg
def qcz : Kp := ⟨[0, 1, 4], false, [0]⟩
def qc1 (k : Nat) : Kp × ACode := (qcz, part yz.body k)
theorem qif (M : Mac) (c : Ctx) : (∀ Q E D H, W M c (qc1 0) true Q E D H =
  LK true (lk E 0) fun g t0 => B3 g (Op.nilCheck [t0]) fun g t6 => B3 g ((Op.fieldAddr 1) [t6]) fun g t7 => B3 g (Op.load1 [t7] H) fun g t8 => B3 g (Op.cap [t8]) fun g t9 => B3 g ((Op.bin .mul) [(.int .i64 2), t9]) fun g t10 => LK g (lk E 1) fun g t1 => B3 g ((Op.bin .add) [t10, t1]) fun g t12 => B3 g (Op.nilCheck [t0]) fun g t15 => B3 g ((Op.fieldAddr 1) [t15]) fun g t16 => B3 g (Op.load1 [t16] H) fun g t17 => B3 g (Op.lenSl [t17]) fun g t18 => B32 g ((Op.makeNoZero zq) [t12]) fun g o1 k1 => B3 g ((Op.sliceSl 1 [none, (some 0), none]) [(k1 H.next), t18]) fun g t19 => LK g (lk E 0) fun g t0_1 => B3 g (Op.nilCheck [t0_1]) fun g t22 => B3 g ((Op.fieldAddr 1) [t22]) fun g t23 => B3 g (Op.load1 [t23] (H.alloc o1)) fun g t24 => B32 g ((Op.copy 1) [t19, t24] (H.alloc o1)) fun g t25 H2 => LK g (lk E 0) fun g t0_2 => B3 g (Op.nilCheck [t0_2]) fun g t28 => B3 g ((Op.fieldAddr 1) [t28]) fun g t29 => B32 g ((Op.store 1) [t29, t19] H2) fun g u H3 => GO3 g Q .normal ((4, t19)::E) D H3) := by intro _ _ _ _; refine W_unf ?_; kernel_rfl
theorem qc0 : (cProg Tryd.prog).func jg = some yz ∧ yz.results = [] := qt (by kernel_rfl)
theorem qhv {M : Mac} [MK M] : M.func jg = some yz := MK.at (by decide) qc0.1
theorem qid {M : Mac} [MK M] {a0 a1 : AV} {H : AHeap} {Q : AEnd → AHeap → Prop} (h : W M ⟨none, jg⟩ (qc1 0) true (FIN3 M [] Q) [(0, a0), (1, a1)] [] H) : CALLE M jg [a0, a1] H Q :=
  calle qhv (ks := qcz) (by kernel_rfl) (by rw [qc0.2]; exact h)
def j3 : AFunc := funcAt Tryd.prog x1
def qa3 : Kp := ⟨[0, 1, 4, 5, 6, 7, 9], false, [0, 2, 6, 14, 18, 24, 28, 38, 42]⟩
def qf (k : Nat) : Kp × ACode := (qa3, part j3.body k)
theorem jy (M : Mac) (c : Ctx) : (∀ Q E D H, W M c (qf 0) true Q E D H =
  W M c (qf 2) true Q ((4, (.str []))::E) D H) ∧
 (∀ Q E D H, W M c (qf 2) true Q E D H =
  LK true (lk E 1) fun g t1 => B3 g ((Op.bin .eql) [t1, (.int .i64 10)]) fun g t11 => IF3 g t11 (fun g => W M c (qf 6) g (SEQ3 (W M c (qf 42)) Q) E D H) (fun g => GO3 g (SEQ3 (W M c (qf 42)) Q) .normal E D H)) ∧
 (∀ Q E D H, W M c (qf 42) true Q E D H =
  LK true (lk E 0) fun g t0 => B3 g ((Op.wrap .u64) [t0]) fun g t46 => LK g (lk E 1) fun g t1 => B3 g ((Op.bin .lss) [t0, (.int .i64 0)]) fun g t49 => C3 M g (.func qag) [.nils, t46, t1, t49, (.bool false)] H fun g t50 H1 => B3 g ((Op.extract 0) [t50]) fun g t51 => B3 g ((Op.extract 1) [t50]) fun g t52 => GO3 g Q .ret ((4, t52)::(9, t52)::E) D H1) ∧
 (∀ Q E D H, W M c (qf 6) true Q E D H =
  LK true (lk E 0) fun g t0 => B3 g ((Op.bin .leq) [(.int .i64 0), t0]) fun g t13 => JN (fun (k : Bool → AV → AV → AHeap → Prop) => B3 g (wantV true (some t13)) fun g w => IG3 g w (fun g => B3 g ((Op.bin .lss) [t0, (.int .i64 100)]) fun g t16 => k g t16 t0 H) (fun g => k g uu uu H)) (fun g t16_1 t15_1 H1 => B3 g (Op.pick [t13, t16_1, (.bool false)]) fun g t17 => IF3 g t17 (fun g => LK g (lk E 0) fun g t0_1 => C3 M g (.func x5) [t0_1] H1 fun g t19 H2 => GO3 g (SEQ3 (W M c (qf 14)) Q) .ret ((4, t19)::E) D H2) (fun g => GO3 g (SEQ3 (W M c (qf 14)) Q) .normal E D H1))) ∧
 (∀ Q E D H, W M c (qf 14) true Q E D H =
  A3 true T__97 (List.replicate 24 (.int .u8 0)) H fun g t5 H1 => LK g (lk E 0) fun g t0 => B3 g ((Op.wrap .u64) [t0]) fun g t21 => W M c (qf 18) g Q ((6, t21)::(5, t5)::E) D H1) ∧
 (∀ Q E D H, W M c (qf 18) true Q E D H =
  LK true (lk E 0) fun g t0 => B3 g ((Op.bin .lss) [t0, (.int .i64 0)]) fun g t23 => IF3 g t23 (fun g => LK g (lk E 6) fun g t6 => B3 g ((Op.un .neg) [t6]) fun g t25 => GO3 g (SEQ3 (W M c (qf 24)) Q) .normal ((6, t25)::E) D H) (fun g => GO3 g (SEQ3 (W M c (qf 24)) Q) .normal E D H)) ∧
 (∀ Q E D H, W M c (qf 24) true Q E D H =
  LK true (lk E 6) fun g t6 => C3 M g (.func xp) [t6] H fun g t27 H1 => B3 g ((Op.bin .add) [(.int .i64 1), t27]) fun g t29 => LK g (lk E 5) fun g t5 => B3 g ((Op.sliceArr 24 1 [(some 0), (some 1), none]) [t5, (.int .i64 1), t29]) fun g t30 => LK g (lk E 6) fun g t6_1 => C3 M g (.func qw) [t30, t6_1] H1 fun g t32 H2 => W M c (qf 28) g Q ((7, t27)::E) D H2) ∧
 (∀ Q E D H, W M c (qf 28) true Q E D H =
  LK true (lk E 0) fun g t0 => B3 g ((Op.bin .lss) [t0, (.int .i64 0)]) fun g t34 => IF3 g t34 (fun g => LK g (lk E 5) fun g t5 => B3 g ((Op.indexArr 24 1) [t5, (.int .i64 0)]) fun g t35 => B32 g ((Op.store 1) [t35, (.int .u8 45)] H) fun g u H1 => LK g (lk E 7) fun g t7 => B3 g ((Op.bin .add) [(.int .i64 1), t7]) fun g t37 => LK g (lk E 5) fun g t5_1 => B3 g ((Op.sliceArr 24 1 [none, (some 0), none]) [t5_1, t37]) fun g t38 => B3 g (Op.strOfBytes [t38] H1) fun g t39 => GO3 g (SEQ3 (W M c (qf 38)) Q) .ret ((4, t39)::E) D H1) (fun g => GO3 g (SEQ3 (W M c (qf 38)) Q) .normal E D H)) ∧
 (∀ Q E D H, W M c (qf 38) true Q E D H =
  LK true (lk E 7) fun g t7 => B3 g ((Op.bin .add) [(.int .i64 1), t7]) fun g t41 => LK g (lk E 5) fun g t5 => B3 g ((Op.sliceArr 24 1 [(some 0), (some 1), none]) [t5, (.int .i64 1), t41]) fun g t42 => B3 g (Op.strOfBytes [t42] H) fun g t43 => GO3 g Q .ret ((4, t43)::E) D H) := by (repeat' apply And.intro) <;> (intro _ _ _ _; refine W_unf ?_; kernel_rfl)
theorem qaz : (cProg Tryd.prog).func x1 = some j3 ∧ j3.results = [.tmp 4] := qt (by kernel_rfl)
theorem qd1 {M : Mac} [MK M] : M.func x1 = some j3 := MK.at (by decide) qaz.1
theorem qe2 {M : Mac} [MK M] {a0 a1 : AV} {H : AHeap} {Q : AEnd → AHeap → Prop} (h : W M ⟨none, x1⟩ (qf 0) true (FIN3 M [.tmp 4] Q) [(0, a0), (1, a1)] [] H) : CALLE M x1 [a0, a1] H Q :=
  calle qd1 (ks := qa3) (by kernel_rfl) (by rw [qaz.2]; exact h)
def ky : AFunc := funcAt Tryd.prog x5
def qb5 : Kp := ⟨[0, 2], false, [0, 2, 10]⟩
def zh (k : Nat) : Kp × ACode := (qb5, part ky.body k)
theorem qb4 (M : Mac) (c : Ctx) : (∀ Q E D H, W M c (zh 0) true Q E D H =
  W M c (zh 2) true Q ((2, (.str []))::E) D H) ∧
 (∀ Q E D H, W M c (zh 2) true Q E D H =
  LK true (lk E 0) fun g t0 => B3 g ((Op.bin .lss) [t0, (.int .i64 10)]) fun g t4 => IF3 g t4 (fun g => LK g (lk E 0) fun g t0_1 => B3 g ((Op.bin .add) [t0_1, (.int .i64 1)]) fun g t7 => B3 g ((Op.sliceStr [(some 0), (some 1)]) [(.str qo9), t0_1, t7]) fun g t8 => GO3 g (SEQ3 (W M c (zh 10)) Q) .ret ((2, t8)::E) D H) (fun g => GO3 g (SEQ3 (W M c (zh 10)) Q) .normal E D H)) ∧
 (∀ Q E D H, W M c (zh 10) true Q E D H =
  LK true (lk E 0) fun g t0 => B3 g ((Op.bin .mul) [t0, (.int .i64 2)]) fun g t10 => B3 g ((Op.bin .mul) [t0, (.int .i64 2)]) fun g t12 => B3 g ((Op.bin .add) [t12, (.int .i64 2)]) fun g t13 => B3 g ((Op.sliceStr [(some 0), (some 1)]) [(.str z9), t10, t13]) fun g t14 => GO3 g Q .ret ((2, t14)::E) D H) := by (repeat' apply And.intro) <;> (intro _ _ _ _; refine W_unf ?_; kernel_rfl)
theorem qb6 : (cProg Tryd.prog).func x5 = some ky ∧ ky.results = [.tmp 2] := qt (by kernel_rfl)
theorem qgd {M : Mac} [MK M] : M.func x5 = some ky := MK.at (by decide) qb6.1
theorem qhb {M : Mac} [MK M] {a0 : AV} {H : AHeap} {Q : AEnd → AHeap → Prop} (h : W M ⟨none, x5⟩ (zh 0) true (FIN3 M [.tmp 2] Q) [(0, a0)] [] H) : CALLE M x5 [a0] H Q :=
  calle qgd (ks := qb5) (by kernel_rfl) (by rw [qb6.2]; exact h)
def jx : AFunc := funcAt Tryd.prog xp
def qas : Kp := ⟨[0, 2, 3], false, [0]⟩
def qau (k : Nat) : Kp × ACode := (qas, part jx.body k)
theorem zp (M : Mac) (c : Ctx) : (∀ Q E D H, W M c (qau 0) true Q E D H =
  LK true (lk E 0) fun g t0 => C3 M g (.func jt) [t0] H fun g t5 H1 => C3 M g (.func xy) [t5] H1 fun g t6 H2 => LK g (lk E 0) fun g t0_1 => B3 g ((Op.indexArr 20 1) [(.ptr xg 0), t6]) fun g t10 => B3 g (Op.load1 [t10] H2) fun g t11 => B3 g ((Op.bin .geq) [t0_1, t11]) fun g t12 => C3 M g (.func xz) [t12] H2 fun g t13 H3 => B3 g ((Op.bin .add) [t6, t13]) fun g t14 => GO3 g Q .ret ((2, t14)::(3, t6)::(2, (.int .i64 0))::E) D H3) := by intro _ _ _ _; refine W_unf ?_; kernel_rfl
theorem qa2 : (cProg Tryd.prog).func xp = some jx ∧ jx.results = [.tmp 2] := qt (by kernel_rfl)
theorem qd3 {M : Mac} [MK M] : M.func xp = some jx := MK.at (by decide) qa2.1
theorem qe0 {M : Mac} [MK M] {a0 : AV} {H : AHeap} {Q : AEnd → AHeap → Prop} (h : W M ⟨none, xp⟩ (qau 0) true (FIN3 M [.tmp 2] Q) [(0, a0)] [] H) : CALLE M xp [a0] H Q :=
  calle qd3 (ks := qas) (by kernel_rfl) (by rw [qa2.2]; exact h)
def z5 : AFunc := funcAt Tryd.prog qw
def wh : Kp := ⟨[0, 1, 4, 5, 6, 7, 8, 9, 10, 11, 12, 13, 14, 15, 16], false, [0, 2, 5, 11, 16, 20, 24, 31, 33, 39, 43, 49, 61]⟩
def qe (k : Nat) : Kp × ACode := (wh, part z5.body k)
theorem xh (M : Mac) (c : Ctx) : (∀ Q E D H, W M c (qe 0) true Q E D H =
  LK true (lk E 0) fun g t0 => B3 g (Op.lenSl [t0]) fun g t18 => W M c (qe 2) g Q ((4, t18)::E) D H) ∧
 (∀ Q E D H, W M c (qe 2) true Q E D H =
  LOOP3 (W M c (qe 5)) (BLK3 0 (SEQ3 (W M c (qe 31)) Q)) E D H) ∧
 (∀ Q E D H, W M c (qe 31) true Q E D H =
  LK true (lk E 1) fun g t1 => B3 g ((Op.wrap .u32) [t1]) fun g t97 => W M c (qe 33) g Q ((12, t97)::E) D H) ∧
 (∀ Q E D H, W M c (qe 5) true Q E D H =
  LK true (lk E 4) fun g t4 => B3 g ((Op.bin .geq) [t4, (.int .i64 8)]) fun g t20 => IF3 g t20 (fun g => GO3 g (SEQ3 (W M c (qe 11)) Q) .normal E D H) (fun g => GO3 g (SEQ3 (W M c (qe 11)) Q) (.exit 0) E D H)) ∧
 (∀ Q E D H, W M c (qe 33) true Q E D H =
  LK true (lk E 4) fun g t4 => B3 g ((Op.bin .geq) [t4, (.int .i64 4)]) fun g t99 => IF3 g t99 (fun g => LK g (lk E 12) fun g t12 => B3 g ((Op.bin .rem) [t12, (.int .u32 10000)]) fun g t101 => W M c (qe 39) g (SEQ3 (W M c (qe 49)) Q) ((13, t101)::E) D H) (fun g => GO3 g (SEQ3 (W M c (qe 49)) Q) .normal E D H)) ∧
 (∀ Q E D H, W M c (qe 11) true Q E D H =
  LK true (lk E 1) fun g t1 => B3 g ((Op.bin .rem) [t1, (.int .u64 100000000)]) fun g t22 => B3 g ((Op.wrap .u32) [t22]) fun g t23 => LK g (lk E 1) fun g t1_1 => B3 g ((Op.bin .quo) [t1_1, (.int .u64 100000000)]) fun g t25 => W M c (qe 16) g (BLK3 1 Q) ((1, t25)::(5, t23)::E) D H) ∧
 (∀ Q E D H, W M c (qe 49) true Q E D H =
  LK true (lk E 4) fun g t4 => B3 g ((Op.bin .geq) [t4, (.int .i64 2)]) fun g t139 => IF3 g t139 (fun g => LK g (lk E 12) fun g t12 => B3 g ((Op.bin .rem) [t12, (.int .u32 100)]) fun g t141 => B3 g ((Op.bin .mul) [t141, (.int .u32 2)]) fun g t142 => LK g (lk E 12) fun g t12_1 => B3 g ((Op.bin .quo) [t12_1, (.int .u32 100)]) fun g t144 => LK g (lk E 0) fun g t0 => LK g (lk E 4) fun g t4_1 => B3 g ((Op.bin .sub) [t4_1, (.int .i64 1)]) fun g t147 => B3 g ((Op.bin .sub) [t4_1, (.int .i64 2)]) fun g t150 => B3 g ((Op.bin .add) [t142, (.int .u32 1)]) fun g t152 => B3 g (Op.indexStr [(.str z9), t152]) fun g t153 => B3 g (Op.indexStr [(.str z9), t142]) fun g t155 => B3 g ((Op.indexSl 1) [t0, t147]) fun g t156 => B32 g ((Op.store 1) [t156, t153] H) fun g u H1 => B3 g ((Op.indexSl 1) [t0, t150]) fun g t157 => B32 g ((Op.store 1) [t157, t155] H1) fun g u_1 H2 => LK g (lk E 4) fun g t4_2 => B3 g ((Op.bin .sub) [t4_2, (.int .i64 2)]) fun g t159 => GO3 g (SEQ3 (W M c (qe 61)) Q) .normal ((4, t159)::(12, t144)::(16, t142)::E) D H2) (fun g => GO3 g (SEQ3 (W M c (qe 61)) Q) .normal E D H)) ∧
 (∀ Q E D H, W M c (qe 39) true Q E D H =
  LK true (lk E 12) fun g t12 => B3 g ((Op.bin .quo) [t12, (.int .u32 10000)]) fun g t103 => LK g (lk E 13) fun g t13 => B3 g ((Op.bin .quo) [t13, (.int .u32 100)]) fun g t105 => B3 g ((Op.bin .mul) [t105, (.int .u32 2)]) fun g t106 => B3 g ((Op.bin .rem) [t13, (.int .u32 100)]) fun g t108 => B3 g ((Op.bin .mul) [t108, (.int .u32 2)]) fun g t109 => W M c (qe 43) g Q ((15, t109)::(14, t106)::(12, t103)::E) D H) ∧
 (∀ Q E D H, W M c (qe 16) true Q E D H =
  LK true (lk E 5) fun g t5 => B3 g ((Op.bin .quo) [t5, (.int .u32 10000)]) fun g t27 => B3 g ((Op.bin .rem) [t5, (.int .u32 10000)]) fun g t29 => B3 g ((Op.bin .quo) [t29, (.int .u32 100)]) fun g t31 => B3 g ((Op.bin .mul) [t31, (.int .u32 2)]) fun g t32 => B3 g ((Op.bin .rem) [t29, (.int .u32 100)]) fun g t34 => B3 g ((Op.bin .mul) [t34, (.int .u32 2)]) fun g t35 => W M c (qe 20) g Q ((9, t35)::(8, t32)::(7, t29)::(6, t27)::E) D H) ∧
 (∀ Q E D H, W M c (qe 61) true Q E D H =
  LK true (lk E 4) fun g t4 => B3 g ((Op.bin .gtr) [t4, (.int .i64 0)]) fun g t161 => IF3 g t161 (fun g => LK g (lk E 0) fun g t0 => LK g (lk E 12) fun g t12 => B3 g ((Op.bin .add) [(.int .u32 48), t12]) fun g t164 => B3 g ((Op.wrap .u8) [t164]) fun g t165 => B3 g ((Op.indexSl 1) [t0, (.int .i64 0)]) fun g t166 => B32 g ((Op.store 1) [t166, t165] H) fun g u H1 => GO3 g Q .normal E D H1) (fun g => GO3 g Q .normal E D H)) ∧
 (∀ Q E D H, W M c (qe 43) true Q E D H =
  LK true (lk E 0) fun g t0 => LK g (lk E 4) fun g t4 => B3 g ((Op.bin .sub) [t4, (.int .i64 1)]) fun g t112 => B3 g ((Op.bin .sub) [t4, (.int .i64 2)]) fun g t115 => LK g (lk E 15) fun g t15 => B3 g ((Op.bin .add) [t15, (.int .u32 1)]) fun g t117 => B3 g (Op.indexStr [(.str z9), t117]) fun g t118 => B3 g (Op.indexStr [(.str z9), t15]) fun g t120 => B3 g ((Op.indexSl 1) [t0, t112]) fun g t121 => B32 g ((Op.store 1) [t121, t118] H) fun g u H1 => B3 g ((Op.indexSl 1) [t0, t115]) fun g t122 => B32 g ((Op.store 1) [t122, t120] H1) fun g u_1 H2 => LK g (lk E 0) fun g t0_1 => LK g (lk E 4) fun g t4_1 => B3 g ((Op.bin .sub) [t4_1, (.int .i64 3)]) fun g t125 => B3 g ((Op.bin .sub) [t4_1, (.int .i64 4)]) fun g t128 => LK g (lk E 14) fun g t14 => B3 g ((Op.bin .add) [t14, (.int .u32 1)]) fun g t130 => B3 g (Op.indexStr [(.str z9), t130]) fun g t131 => B3 g (Op.indexStr [(.str z9), t14]) fun g t133 => B3 g ((Op.indexSl 1) [t0_1, t125]) fun g t134 => B32 g ((Op.store 1) [t134, t131] H2) fun g u_2 H3 => B3 g ((Op.indexSl 1) [t0_1, t128]) fun g t135 => B32 g ((Op.store 1) [t135, t133] H3) fun g u_3 H4 => LK g (lk E 4) fun g t4_2 => B3 g ((Op.bin .sub) [t4_2, (.int .i64 4)]) fun g t137 => GO3 g Q .normal ((4, t137)::E) D H4) ∧
 (∀ Q E D H, W M c (qe 20) true Q E D H =
  LK true (lk E 6) fun g t6 => B3 g ((Op.bin .quo) [t6, (.int .u32 100)]) fun g t37 => B3 g ((Op.bin .mul) [t37, (.int .u32 2)]) fun g t38 => B3 g ((Op.bin .rem) [t6, (.int .u32 100)]) fun g t40 => B3 g ((Op.bin .mul) [t40, (.int .u32 2)]) fun g t41 => LK g (lk E 0) fun g t0 => LK g (lk E 4) fun g t4 => B3 g ((Op.bin .sub) [t4, (.int .i64 1)]) fun g t44 => B3 g ((Op.bin .sub) [t4, (.int .i64 2)]) fun g t47 => LK g (lk E 9) fun g t9 => B3 g ((Op.bin .add) [t9, (.int .u32 1)]) fun g t49 => B3 g (Op.indexStr [(.str z9), t49]) fun g t50 => B3 g (Op.indexStr [(.str z9), t9]) fun g t52 => B3 g ((Op.indexSl 1) [t0, t44]) fun g t53 => B32 g ((Op.store 1) [t53, t50] H) fun g u H1 => B3 g ((Op.indexSl 1) [t0, t47]) fun g t54 => B32 g ((Op.store 1) [t54, t52] H1) fun g u_1 H2 => W M c (qe 24) g Q ((11, t41)::(10, t38)::E) D H2) ∧
 (∀ Q E D H, W M c (qe 24) true Q E D H =
  LK true (lk E 0) fun g t0 => LK g (lk E 4) fun g t4 => B3 g ((Op.bin .sub) [t4, (.int .i64 3)]) fun g t57 => B3 g ((Op.bin .sub) [t4, (.int .i64 4)]) fun g t60 => LK g (lk E 8) fun g t8 => B3 g ((Op.bin .add) [t8, (.int .u32 1)]) fun g t62 => B3 g (Op.indexStr [(.str z9), t62]) fun g t63 => B3 g (Op.indexStr [(.str z9), t8]) fun g t65 => B3 g ((Op.indexSl 1) [t0, t57]) fun g t66 => B32 g ((Op.store 1) [t66, t63] H) fun g u H1 => B3 g ((Op.indexSl 1) [t0, t60]) fun g t67 => B32 g ((Op.store 1) [t67, t65] H1) fun g u_1 H2 => LK g (lk E 0) fun g t0_1 => LK g (lk E 4) fun g t4_1 => B3 g ((Op.bin .sub) [t4_1, (.int .i64 5)]) fun g t70 => B3 g ((Op.bin .sub) [t4_1, (.int .i64 6)]) fun g t73 => LK g (lk E 11) fun g t11 => B3 g ((Op.bin .add) [t11, (.int .u32 1)]) fun g t75 => B3 g (Op.indexStr [(.str z9), t75]) fun g t76 => B3 g (Op.indexStr [(.str z9), t11]) fun g t78 => B3 g ((Op.indexSl 1) [t0_1, t70]) fun g t79 => B32 g ((Op.store 1) [t79, t76] H2) fun g u_2 H3 => B3 g ((Op.indexSl 1) [t0_1, t73]) fun g t80 => B32 g ((Op.store 1) [t80, t78] H3) fun g u_3 H4 => LK g (lk E 0) fun g t0_2 => LK g (lk E 4) fun g t4_2 => B3 g ((Op.bin .sub) [t4_2, (.int .i64 7)]) fun g t83 => B3 g ((Op.bin .sub) [t4_2, (.int .i64 8)]) fun g t86 => LK g (lk E 10) fun g t10 => B3 g ((Op.bin .add) [t10, (.int .u32 1)]) fun g t88 => B3 g (Op.indexStr [(.str z9), t88]) fun g t89 => B3 g (Op.indexStr [(.str z9), t10]) fun g t91 => B3 g ((Op.indexSl 1) [t0_2, t83]) fun g t92 => B32 g ((Op.store 1) [t92, t89] H4) fun g u_4 H5 => B3 g ((Op.indexSl 1) [t0_2, t86]) fun g t93 => B32 g ((Op.store 1) [t93, t91] H5) fun g u_5 H6 => LK g (lk E 4) fun g t4_3 => B3 g ((Op.bin .sub) [t4_3, (.int .i64 8)]) fun g t95 => GO3 g Q .normal ((4, t95)::E) D H6) := by (repeat' apply And.intro) <;> (intro _ _ _ _; refine W_unf ?_; kernel_rfl)
theorem vy : (cProg Tryd.prog).func qw = some z5 ∧ z5.results = [] := qt (by kernel_rfl)
theorem qcx {M : Mac} [MK M] : M.func qw = some z5 := MK.at (by decide) vy.1
theorem qda {M : Mac} [MK M] {a0 a1 : AV} {H : AHeap} {Q : AEnd → AHeap → Prop} (h : W M ⟨none, qw⟩ (qe 0) true (FIN3 M [] Q) [(0, a0), (1, a1)] [] H) : CALLE M qw [a0, a1] H Q :=
  calle qcx (ks := wh) (by kernel_rfl) (by rw [vy.2]; exact h)
def jw : AFunc := funcAt Tryd.prog xy
def qa1 : Kp := ⟨[0, 2], false, [0]⟩
def qam (k : Nat) : Kp × ACode := (qa1, part jw.body k)
theorem qet (M : Mac) (c : Ctx) : (∀ Q E D H, W M c (qam 0) true Q E D H =
  LK true (lk E 0) fun g t0 => B3 g ((Op.bin .mul) [t0, (.int .i64 78913)]) fun g t4 => B3 g ((Op.bin .shr) [t4, (.int .u64 18)]) fun g t5 => GO3 g Q .ret ((2, t5)::(2, (.int .i64 0))::E) D H) := by intro _ _ _ _; refine W_unf ?_; kernel_rfl
theorem qar : (cProg Tryd.prog).func xy = some jw ∧ jw.results = [.tmp 2] := qt (by kernel_rfl)
theorem qdz {M : Mac} [MK M] : M.func xy = some jw := MK.at (by decide) qar.1
theorem qel {M : Mac} [MK M] {a0 : AV} {H : AHeap} {Q : AEnd → AHeap → Prop} (h : W M ⟨none, xy⟩ (qam 0) true (FIN3 M [.tmp 2] Q) [(0, a0)] [] H) : CALLE M xy [a0] H Q :=
  calle qdz (ks := qa1) (by kernel_rfl) (by rw [qar.2]; exact h)
def qbj : AFunc := funcAt Tryd.prog jt
def qg2 : Kp := ⟨[0, 2], false, [0, 2, 10, 18, 26]⟩
def xl (k : Nat) : Kp × ACode := (qg2, part qbj.body k)
theorem qbd (M : Mac) (c : Ctx) : (∀ Q E D H, W M c (xl 0) true Q E D H =
  W M c (xl 2) true Q ((2, (.int .i64 0))::E) D H) ∧
 (∀ Q E D H, W M c (xl 2) true Q E D H =
  LK true (lk E 0) fun g t0 => B3 g ((Op.bin .geq) [t0, (.int .u64 4294967296)]) fun g t4 => IF3 g t4 (fun g => LK g (lk E 0) fun g t0_1 => B3 g ((Op.bin .shr) [t0_1, (.int .u64 32)]) fun g t6 => GO3 g (SEQ3 (W M c (xl 10)) Q) .normal ((2, (.int .i64 32))::(0, t6)::E) D H) (fun g => GO3 g (SEQ3 (W M c (xl 10)) Q) .normal E D H)) ∧
 (∀ Q E D H, W M c (xl 10) true Q E D H =
  LK true (lk E 0) fun g t0 => B3 g ((Op.bin .geq) [t0, (.int .u64 65536)]) fun g t8 => IF3 g t8 (fun g => LK g (lk E 0) fun g t0_1 => B3 g ((Op.bin .shr) [t0_1, (.int .u64 16)]) fun g t10 => LK g (lk E 2) fun g t2 => B3 g ((Op.bin .add) [t2, (.int .i64 16)]) fun g t12 => GO3 g (SEQ3 (W M c (xl 18)) Q) .normal ((2, t12)::(0, t10)::E) D H) (fun g => GO3 g (SEQ3 (W M c (xl 18)) Q) .normal E D H)) ∧
 (∀ Q E D H, W M c (xl 18) true Q E D H =
  LK true (lk E 0) fun g t0 => B3 g ((Op.bin .geq) [t0, (.int .u64 256)]) fun g t14 => IF3 g t14 (fun g => LK g (lk E 0) fun g t0_1 => B3 g ((Op.bin .shr) [t0_1, (.int .u64 8)]) fun g t16 => LK g (lk E 2) fun g t2 => B3 g ((Op.bin .add) [t2, (.int .i64 8)]) fun g t18 => GO3 g (SEQ3 (W M c (xl 26)) Q) .normal ((2, t18)::(0, t16)::E) D H) (fun g => GO3 g (SEQ3 (W M c (xl 26)) Q) .normal E D H)) ∧
 (∀ Q E D H, W M c (xl 26) true Q E D H =
  LK true (lk E 2) fun g t2 => LK g (lk E 0) fun g t0 => B3 g ((Op.wrap .u8) [t0]) fun g t21 => B3 g (Op.indexStr [(.str qmj), t21]) fun g t22 => B3 g ((Op.wrap .i64) [t22]) fun g t23 => B3 g ((Op.bin .add) [t2, t23]) fun g t24 => GO3 g Q .ret ((2, t24)::E) D H) := by (repeat' apply And.intro) <;> (intro _ _ _ _; refine W_unf ?_; kernel_rfl)
theorem qgw : (cProg Tryd.prog).func jt = some qbj ∧ qbj.results = [.tmp 2] := qt (by kernel_rfl)
theorem qmf {M : Mac} [MK M] : M.func jt = some qbj := MK.at (by decide) qgw.1
theorem qm4 {M : Mac} [MK M] {a0 : AV} {H : AHeap} {Q : AEnd → AHeap → Prop} (h : W M ⟨none, jt⟩ (xl 0) true (FIN3 M [.tmp 2] Q) [(0, a0)] [] H) : CALLE M jt [a0] H Q :=
  calle qmf (ks := qg2) (by kernel_rfl) (by rw [qgw.2]; exact h)
def j2 : AFunc := funcAt Tryd.prog xz
def qa4 : Kp := ⟨[0, 2], false, [0, 2, 10]⟩
def xx (k : Nat) : Kp × ACode := (qa4, part j2.body k)
theorem qer (M : Mac) (c : Ctx) : (∀ Q E D H, W M c (xx 0) true Q E D H =
  W M c (xx 2) true Q ((2, (.int .i64 0))::E) D H) ∧
 (∀ Q E D H, W M c (xx 2) true Q E D H =
  LK true (lk E 0) fun g t0 => IF3 g t0 (fun g => GO3 g (SEQ3 (W M c (xx 10)) Q) .ret ((2, (.int .i64 1))::E) D H) (fun g => GO3 g (SEQ3 (W M c (xx 10)) Q) .normal E D H)) ∧
 (∀ Q E D H, W M c (xx 10) true Q E D H =
  GO3 true Q .ret ((2, (.int .i64 0))::E) D H) := by (repeat' apply And.intro) <;> (intro _ _ _ _; refine W_unf ?_; kernel_rfl)
theorem qao : (cProg Tryd.prog).func xz = some j2 ∧ j2.results = [.tmp 2] := qt (by kernel_rfl)
theorem qd4 {M : Mac} [MK M] : M.func xz = some j2 := MK.at (by decide) qao.1
theorem qe3 {M : Mac} [MK M] {a0 : AV} {H : AHeap} {Q : AEnd → AHeap → Prop} (h : W M ⟨none, xz⟩ (xx 0) true (FIN3 M [.tmp 2] Q) [(0, a0)] [] H) : CALLE M xz [a0] H Q :=
  calle qd4 (ks := qa4) (by kernel_rfl) (by rw [qao.2]; exact h)
end
end Go.Am
namespace Go.Am
abbrev kp : Nat := 10
abbrev jm : Nat := 24
abbrev vf : Nat := 12
abbrev kr : Nat := 32
abbrev yb : Nat := 23
abbrev j9 : Nat := 31
abbrev km : Nat := 50
abbrev wn : Nat := 49
abbrev yl : Nat := 60
abbrev wv : Nat := 26
abbrev yn : Nat := 33
abbrev qbc : Nat := 51
abbrev ww : Nat := 25
abbrev wx : Nat := 62
abbrev qc : Nat := 37
abbrev qbe : Nat := 1
abbrev kj : Nat := 0
noncomputable section
open Go.Proofs Go.Proofs.YtkfheegmlgfdoaaDoor
def qdb : AFunc := funcAt Tryd.prog kp
def qkf : Kp := ⟨[0, 2, 3], false, [0]⟩
def qj9 (k : Nat) : Kp × ACode := (qkf, part qdb.body k)
theorem qgg (M : Mac) (c : Ctx) : (∀ Q E D H, W M c (qj9 0) true Q E D H =
  LK true (lk E 0) fun g t0 => C3 M g (.func yb) [t0, (.fn (.func jm) [] [])] H fun g t5 H1 => B3 g ((Op.extract 0) [t5]) fun g t6 => B3 g ((Op.extract 1) [t5]) fun g t7 => GO3 g Q .ret ((3, t7)::(2, t6)::(3, (.int .i64 0))::(2, .nils)::E) D H1) := by intro _ _ _ _; refine W_unf ?_; kernel_rfl
theorem qj2 : (cProg Tryd.prog).func kp = some qdb ∧ qdb.results = [.tmp 2, .tmp 3] := qt (by kernel_rfl)
theorem qqr {M : Mac} [MK M] : M.func kp = some qdb := MK.at (by decide) qj2.1
theorem qrn {M : Mac} [MK M] {a0 : AV} {H : AHeap} {Q : AEnd → AHeap → Prop} (h : W M ⟨none, kp⟩ (qj9 0) true (FIN3 M [.tmp 2, .tmp 3] Q) [(0, a0)] [] H) : CALLE M kp [a0] H Q :=
  calle qqr (ks := qkf) (by kernel_rfl) (by rw [qj2.2]; exact h)
def qf3 : AFunc := funcAt Tryd.prog vf
def qnn : Kp := ⟨[0, 2, 3, 4, 5], false, [0]⟩
def qnj (k : Nat) : Kp × ACode := (qnn, part qf3.body k)
theorem qdv (M : Mac) (c : Ctx) : (∀ Q E D H, W M c (qnj 0) true Q E D H =
  LK true (lk E 0) fun g t0 => C3 M g (.func j9) [t0, (.fn (.func kr) [] [])] H fun g t8 H1 => B3 g ((Op.extract 0) [t8]) fun g t9 => B3 g ((Op.extract 1) [t8]) fun g t10 => C3 M g (.func j5) [t9, (.str [])] H1 fun g t12 H2 => GO3 g Q .ret ((3, t10)::(2, t12)::(5, t10)::(4, t9)::(3, (.int .i64 0))::(2, (.str []))::E) D H2) := by intro _ _ _ _; refine W_unf ?_; kernel_rfl
theorem qnq : (cProg Tryd.prog).func vf = some qf3 ∧ qf3.results = [.tmp 2, .tmp 3] := qt (by kernel_rfl)
theorem qt4 {M : Mac} [MK M] : M.func vf = some qf3 := MK.at (by decide) qnq.1
theorem qvp {M : Mac} [MK M] {a0 : AV} {H : AHeap} {Q : AEnd → AHeap → Prop} (h : W M ⟨none, vf⟩ (qnj 0) true (FIN3 M [.tmp 2, .tmp 3] Q) [(0, a0)] [] H) : CALLE M vf [a0] H Q :=
  calle qt4 (ks := qnn) (by kernel_rfl) (by rw [qnq.2]; exact h)
def qbp : AFunc := funcAt Tryd.prog yb
def qh5 : Kp := ⟨[0, 1, 4, 5, 6, 8, 9, 10, 11], false, [0, 4, 9, 15, 19, 27, 28, 29]⟩
def xi (k : Nat) : Kp × ACode := (qh5, part qbp.body k)
theorem yc (M : Mac) (c : Ctx) : (∀ Q E D H, W M c (xi 0) true Q E D H =
  W M c (xi 4) true Q ((6, .nils)::(5, (.int .i64 0))::(4, .nils)::E) D H) ∧
 (∀ Q E D H, W M c (xi 4) true Q E D H =
  LK true (lk E 0) fun g t0 => B3 g (Op.lenSl [t0]) fun g t10 => LOOP3 (W M c (xi 9)) (BLK3 0 (SEQ3 (W M c (xi 29)) Q)) ((11, (.int .i64 0))::(10, t10)::(9, t0)::E) D H) ∧
 (∀ Q E D H, W M c (xi 29) true Q E D H =
  LK true (lk E 6) fun g t6 => GO3 g Q .ret ((5, (.int .i64 0))::(4, t6)::E) D H) ∧
 (∀ Q E D H, W M c (xi 9) true Q E D H =
  LK true (lk E 11) fun g t11 => LK g (lk E 10) fun g t10 => B3 g ((Op.bin .lss) [t11, t10]) fun g t12 => IF3 g t12 (fun g => GO3 g (SEQ3 (W M c (xi 15)) Q) .normal E D H) (fun g => GO3 g (SEQ3 (W M c (xi 15)) Q) (.exit 0) E D H)) ∧
 (∀ Q E D H, W M c (xi 15) true Q E D H =
  LK true (lk E 9) fun g t9 => LK g (lk E 11) fun g t11 => B3 g ((Op.indexSl 9) [t9, t11]) fun g t13 => B3 g ((Op.loadN 9) [t13] H) fun g t14 => A3 g qc [(.int .i64 0), (.int .i64 0), (.int .i64 0), (.int .i64 0), (.int .i64 0), (.int .i64 0), (.int .i64 0), (.int .u64 0), (.int .i64 0)] H fun g t8 H1 => B32 g ((Op.store 9) [t8, t14] H1) fun g u H2 => W M c (xi 19) g (BLK3 1 (SEQ3 (W M c (xi 28)) Q)) ((8, t8)::E) D H2) ∧
 (∀ Q E D H, W M c (xi 28) true Q E D H =
  LK true (lk E 11) fun g t11 => B3 g ((Op.bin .add) [t11, (.int .i64 1)]) fun g t22 => GO3 g Q .normal ((11, t22)::E) D H) ∧
 (∀ Q E D H, W M c (xi 19) true Q E D H =
  LK true (lk E 8) fun g t8 => B3 g ((Op.loadN 9) [t8] H) fun g t15 => C3 M g (.func wn) [t15] H fun g t16 H1 => B3 g ((Op.un .not) [t16]) fun g t17 => IF3 g t17 (fun g => GO3 g (SEQ3 (W M c (xi 27)) Q) .ret ((5, (.int .i64 2))::(4, .nils)::E) D H1) (fun g => GO3 g (SEQ3 (W M c (xi 27)) Q) .normal E D H1)) ∧
 (∀ Q E D H, W M c (xi 27) true Q E D H =
  LK true (lk E 1) fun g t1 => LK g (lk E 6) fun g t6 => LK g (lk E 8) fun g t8 => B3 g ((Op.loadN 9) [t8] H) fun g t20 => V3 g [t1, t6, t20] fun g f vs => C3 M g f vs H fun g t21 H1 => GO3 g Q .normal ((6, t21)::E) D H1) := by (repeat' apply And.intro) <;> (intro _ _ _ _; refine W_unf ?_; kernel_rfl)
theorem qh8 : (cProg Tryd.prog).func yb = some qbp ∧ qbp.results = [.tmp 4, .tmp 5] := qt (by kernel_rfl)
theorem qmr {M : Mac} [MK M] : M.func yb = some qbp := MK.at (by decide) qh8.1
theorem qn4 {M : Mac} [MK M] {a0 a1 : AV} {H : AHeap} {Q : AEnd → AHeap → Prop} (h : W M ⟨none, yb⟩ (xi 0) true (FIN3 M [.tmp 4, .tmp 5] Q) [(0, a0), (1, a1)] [] H) : CALLE M yb [a0, a1] H Q :=
  calle qmr (ks := qh5) (by kernel_rfl) (by rw [qh8.2]; exact h)
def qbr : AFunc := funcAt Tryd.prog jm
def qh0 : Kp := ⟨[0, 1, 3, 4, 6, 7, 28, 29], false, [0, 4, 6, 11, 17, 23]⟩
def x9 (k : Nat) : Kp × ACode := (qh0, part qbr.body k)
theorem jo (M : Mac) (c : Ctx) : (∀ Q E D H, W M c (x9 0) true Q E D H =
  LK true (lk E 1) fun g t1 => A3 g qc (AV.cells t1) H fun g t3 H1 => LK g (lk E 0) fun g t0 => B3 g ((Op.fieldAddr 0) [t3]) fun g t10 => B3 g (Op.load1 [t10] H1) fun g t11 => B3 g ((Op.wrap .u8) [t11]) fun g t12 => B32 g ((Op.buildSlice zq 1 [(.int .u8 0)] [(0, 1)]) [t12]) fun g o2 k2 => B32 g ((Op.append zq 1 1) [t0, (k2 H1.next)] (H1.alloc o2)) fun g t14 H3 => W M c (x9 4) g Q ((0, t14)::(4, .nils)::(3, t3)::E) D H3) ∧
 (∀ Q E D H, W M c (x9 4) true Q E D H =
  LK true (lk E 0) fun g t0 => LK g (lk E 3) fun g t3 => B3 g ((Op.fieldAddr 2) [t3]) fun g t16 => B3 g (Op.load1 [t16] H) fun g t17 => B3 g ((Op.wrap .u64) [t17]) fun g t18 => B3 g ((Op.fieldAddr 1) [t3]) fun g t20 => B3 g (Op.load1 [t20] H) fun g t21 => B3 g ((Op.wrap .u64) [t21]) fun g t22 => C3 M g (.func ww) [t0, t18] H fun g t19 H1 => CK3 g (Op.load1 [t20] H1) (some t21) fun g => C3 M g (.func ww) [t19, t22] H1 fun g t23 H2 => W M c (x9 6) g Q ((0, t23)::E) D H2) ∧
 (∀ Q E D H, W M c (x9 6) true Q E D H =
  LK true (lk E 3) fun g t3 => B3 g ((Op.fieldAddr 0) [t3]) fun g t24 => B3 g (Op.load1 [t24] H) fun g t25 => B3 g ((Op.indexArr 9 1) [(.ptr kj 0), t25]) fun g t26 => B3 g (Op.load1 [t26] H) fun g t27 => B32 g (Op.rangeStr [t27]) fun g o1 k1 => LOOP3 (W M c (x9 11)) (BLK3 0 (SEQ3 (W M c (x9 23)) Q)) ((28, (k1 H.next))::E) D (H.alloc o1)) ∧
 (∀ Q E D H, W M c (x9 23) true Q E D H =
  LK true (lk E 0) fun g t0 => GO3 g Q .ret ((4, t0)::E) D H) ∧
 (∀ Q E D H, W M c (x9 11) true Q E D H =
  LK true (lk E 28) fun g t28 => B32 g (Op.nextStr [t28] H) fun g t29 H1 => B3 g ((Op.extract 0) [t29]) fun g t30 => IF3 g t30 (fun g => GO3 g (SEQ3 (W M c (x9 17)) Q) .normal ((29, t29)::E) D H1) (fun g => GO3 g (SEQ3 (W M c (x9 17)) Q) (.exit 0) ((29, t29)::E) D H1)) ∧
 (∀ Q E D H, W M c (x9 17) true Q E D H =
  LK true (lk E 29) fun g t29 => B3 g ((Op.extract 2) [t29]) fun g t31 => LK g (lk E 3) fun g t3 => B3 g ((Op.loadN 9) [t3] H) fun g t33 => C3 M g (.func wv) [t33, t31] H fun g t35 H1 => B3 g ((Op.extract 0) [t35]) fun g t36 => B3 g ((Op.extract 1) [t35]) fun g t37 => LK g (lk E 0) fun g t0 => C3 M g (.func ww) [t0, t36] H1 fun g t40 H2 => GO3 g (BLK3 1 Q) .normal ((0, t40)::(7, t36)::(6, t31)::E) D H2) := by (repeat' apply And.intro) <;> (intro _ _ _ _; refine W_unf ?_; kernel_rfl)
theorem qh1 : (cProg Tryd.prog).func jm = some qbr ∧ qbr.results = [.tmp 4] := qt (by kernel_rfl)
theorem qm1 {M : Mac} [MK M] : M.func jm = some qbr := MK.at (by decide) qh1.1
theorem qn9 {M : Mac} [MK M] {a0 a1 : AV} {H : AHeap} {Q : AEnd → AHeap → Prop} (h : W M ⟨none, jm⟩ (x9 0) true (FIN3 M [.tmp 4] Q) [(0, a0), (1, a1)] [] H) : CALLE M jm [a0, a1] H Q :=
  calle qm1 (ks := qh0) (by kernel_rfl) (by rw [qh1.2]; exact h)
def qat : AFunc := funcAt Tryd.prog j9
def qfx : Kp := ⟨[0, 1, 4, 5, 6, 8, 9, 10, 11], false, [0, 4, 9, 15, 19, 27, 28, 29]⟩
def qv (k : Nat) : Kp × ACode := (qfx, part qat.body k)
theorem kc (M : Mac) (c : Ctx) : (∀ Q E D H, W M c (qv 0) true Q E D H =
  W M c (qv 4) true Q ((6, .nils)::(5, (.int .i64 0))::(4, .nils)::E) D H) ∧
 (∀ Q E D H, W M c (qv 4) true Q E D H =
  LK true (lk E 0) fun g t0 => B3 g (Op.lenSl [t0]) fun g t10 => LOOP3 (W M c (qv 9)) (BLK3 0 (SEQ3 (W M c (qv 29)) Q)) ((11, (.int .i64 0))::(10, t10)::(9, t0)::E) D H) ∧
 (∀ Q E D H, W M c (qv 29) true Q E D H =
  LK true (lk E 6) fun g t6 => GO3 g Q .ret ((5, (.int .i64 0))::(4, t6)::E) D H) ∧
 (∀ Q E D H, W M c (qv 9) true Q E D H =
  LK true (lk E 11) fun g t11 => LK g (lk E 10) fun g t10 => B3 g ((Op.bin .lss) [t11, t10]) fun g t12 => IF3 g t12 (fun g => GO3 g (SEQ3 (W M c (qv 15)) Q) .normal E D H) (fun g => GO3 g (SEQ3 (W M c (qv 15)) Q) (.exit 0) E D H)) ∧
 (∀ Q E D H, W M c (qv 15) true Q E D H =
  LK true (lk E 9) fun g t9 => LK g (lk E 11) fun g t11 => B3 g ((Op.indexSl 9) [t9, t11]) fun g t13 => B3 g ((Op.loadN 9) [t13] H) fun g t14 => A3 g qc [(.int .i64 0), (.int .i64 0), (.int .i64 0), (.int .i64 0), (.int .i64 0), (.int .i64 0), (.int .i64 0), (.int .u64 0), (.int .i64 0)] H fun g t8 H1 => B32 g ((Op.store 9) [t8, t14] H1) fun g u H2 => W M c (qv 19) g (BLK3 1 (SEQ3 (W M c (qv 28)) Q)) ((8, t8)::E) D H2) ∧
 (∀ Q E D H, W M c (qv 28) true Q E D H =
  LK true (lk E 11) fun g t11 => B3 g ((Op.bin .add) [t11, (.int .i64 1)]) fun g t22 => GO3 g Q .normal ((11, t22)::E) D H) ∧
 (∀ Q E D H, W M c (qv 19) true Q E D H =
  LK true (lk E 8) fun g t8 => B3 g ((Op.loadN 9) [t8] H) fun g t15 => C3 M g (.func wn) [t15] H fun g t16 H1 => B3 g ((Op.un .not) [t16]) fun g t17 => IF3 g t17 (fun g => GO3 g (SEQ3 (W M c (qv 27)) Q) .ret ((5, (.int .i64 2))::(4, .nils)::E) D H1) (fun g => GO3 g (SEQ3 (W M c (qv 27)) Q) .normal E D H1)) ∧
 (∀ Q E D H, W M c (qv 27) true Q E D H =
  LK true (lk E 1) fun g t1 => LK g (lk E 6) fun g t6 => LK g (lk E 8) fun g t8 => B3 g ((Op.loadN 9) [t8] H) fun g t20 => V3 g [t1, t6, t20] fun g f vs => C3 M g f vs H fun g t21 H1 => GO3 g Q .normal ((6, t21)::E) D H1) := by (repeat' apply And.intro) <;> (intro _ _ _ _; refine W_unf ?_; kernel_rfl)
theorem qf7 : (cProg Tryd.prog).func j9 = some qat ∧ qat.results = [.tmp 4, .tmp 5] := qt (by kernel_rfl)
theorem qkw {M : Mac} [MK M] : M.func j9 = some qat := MK.at (by decide) qf7.1
theorem qmi {M : Mac} [MK M] {a0 a1 : AV} {H : AHeap} {Q : AEnd → AHeap → Prop} (h : W M ⟨none, j9⟩ (qv 0) true (FIN3 M [.tmp 4, .tmp 5] Q) [(0, a0), (1, a1)] [] H) : CALLE M j9 [a0, a1] H Q :=
  calle qkw (ks := qfx) (by kernel_rfl) (by rw [qf7.2]; exact h)
def qdh : AFunc := funcAt Tryd.prog kr
def qj6 : Kp := ⟨[0, 1, 3, 4], false, [0]⟩
def qkp (k : Nat) : Kp × ACode := (qj6, part qdh.body k)
theorem qgh (M : Mac) (c : Ctx) : (∀ Q E D H, W M c (qkp 0) true Q E D H =
  LK true (lk E 1) fun g t1 => A3 g qc (AV.cells t1) H fun g t3 H1 => LK g (lk E 0) fun g t0 => B3 g ((Op.loadN 9) [t3] H1) fun g t6 => C3 M g (.func yn) [t6] H1 fun g t7 H2 => B3 g ((Op.bin .add) [t7, (.str [10])]) fun g t8 => B32 g ((Op.buildSlice qp 1 [(.str [])] [(0, 1)]) [t8]) fun g o3 k3 => B32 g ((Op.append qp 1 16) [t0, (k3 H2.next)] (H2.alloc o3)) fun g t10 H4 => GO3 g Q .ret ((4, t10)::(4, .nils)::(3, t3)::E) D H4) := by intro _ _ _ _; refine W_unf ?_; kernel_rfl
theorem qko : (cProg Tryd.prog).func kr = some qdh ∧ qdh.results = [.tmp 4] := qt (by kernel_rfl)
theorem qqv {M : Mac} [MK M] : M.func kr = some qdh := MK.at (by decide) qko.1
theorem qrq {M : Mac} [MK M] {a0 a1 : AV} {H : AHeap} {Q : AEnd → AHeap → Prop} (h : W M ⟨none, kr⟩ (qkp 0) true (FIN3 M [.tmp 4] Q) [(0, a0), (1, a1)] [] H) : CALLE M kr [a0, a1] H Q :=
  calle qqv (ks := qj6) (by kernel_rfl) (by rw [qko.2]; exact h)
def qgb : AFunc := funcAt Tryd.prog wn
def qnb : Kp := ⟨[0, 1, 2, 3, 5, 6, 7, 44, 45], false, [0, 2, 10, 14, 19, 25, 30, 37]⟩
def zb (k : Nat) : Kp × ACode := (qnb, part qgb.body k)
theorem ju (M : Mac) (c : Ctx) : (∀ Q E D H, W M c (zb 0) true Q E D H =
  LK true (lk E 0) fun g t0 => A3 g qc (AV.cells t0) H fun g t1 H1 => W M c (zb 2) g Q ((2, (.bool false))::(1, t1)::E) D H1) ∧
 (∀ Q E D H, W M c (zb 2) true Q E D H =
  LK true (lk E 1) fun g t1 => B3 g ((Op.fieldAddr 0) [t1]) fun g t8 => B3 g (Op.load1 [t8] H) fun g t9 => B3 g ((Op.bin .lss) [t9, (.int .i64 1)]) fun g t10 => JN (fun (k : Bool → AV → AV → AV → AHeap → Prop) => B3 g (wantV false (some t10)) fun g w => IG3 g w (fun g => B3 g ((Op.fieldAddr 0) [t1]) fun g t12 => B3 g (Op.load1 [t12] H) fun g t13 => B3 g ((Op.bin .gtr) [t13, (.int .i64 8)]) fun g t14 => k g t14 t13 t12 H) (fun g => k g uu uu uu H)) (fun g t14_1 t13_1 t12_1 H1 => B3 g (Op.pick [t10, (.bool true), t14_1]) fun g t15 => JN (fun (k : Bool → AV → AV → AV → AHeap → Prop) => B3 g (wantV false (some t15)) fun g w => IG3 g w (fun g => B3 g ((Op.fieldAddr 2) [t1]) fun g t17 => B3 g (Op.load1 [t17] H1) fun g t18 => B3 g ((Op.bin .lss) [t18, (.int .i64 0)]) fun g t19 => k g t19 t18 t17 H1) (fun g => k g uu uu uu H1)) (fun g t19_1 t18_1 t17_1 H2 => B3 g (Op.pick [t15, (.bool true), t19_1]) fun g t20 => JN (fun (k : Bool → AV → AV → AV → AHeap → Prop) => B3 g (wantV false (some t20)) fun g w => IG3 g w (fun g => B3 g ((Op.fieldAddr 2) [t1]) fun g t22 => B3 g (Op.load1 [t22] H2) fun g t23 => B3 g ((Op.bin .geq) [t23, (.int .i64 4)]) fun g t24 => k g t24 t23 t22 H2) (fun g => k g uu uu uu H2)) (fun g t24_1 t23_1 t22_1 H3 => B3 g (Op.pick [t20, (.bool true), t24_1]) fun g t25 => JN (fun (k : Bool → AV → AV → AV → AHeap → Prop) => B3 g (wantV false (some t25)) fun g w => IG3 g w (fun g => B3 g ((Op.fieldAddr 1) [t1]) fun g t27 => B3 g (Op.load1 [t27] H3) fun g t28 => B3 g ((Op.bin .lss) [t28, (.int .i64 0)]) fun g t29 => k g t29 t28 t27 H3) (fun g => k g uu uu uu H3)) (fun g t29_1 t28_1 t27_1 H4 => B3 g (Op.pick [t25, (.bool true), t29_1]) fun g t30 => IF3 g t30 (fun g => GO3 g (SEQ3 (W M c (zb 10)) Q) .ret ((2, (.bool false))::E) D H4) (fun g => GO3 g (SEQ3 (W M c (zb 10)) Q) .normal E D H4)))))) ∧
 (∀ Q E D H, W M c (zb 10) true Q E D H =
  LK true (lk E 1) fun g t1 => B3 g ((Op.fieldAddr 0) [t1]) fun g t31 => B3 g (Op.load1 [t31] H) fun g t32 => C3 M g (.func yl) [t32] H fun g t33 H1 => A3 g qc [(.int .i64 0), (.int .i64 0), (.int .i64 0), (.int .i64 0), (.int .i64 0), (.int .i64 0), (.int .i64 0), (.int .u64 0), (.int .i64 0)] H1 fun g t3 H2 => B32 g ((Op.store 9) [t3, t33] H2) fun g u H3 => LK g (lk E 1) fun g t1_1 => B3 g ((Op.fieldAddr 2) [t1_1]) fun g t34 => B3 g (Op.load1 [t34] H3) fun g t35 => B3 g ((Op.fieldAddr 1) [t1_1]) fun g t36 => B3 g (Op.load1 [t36] H3) fun g t37 => B3 g ((Op.fieldAddr 2) [t3]) fun g t38 => B32 g ((Op.store 1) [t38, t35] H3) fun g u_1 H4 => CK3 g (Op.load1 [t36] H4) (some t37) fun g => B3 g ((Op.fieldAddr 1) [t3]) fun g t39 => B32 g ((Op.store 1) [t39, t37] H4) fun g u_2 H5 => W M c (zb 14) g Q ((3, t3)::E) D H5) ∧
 (∀ Q E D H, W M c (zb 14) true Q E D H =
  LK true (lk E 1) fun g t1 => B3 g ((Op.fieldAddr 0) [t1]) fun g t40 => B3 g (Op.load1 [t40] H) fun g t41 => B3 g ((Op.indexArr 9 1) [(.ptr kj 0), t41]) fun g t42 => B3 g (Op.load1 [t42] H) fun g t43 => B32 g (Op.rangeStr [t43]) fun g o1 k1 => LOOP3 (W M c (zb 19)) (BLK3 0 (SEQ3 (W M c (zb 37)) Q)) ((44, (k1 H.next))::E) D (H.alloc o1)) ∧
 (∀ Q E D H, W M c (zb 37) true Q E D H =
  LK true (lk E 3) fun g t3 => B3 g ((Op.loadN 9) [t3] H) fun g t62 => LK g (lk E 1) fun g t1 => B3 g ((Op.loadN 9) [t1] H) fun g t63 => B3 g ((Op.eq (.agg (.part 0 none .int (.part 1 none .int (.part 2 none .int (.part 3 none .int (.part 4 none .int (.part 5 none .int (.part 6 none .int (.part 7 none .int (.part 8 none .int .nil)))))))))) false) [t62, t63] H) fun g t64 => GO3 g Q .ret ((2, t64)::E) D H) ∧
 (∀ Q E D H, W M c (zb 19) true Q E D H =
  LK true (lk E 44) fun g t44 => B32 g (Op.nextStr [t44] H) fun g t45 H1 => B3 g ((Op.extract 0) [t45]) fun g t46 => IF3 g t46 (fun g => GO3 g (SEQ3 (W M c (zb 25)) Q) .normal ((45, t45)::E) D H1) (fun g => GO3 g (SEQ3 (W M c (zb 25)) Q) (.exit 0) ((45, t45)::E) D H1)) ∧
 (∀ Q E D H, W M c (zb 25) true Q E D H =
  LK true (lk E 45) fun g t45 => B3 g ((Op.extract 2) [t45]) fun g t47 => LK g (lk E 1) fun g t1 => B3 g ((Op.loadN 9) [t1] H) fun g t49 => C3 M g (.func wv) [t49, t47] H fun g t51 H1 => B3 g ((Op.extract 0) [t51]) fun g t52 => B3 g ((Op.extract 1) [t51]) fun g t53 => W M c (zb 30) g (BLK3 1 Q) ((7, t53)::(6, t52)::(5, t47)::E) D H1) ∧
 (∀ Q E D H, W M c (zb 30) true Q E D H =
  LK true (lk E 7) fun g t7 => B3 g ((Op.un .not) [t7]) fun g t55 => JN (fun (k : Bool → AV → AV → AV → AV → AHeap → Prop) => B3 g (wantV false (some t55)) fun g w => IG3 g w (fun g => LK g (lk E 5) fun g t5 => LK g (lk E 6) fun g t6 => LK g (lk E 3) fun g t3 => C3 M g (.func wx) [t3, t5, t6] H fun g t59 H1 => B3 g ((Op.un .not) [t59]) fun g t60 => k g t60 t59 t6 t5 H1) (fun g => k g uu uu uu uu H)) (fun g t60_1 t59_1 t58_1 t57_1 H2 => B3 g (Op.pick [t55, (.bool true), t60_1]) fun g t61 => IF3 g t61 (fun g => GO3 g Q .ret ((2, (.bool false))::E) D H2) (fun g => GO3 g Q .normal E D H2))) := by (repeat' apply And.intro) <;> (intro _ _ _ _; refine W_unf ?_; kernel_rfl)
theorem qns : (cProg Tryd.prog).func wn = some qgb ∧ qgb.results = [.tmp 2] := qt (by kernel_rfl)
theorem qui {M : Mac} [MK M] : M.func wn = some qgb := MK.at (by decide) qns.1
theorem qvn {M : Mac} [MK M] {a0 : AV} {H : AHeap} {Q : AEnd → AHeap → Prop} (h : W M ⟨none, wn⟩ (zb 0) true (FIN3 M [.tmp 2] Q) [(0, a0)] [] H) : CALLE M wn [a0] H Q :=
  calle qui (ks := qnb) (by kernel_rfl) (by rw [qns.2]; exact h)
def qhm : AFunc := funcAt Tryd.prog ww
def qqi : Kp := ⟨[0, 1, 4], false, [0, 2, 5, 11, 15]⟩
def yr (k : Nat) : Kp × ACode := (qqi, part qhm.body k)
theorem qc7 (M : Mac) (c : Ctx) : (∀ Q E D H, W M c (yr 0) true Q E D H =
  W M c (yr 2) true Q ((4, .nils)::E) D H) ∧
 (∀ Q E D H, W M c (yr 2) true Q E D H =
  LOOP3 (W M c (yr 5)) (BLK3 0 (SEQ3 (W M c (yr 15)) Q)) E D H) ∧
 (∀ Q E D H, W M c (yr 15) true Q E D H =
  LK true (lk E 0) fun g t0 => LK g (lk E 1) fun g t1 => B3 g ((Op.wrap .u8) [t1]) fun g t17 => B32 g ((Op.buildSlice zq 1 [(.int .u8 0)] [(0, 1)]) [t17]) fun g o1 k1 => B32 g ((Op.append zq 1 1) [t0, (k1 H.next)] (H.alloc o1)) fun g t19 H2 => GO3 g Q .ret ((4, t19)::E) D H2) ∧
 (∀ Q E D H, W M c (yr 5) true Q E D H =
  LK true (lk E 1) fun g t1 => B3 g ((Op.bin .geq) [t1, (.int .u64 128)]) fun g t6 => IF3 g t6 (fun g => GO3 g (SEQ3 (W M c (yr 11)) Q) .normal E D H) (fun g => GO3 g (SEQ3 (W M c (yr 11)) Q) (.exit 0) E D H)) ∧
 (∀ Q E D H, W M c (yr 11) true Q E D H =
  LK true (lk E 0) fun g t0 => LK g (lk E 1) fun g t1 => B3 g ((Op.wrap .u8) [t1]) fun g t9 => B3 g ((Op.bin .or) [t9, (.int .u8 128)]) fun g t10 => B32 g ((Op.buildSlice zq 1 [(.int .u8 0)] [(0, 1)]) [t10]) fun g o1 k1 => B32 g ((Op.append zq 1 1) [t0, (k1 H.next)] (H.alloc o1)) fun g t12 H2 => LK g (lk E 1) fun g t1_1 => B3 g ((Op.bin .shr) [t1_1, (.int .u64 7)]) fun g t14 => GO3 g (BLK3 1 Q) .normal ((1, t14)::(0, t12)::E) D H2) := by (repeat' apply And.intro) <;> (intro _ _ _ _; refine W_unf ?_; kernel_rfl)
theorem qpd : (cProg Tryd.prog).func ww = some qhm ∧ qhm.results = [.tmp 4] := qt (by kernel_rfl)
theorem qwk {M : Mac} [MK M] : M.func ww = some qhm := MK.at (by decide) qpd.1
theorem qw1 {M : Mac} [MK M] {a0 a1 : AV} {H : AHeap} {Q : AEnd → AHeap → Prop} (h : W M ⟨none, ww⟩ (yr 0) true (FIN3 M [.tmp 4] Q) [(0, a0), (1, a1)] [] H) : CALLE M ww [a0, a1] H Q :=
  calle qwk (ks := qqi) (by kernel_rfl) (by rw [qpd.2]; exact h)
def qhf : AFunc := funcAt Tryd.prog wv
def qoy : Kp := ⟨[0, 1, 2, 4, 5, 6, 7], false, [0, 2, 10]⟩
def qbt (k : Nat) : Kp × ACode := (qoy, part qhf.body k)
theorem qhp (M : Mac) (c : Ctx) : (∀ Q E D H, W M c (qbt 0) true Q E D H =
  LK true (lk E 0) fun g t0 => A3 g qc (AV.cells t0) H fun g t2 H1 => W M c (qbt 2) g Q ((5, (.bool false))::(4, (.int .u64 0))::(2, t2)::E) D H1) ∧
 (∀ Q E D H, W M c (qbt 2) true Q E D H =
  LK true (lk E 1) fun g t1 => B3 g ((Op.bin .eql) [t1, (.int .i32 118)]) fun g t9 => IF3 g t9 (fun g => LK g (lk E 2) fun g t2 => B3 g ((Op.fieldAddr 7) [t2]) fun g t10 => B3 g (Op.load1 [t10] H) fun g t11 => GO3 g (SEQ3 (W M c (qbt 10)) Q) .ret ((5, (.bool true))::(4, t11)::E) D H) (fun g => GO3 g (SEQ3 (W M c (qbt 10)) Q) .normal E D H)) ∧
 (∀ Q E D H, W M c (qbt 10) true Q E D H =
  LK true (lk E 1) fun g t1 => LK g (lk E 2) fun g t2 => C3 M g (.func km) [t2, t1] H fun g t14 H1 => B3 g ((Op.extract 0) [t14]) fun g t15 => B3 g ((Op.extract 1) [t14]) fun g t16 => B3 g (Op.nilCheck [t15]) fun g t18 => B3 g (Op.load1 [t18] H1) fun g t19 => B3 g ((Op.wrap .u64) [t19]) fun g t20 => B3 g (Op.nilCheck [t15]) fun g t22 => B3 g (Op.load1 [t22] H1) fun g t23 => C3 M g (.func qbc) [t23, t16] H1 fun g t25 H2 => CK3 g (Op.load1 [t18] H2) (some t19) fun g => GO3 g Q .ret ((5, t25)::(4, t20)::(7, t16)::(6, t15)::E) D H2) := by (repeat' apply And.intro) <;> (intro _ _ _ _; refine W_unf ?_; kernel_rfl)
theorem qow : (cProg Tryd.prog).func wv = some qhf ∧ qhf.results = [.tmp 4, .tmp 5] := qt (by kernel_rfl)
theorem qv0 {M : Mac} [MK M] : M.func wv = some qhf := MK.at (by decide) qow.1
theorem qx9 {M : Mac} [MK M] {a0 a1 : AV} {H : AHeap} {Q : AEnd → AHeap → Prop} (h : W M ⟨none, wv⟩ (qbt 0) true (FIN3 M [.tmp 4, .tmp 5] Q) [(0, a0), (1, a1)] [] H) : CALLE M wv [a0, a1] H Q :=
  calle qv0 (ks := qoy) (by kernel_rfl) (by rw [qow.2]; exact h)
def qgc : AFunc := funcAt Tryd.prog yn
def qne : Kp := ⟨[0, 1, 2, 3, 5, 6, 8, 10, 26, 27], false, [0, 4, 9, 15, 20, 22, 28, 34, 35]⟩
def xv (k : Nat) : Kp × ACode := (qne, part qgc.body k)
theorem ku (M : Mac) (c : Ctx) : (∀ Q E D H, W M c (xv 0) true Q E D H =
  LK true (lk E 0) fun g t0 => A3 g qc (AV.cells t0) H fun g t1 H1 => B3 g ((Op.fieldAddr 1) [t1]) fun g t11 => B3 g (Op.load1 [t11] H1) fun g t12 => B3 g ((Op.fieldAddr 2) [t1]) fun g t14 => B3 g (Op.load1 [t14] H1) fun g t15 => B3 g ((Op.fieldAddr 0) [t1]) fun g t17 => B3 g (Op.load1 [t17] H1) fun g t18 => B3 g ((Op.indexArr 9 1) [(.ptr qbe 0), t18]) fun g t19 => B3 g (Op.load1 [t19] H1) fun g t20 => C3 M g (.func kq) [t12] H1 fun g t13 H2 => CK3 g (Op.load1 [t14] H2) (some t15) fun g => CK3 g (Op.load1 [t17] H2) (some t18) fun g => CK3 g (Op.load1 [t19] H2) (some t20) fun g => C3 M g (.func kq) [t15] H2 fun g t16 H3 => CK3 g (Op.load1 [t17] H3) (some t18) fun g => CK3 g (Op.load1 [t19] H3) (some t20) fun g => B32 g ((Op.buildSlice qp 3 [(.str [])] [(0, 1), (1, 1), (2, 1)]) [t13, t16, t20]) fun g o4 k4 => W M c (xv 4) g Q ((3, (k4 H3.next))::(2, (.str []))::(1, t1)::E) D (H3.alloc o4)) ∧
 (∀ Q E D H, W M c (xv 4) true Q E D H =
  LK true (lk E 1) fun g t1 => B3 g ((Op.fieldAddr 0) [t1]) fun g t22 => B3 g (Op.load1 [t22] H) fun g t23 => B3 g ((Op.indexArr 9 1) [(.ptr kj 0), t23]) fun g t24 => B3 g (Op.load1 [t24] H) fun g t25 => B32 g (Op.rangeStr [t25]) fun g o1 k1 => LOOP3 (W M c (xv 9)) (BLK3 0 (SEQ3 (W M c (xv 35)) Q)) ((26, (k1 H.next))::E) D (H.alloc o1)) ∧
 (∀ Q E D H, W M c (xv 35) true Q E D H =
  LK true (lk E 3) fun g t3 => C3 M g (.func j5) [t3, (.str [32])] H fun g t57 H1 => GO3 g Q .ret ((2, t57)::E) D H1) ∧
 (∀ Q E D H, W M c (xv 9) true Q E D H =
  LK true (lk E 26) fun g t26 => B32 g (Op.nextStr [t26] H) fun g t27 H1 => B3 g ((Op.extract 0) [t27]) fun g t28 => IF3 g t28 (fun g => GO3 g (SEQ3 (W M c (xv 15)) Q) .normal ((27, t27)::E) D H1) (fun g => GO3 g (SEQ3 (W M c (xv 15)) Q) (.exit 0) ((27, t27)::E) D H1)) ∧
 (∀ Q E D H, W M c (xv 15) true Q E D H =
  LK true (lk E 27) fun g t27 => B3 g ((Op.extract 2) [t27]) fun g t29 => LK g (lk E 1) fun g t1 => B3 g ((Op.loadN 9) [t1] H) fun g t31 => C3 M g (.func wv) [t31, t29] H fun g t33 H1 => B3 g ((Op.extract 0) [t33]) fun g t34 => B3 g ((Op.extract 1) [t33]) fun g t35 => W M c (xv 20) g (BLK3 1 Q) ((6, t34)::(5, t29)::E) D H1) ∧
 (∀ Q E D H, W M c (xv 20) true Q E D H =
  LK true (lk E 6) fun g t6 => C3 M g (.func zd) [t6, (.int .i64 10)] H fun g t37 H1 => W M c (xv 22) g Q ((8, t37)::E) D H1) ∧
 (∀ Q E D H, W M c (xv 22) true Q E D H =
  LK true (lk E 5) fun g t5 => B3 g ((Op.bin .neq) [t5, (.int .i32 118)]) fun g t39 => IF3 g t39 (fun g => LK g (lk E 5) fun g t5_1 => LK g (lk E 1) fun g t1 => C3 M g (.func km) [t1, t5_1] H fun g t42 H1 => B3 g ((Op.extract 0) [t42]) fun g t43 => B3 g ((Op.extract 1) [t42]) fun g t44 => W M c (xv 28) g (SEQ3 (W M c (xv 34)) Q) ((10, t44)::E) D H1) (fun g => GO3 g (SEQ3 (W M c (xv 34)) Q) .normal E D H)) ∧
 (∀ Q E D H, W M c (xv 34) true Q E D H =
  LK true (lk E 3) fun g t3 => LK g (lk E 8) fun g t8 => B32 g ((Op.buildSlice qp 1 [(.str [])] [(0, 1)]) [t8]) fun g o1 k1 => B32 g ((Op.append qp 1 16) [t3, (k1 H.next)] (H.alloc o1)) fun g t55 H2 => GO3 g Q .normal ((3, t55)::E) D H2) ∧
 (∀ Q E D H, W M c (xv 28) true Q E D H =
  LK true (lk E 10) fun g t10 => B3 g (Op.lenSl [t10]) fun g t46 => B3 g ((Op.bin .gtr) [t46, (.int .i64 0)]) fun g t47 => IF3 g t47 (fun g => LK g (lk E 10) fun g t10_1 => LK g (lk E 6) fun g t6 => B3 g ((Op.indexSl 1) [t10_1, t6]) fun g t50 => B3 g (Op.load1 [t50] H) fun g t51 => GO3 g Q .normal ((8, t51)::E) D H) (fun g => GO3 g Q .normal E D H)) := by (repeat' apply And.intro) <;> (intro _ _ _ _; refine W_unf ?_; kernel_rfl)
theorem qnv : (cProg Tryd.prog).func yn = some qgc ∧ qgc.results = [.tmp 2] := qt (by kernel_rfl)
theorem qs5 {M : Mac} [MK M] : M.func yn = some qgc := MK.at (by decide) qnv.1
theorem qu9 {M : Mac} [MK M] {a0 : AV} {H : AHeap} {Q : AEnd → AHeap → Prop} (h : W M ⟨none, yn⟩ (xv 0) true (FIN3 M [.tmp 2] Q) [(0, a0)] [] H) : CALLE M yn [a0] H Q :=
  calle qs5 (ks := qne) (by kernel_rfl) (by rw [qnv.2]; exact h)
def qez : AFunc := funcAt Tryd.prog yl
def qlr : Kp := ⟨[0, 2, 3, 9], false, [0, 4, 10]⟩
def wo (k : Nat) : Kp × ACode := (qlr, part qez.body k)
theorem qls (M : Mac) (c : Ctx) : (∀ Q E D H, W M c (wo 0) true Q E D H =
  A3 true qc [(.int .i64 0), (.int .i64 0), (.int .i64 0), (.int .i64 0), (.int .i64 0), (.int .i64 0), (.int .i64 0), (.int .u64 0), (.int .i64 0)] H fun g t2 H1 => LK g (lk E 0) fun g t0 => B3 g ((Op.build [(.int .i64 0), (.int .i64 0), (.int .i64 0), (.int .i64 0), (.int .i64 0), (.int .i64 0), (.int .i64 0), (.int .u64 0), (.int .i64 0)] [(0, 1)]) [t0]) fun g t5 => A3 g qc [(.int .i64 0), (.int .i64 0), (.int .i64 0), (.int .i64 0), (.int .i64 0), (.int .i64 0), (.int .i64 0), (.int .u64 0), (.int .i64 0)] H1 fun g t3 H2 => B32 g ((Op.store 9) [t3, t5] H2) fun g u H3 => W M c (wo 4) g Q ((3, t3)::(2, t2)::E) D H3) ∧
 (∀ Q E D H, W M c (wo 4) true Q E D H =
  LK true (lk E 0) fun g t0 => B3 g ((Op.bin .geq) [t0, (.int .i64 7)]) fun g t7 => IF3 g t7 (fun g => LK g (lk E 3) fun g t3 => B3 g ((Op.fieldAddr 3) [t3]) fun g t8 => B32 g ((Op.store 1) [t8, (.int .i64 (-1))] H) fun g u H1 => GO3 g (SEQ3 (W M c (wo 10)) Q) .normal E D H1) (fun g => GO3 g (SEQ3 (W M c (wo 10)) Q) .normal E D H)) ∧
 (∀ Q E D H, W M c (wo 10) true Q E D H =
  LK true (lk E 3) fun g t3 => B3 g ((Op.loadN 9) [t3] H) fun g t9 => LK g (lk E 2) fun g t2 => B32 g ((Op.store 9) [t2, t9] H) fun g u H1 => GO3 g Q .ret ((9, t9)::E) D H1) := by (repeat' apply And.intro) <;> (intro _ _ _ _; refine W_unf ?_; kernel_rfl)
theorem qmc : (cProg Tryd.prog).func yl = some qez ∧ qez.results = [.cellN 9 2] := qt (by kernel_rfl)
theorem qq6 {M : Mac} [MK M] : M.func yl = some qez := MK.at (by decide) qmc.1
theorem qs2 {M : Mac} [MK M] {a0 : AV} {H : AHeap} {Q : AEnd → AHeap → Prop} (h : W M ⟨none, yl⟩ (wo 0) true (FIN3 M [.cellN 9 2] Q) [(0, a0)] [] H) : CALLE M yl [a0] H Q :=
  calle qq6 (ks := qlr) (by kernel_rfl) (by rw [qmc.2]; exact h)
def qhh : AFunc := funcAt Tryd.prog wx
def qou : Kp := ⟨[0, 1, 2, 6, 7, 8], false, [0, 2, 12]⟩
def qbu (k : Nat) : Kp × ACode := (qou, part qhh.body k)
theorem qc6 (M : Mac) (c : Ctx) : (∀ Q E D H, W M c (qbu 0) true Q E D H =
  W M c (qbu 2) true Q ((6, (.bool false))::E) D H) ∧
 (∀ Q E D H, W M c (qbu 2) true Q E D H =
  LK true (lk E 1) fun g t1 => B3 g ((Op.bin .eql) [t1, (.int .i32 118)]) fun g t10 => IF3 g t10 (fun g => LK g (lk E 0) fun g t0 => LK g (lk E 2) fun g t2 => B3 g (Op.nilCheck [t0]) fun g t13 => B3 g ((Op.fieldAddr 7) [t13]) fun g t14 => B32 g ((Op.store 1) [t14, t2] H) fun g u H1 => GO3 g (SEQ3 (W M c (qbu 12)) Q) .ret ((6, (.bool true))::E) D H1) (fun g => GO3 g (SEQ3 (W M c (qbu 12)) Q) .normal E D H)) ∧
 (∀ Q E D H, W M c (qbu 12) true Q E D H =
  LK true (lk E 0) fun g t0 => LK g (lk E 1) fun g t1 => C3 M g (.func km) [t0, t1] H fun g t18 H1 => B3 g ((Op.extract 0) [t18]) fun g t19 => B3 g ((Op.extract 1) [t18]) fun g t20 => LK g (lk E 2) fun g t2 => B3 g ((Op.wrap .i64) [t2]) fun g t23 => B3 g (Op.nilCheck [t19]) fun g t24 => B32 g ((Op.store 1) [t24, t23] H1) fun g u H2 => LK g (lk E 2) fun g t2_1 => B3 g ((Op.bin .leq) [t2_1, (.int .u64 9223372036854775807)]) fun g t26 => JN (fun (k : Bool → AV → AV → AV → AV → AV → AHeap → Prop) => B3 g (wantV true (some t26)) fun g w => IG3 g w (fun g => B3 g (Op.nilCheck [t19]) fun g t29 => B3 g (Op.load1 [t29] H2) fun g t30 => C3 M g (.func qbc) [t30, t20] H2 fun g t32 H3 => k g t32 t20 t30 t29 t19 H3) (fun g => k g uu uu uu uu uu H2)) (fun g t32_1 t31_1 t30_1 t29_1 t28_1 H4 => B3 g (Op.pick [t26, t32_1, (.bool false)]) fun g t33 => GO3 g Q .ret ((6, t33)::(8, t20)::(7, t19)::E) D H4)) := by (repeat' apply And.intro) <;> (intro _ _ _ _; refine W_unf ?_; kernel_rfl)
theorem qqy : (cProg Tryd.prog).func wx = some qhh ∧ qhh.results = [.tmp 6] := qt (by kernel_rfl)
theorem qvd {M : Mac} [MK M] : M.func wx = some qhh := MK.at (by decide) qqy.1
theorem qyd {M : Mac} [MK M] {a0 a1 a2 : AV} {H : AHeap} {Q : AEnd → AHeap → Prop} (h : W M ⟨none, wx⟩ (qbu 0) true (FIN3 M [.tmp 6] Q) [(0, a0), (1, a1), (2, a2)] [] H) : CALLE M wx [a0, a1, a2] H Q :=
  calle qvd (ks := qou) (by kernel_rfl) (by rw [qqy.2]; exact h)
def qew : AFunc := funcAt Tryd.prog km
def ql8 : Kp := ⟨[0, 1, 4, 5, 6], false, [0, 2, 18, 31]⟩
def kn (k : Nat) : Kp × ACode := (ql8, part qew.body k)
theorem qb8 (M : Mac) (c : Ctx) : (∀ Q E D H, W M c (kn 0) true Q E D H =
  W M c (kn 2) true Q ((5, .nils)::(4, .nilp)::E) D H) ∧
 (∀ Q E D H, W M c (kn 2) true Q E D H =
  LK true (lk E 1) fun g t1 => B3 g ((Op.bin .eql) [t1, (.int .i32 98)]) fun g t8 => IF3 g t8 (fun g => LK g (lk E 0) fun g t0 => B3 g (Op.nilCheck [t0]) fun g t10 => B3 g ((Op.fieldAddr 3) [t10]) fun g t11 => GO3 g (BLK3 0 (SEQ3 (W M c (kn 31)) Q)) .ret ((5, .nils)::(4, t11)::(6, t1)::E) D H) (fun g => B3 g ((Op.bin .eql) [t1, (.int .i32 116)]) fun g t13 => IF3 g t13 (fun g => LK g (lk E 0) fun g t0 => B3 g (Op.nilCheck [t0]) fun g t15 => B3 g ((Op.fieldAddr 4) [t15]) fun g t16 => GO3 g (BLK3 0 (SEQ3 (W M c (kn 31)) Q)) .ret ((5, .nils)::(4, t16)::(6, t1)::E) D H) (fun g => W M c (kn 18) g (BLK3 0 (SEQ3 (W M c (kn 31)) Q)) ((6, t1)::E) D H))) ∧
 (∀ Q E D H, W M c (kn 31) true Q E D H =
  LK true (lk E 0) fun g t0 => B3 g (Op.nilCheck [t0]) fun g t29 => B3 g ((Op.fieldAddr 8) [t29]) fun g t30 => B32 g ((Op.buildSlice qp 9 [(.str [])] [(0, 1), (1, 1), (2, 1), (3, 1), (4, 1), (5, 1), (6, 1), (7, 1), (8, 1)]) [(.str []), (.str [99, 111, 110, 102, 108, 105, 99, 116]), (.str [115, 117, 98]), (.str [99, 97, 112, 97, 99, 105, 116, 121]), (.str [101, 118, 105, 99, 116]), (.str [115, 112, 117, 114, 105, 111, 117, 115]), (.str [98, 117, 115, 121]), (.str [105, 108, 108, 101, 103, 97, 108]), (.str [115, 111, 102, 116])]) fun g o1 k1 => GO3 g Q .ret ((5, (k1 H.next))::(4, t30)::E) D (H.alloc o1)) ∧
 (∀ Q E D H, W M c (kn 18) true Q E D H =
  LK true (lk E 6) fun g t6 => B3 g ((Op.bin .eql) [t6, (.int .i32 108)]) fun g t18 => IF3 g t18 (fun g => LK g (lk E 0) fun g t0 => B3 g (Op.nilCheck [t0]) fun g t20 => B3 g ((Op.fieldAddr 5) [t20]) fun g t21 => B32 g ((Op.buildSlice qp 5 [(.str [])] [(0, 1), (1, 1), (2, 1), (3, 1), (4, 1)]) [(.str []), (.str [102, 97, 115, 116]), (.str [115, 108, 111, 119]), (.str [115, 111, 102, 116]), (.str [115, 101, 114, 105, 97, 108])]) fun g o1 k1 => GO3 g Q .ret ((5, (k1 H.next))::(4, t21)::E) D (H.alloc o1)) (fun g => LK g (lk E 6) fun g t6_1 => B3 g ((Op.bin .eql) [t6_1, (.int .i32 97)]) fun g t24 => IF3 g t24 (fun g => LK g (lk E 0) fun g t0 => B3 g (Op.nilCheck [t0]) fun g t26 => B3 g ((Op.fieldAddr 6) [t26]) fun g t27 => GO3 g Q .ret ((5, .nils)::(4, t27)::E) D H) (fun g => GO3 g Q .normal E D H))) := by (repeat' apply And.intro) <;> (intro _ _ _ _; refine W_unf ?_; kernel_rfl)
theorem qlt : (cProg Tryd.prog).func km = some qew ∧ qew.results = [.tmp 4, .tmp 5] := qt (by kernel_rfl)
theorem qrm {M : Mac} [MK M] : M.func km = some qew := MK.at (by decide) qlt.1
theorem qs7 {M : Mac} [MK M] {a0 a1 : AV} {H : AHeap} {Q : AEnd → AHeap → Prop} (h : W M ⟨none, km⟩ (kn 0) true (FIN3 M [.tmp 4, .tmp 5] Q) [(0, a0), (1, a1)] [] H) : CALLE M km [a0, a1] H Q :=
  calle qrm (ks := ql8) (by kernel_rfl) (by rw [qlt.2]; exact h)
def qhl : AFunc := funcAt Tryd.prog qbc
def qqm : Kp := ⟨[0, 1, 4], false, [0]⟩
def qov (k : Nat) : Kp × ACode := (qqm, part qhl.body k)
theorem qft (M : Mac) (c : Ctx) : (∀ Q E D H, W M c (qov 0) true Q E D H =
  LK true (lk E 0) fun g t0 => B3 g ((Op.bin .geq) [t0, (.int .i64 0)]) fun g t6 => JN (fun (k : Bool → AV → AV → AV → AV → AHeap → Prop) => B3 g (wantV true (some t6)) fun g w => IG3 g w (fun g => LK g (lk E 1) fun g t1 => B3 g (Op.lenSl [t1]) fun g t9 => B3 g ((Op.bin .eql) [t9, (.int .i64 0)]) fun g t10 => k g t10 t10 t9 t1 H) (fun g => k g uu uu uu uu H)) (fun g t11_1 t10_1 t9_1 t8_1 H1 => JN (fun (k : Bool → AV → AV → AV → AHeap → Prop) => B3 g (wantV false (some t11_1)) fun g w => IG3 g w (fun g => B3 g ((Op.bin .geq) [t0, (.int .i64 1)]) fun g t13 => k g t13 t13 t0 H1) (fun g => k g uu uu uu H1)) (fun g t14_1 t13_1 t12_1 H2 => JN (fun (k : Bool → AV → AV → AV → AV → AHeap → Prop) => B3 g (wantV true (some t14_1)) fun g w => IG3 g w (fun g => LK g (lk E 1) fun g t1_1 => B3 g (Op.lenSl [t1_1]) fun g t17 => B3 g ((Op.bin .lss) [t0, t17]) fun g t18 => k g t18 t17 t1_1 t0 H2) (fun g => k g uu uu uu uu H2)) (fun g t18_1 t17_1 t16_1 t15_1 H3 => JN (fun (k : Bool → AV → AHeap → Prop) => B3 g (wantV false (some t11_1)) fun g w => IG3 g w (fun g => B3 g (Op.pick [t14_1, t18_1, (.bool false)]) fun g t19 => k g t19 H3) (fun g => k g uu H3)) (fun g t19_1 H4 => JN (fun (k : Bool → AV → AHeap → Prop) => B3 g (wantV true (some t6)) fun g w => IG3 g w (fun g => B3 g (Op.pick [t11_1, (.bool true), t19_1]) fun g t20 => k g t20 H4) (fun g => k g uu H4)) (fun g t20_1 H5 => B3 g (Op.pick [t6, t20_1, (.bool false)]) fun g t21 => GO3 g Q .ret ((4, t21)::(4, (.bool false))::E) D H5)))))) := by intro _ _ _ _; refine W_unf ?_; kernel_rfl
theorem qpv : (cProg Tryd.prog).func qbc = some qhl ∧ qhl.results = [.tmp 4] := qt (by kernel_rfl)
theorem quy {M : Mac} [MK M] : M.func qbc = some qhl := MK.at (by decide) qpv.1
theorem qxo {M : Mac} [MK M] {a0 a1 : AV} {H : AHeap} {Q : AEnd → AHeap → Prop} (h : W M ⟨none, qbc⟩ (qov 0) true (FIN3 M [.tmp 4] Q) [(0, a0), (1, a1)] [] H) : CALLE M qbc [a0, a1] H Q :=
  calle quy (ks := qqm) (by kernel_rfl) (by rw [qpv.2]; exact h)
end
end Go.Am
namespace Go.Am
abbrev wl : Nat := 14
noncomputable section
open Go.Proofs Go.Proofs.YtkfheegmlgfdoaaDoor
def qfv : AFunc := funcAt Tryd.prog wl
def qm9 : Kp := ⟨[0, 1, 4, 5], false, [0, 2, 10, 15, 21, 30, 31]⟩
def zj (k : Nat) : Kp × ACode := (qm9, part qfv.body k)
theorem qbx (M : Mac) (c : Ctx) : (∀ Q E D H, W M c (zj 0) true Q E D H =
  W M c (zj 2) true Q ((4, (.bool false))::E) D H) ∧
 (∀ Q E D H, W M c (zj 2) true Q E D H =
  LK true (lk E 0) fun g t0 => B3 g (Op.lenSl [t0]) fun g t7 => LK g (lk E 1) fun g t1 => B3 g (Op.lenSl [t1]) fun g t9 => B3 g ((Op.bin .neq) [t7, t9]) fun g t10 => IF3 g t10 (fun g => GO3 g (SEQ3 (W M c (zj 10)) Q) .ret ((4, (.bool false))::E) D H) (fun g => GO3 g (SEQ3 (W M c (zj 10)) Q) .normal E D H)) ∧
 (∀ Q E D H, W M c (zj 10) true Q E D H =
  LOOP3 (W M c (zj 15)) (BLK3 0 (SEQ3 (W M c (zj 31)) Q)) ((5, (.int .i64 0))::E) D H) ∧
 (∀ Q E D H, W M c (zj 31) true Q E D H =
  GO3 true Q .ret ((4, (.bool true))::E) D H) ∧
 (∀ Q E D H, W M c (zj 15) true Q E D H =
  LK true (lk E 5) fun g t5 => LK g (lk E 0) fun g t0 => B3 g (Op.lenSl [t0]) fun g t13 => B3 g ((Op.bin .lss) [t5, t13]) fun g t14 => IF3 g t14 (fun g => GO3 g (SEQ3 (W M c (zj 21)) Q) .normal E D H) (fun g => GO3 g (SEQ3 (W M c (zj 21)) Q) (.exit 0) E D H)) ∧
 (∀ Q E D H, W M c (zj 21) true Q E D H =
  LK true (lk E 0) fun g t0 => LK g (lk E 5) fun g t5 => B3 g ((Op.indexSl 9) [t0, t5]) fun g t19 => B3 g ((Op.loadN 9) [t19] H) fun g t20 => LK g (lk E 1) fun g t1 => B3 g ((Op.indexSl 9) [t1, t5]) fun g t23 => B3 g ((Op.loadN 9) [t23] H) fun g t24 => B3 g ((Op.eq (.agg (.part 0 none .int (.part 1 none .int (.part 2 none .int (.part 3 none .int (.part 4 none .int (.part 5 none .int (.part 6 none .int (.part 7 none .int (.part 8 none .int .nil)))))))))) true) [t20, t24] H) fun g t25 => IF3 g t25 (fun g => GO3 g (BLK3 1 (SEQ3 (W M c (zj 30)) Q)) .ret ((4, (.bool false))::E) D H) (fun g => GO3 g (BLK3 1 (SEQ3 (W M c (zj 30)) Q)) .normal E D H)) ∧
 (∀ Q E D H, W M c (zj 30) true Q E D H =
  LK true (lk E 5) fun g t5 => B3 g ((Op.bin .add) [t5, (.int .i64 1)]) fun g t16 => GO3 g Q .normal ((5, t16)::E) D H) := by (repeat' apply And.intro) <;> (intro _ _ _ _; refine W_unf ?_; kernel_rfl)
theorem qnf : (cProg Tryd.prog).func wl = some qfv ∧ qfv.results = [.tmp 4] := qt (by kernel_rfl)
theorem qub {M : Mac} [MK M] : M.func wl = some qfv := MK.at (by decide) qnf.1
theorem qu0 {M : Mac} [MK M] {a0 a1 : AV} {H : AHeap} {Q : AEnd → AHeap → Prop} (h : W M ⟨none, wl⟩ (zj 0) true (FIN3 M [.tmp 4] Q) [(0, a0), (1, a1)] [] H) : CALLE M wl [a0, a1] H Q :=
  calle qub (ks := qm9) (by kernel_rfl) (by rw [qnf.2]; exact h)
end
end Go.Am
namespace Go.Am
abbrev qq5 : Nat := 114
abbrev qig : Nat := 115
abbrev qy : Nat := 92
abbrev xa : Nat := 104
abbrev qc8 : Nat := 105
abbrev xo : Nat := 116
abbrev xc : Nat := 78
abbrev xn : Nat := 103
abbrev xd : Nat := 88
abbrev xj : Nat := 77
abbrev z4 : Nat := 69
abbrev jr : Nat := 80
abbrev qla : Nat := 108
abbrev qie : Nat := 109
abbrev jc : Nat := 107
abbrev zx : Nat := 106
abbrev ke : Nat := 93
abbrev yt : Nat := 90
abbrev jq : Nat := 66
abbrev yv : Nat := 91
abbrev zy : Nat := 76
abbrev yw : Nat := 64
abbrev zi : Nat := 75
abbrev yp : Nat := 67
abbrev jb : Nat := 65
abbrev qmt : Nat := 89
abbrev j8 : Nat := 79
abbrev ym : Nat := 19
abbrev ko : Nat := 21
abbrev yh : Nat := 41
abbrev wy : Nat := 45
abbrev ji : Nat := 63
abbrev ki : Nat := 68
abbrev jd : Nat := 46
abbrev js : Nat := 61
abbrev qcw : Nat := 100
abbrev T__6 : Nat := 22
abbrev T__8 : Nat := 24
abbrev T__83 : Nat := 109
abbrev zu : Nat := 25
abbrev T_int : Nat := 3
abbrev ql : Nat := 146
abbrev yd : Nat := 148
abbrev qfy : Nat := 154
abbrev q1e : Nat := 3
abbrev je : Nat := 5
abbrev zw : Nat := 4
noncomputable section
open Go.Proofs Go.Proofs.YtkfheegmlgfdoaaDoor
def ifT (P : Program) (u : Nat) : Option EqTree := (P.info? u).bind fun i => if i.comparable then treeT P 20 u else none
def qdd : AFunc := funcAt Tryd.prog ym
def qkk : Kp := ⟨[0, 1, 2, 3, 4, 5, 6], false, [0, 4, 7, 13, 16, 24, 25]⟩
def x8 (k : Nat) : Kp × ACode := (qkk, part qdd.body k)
theorem yo (M : Mac) (c : Ctx) : (∀ Q E D H, W M c (x8 0) true Q E D H =
  LK true (lk E 0) fun g t0 => A3 g T__8 (AV.cells t0) H fun g t1 H1 => W M c (x8 4) g Q ((4, .nils)::(3, (.int .i64 0))::(2, .nils)::(1, t1)::E) D H1) ∧
 (∀ Q E D H, W M c (x8 4) true Q E D H =
  LOOP3 (W M c (x8 7)) (BLK3 0 (SEQ3 (W M c (x8 25)) Q)) E D H) ∧
 (∀ Q E D H, W M c (x8 25) true Q E D H =
  LK true (lk E 4) fun g t4 => GO3 g Q .ret ((3, (.int .i64 0))::(2, t4)::E) D H) ∧
 (∀ Q E D H, W M c (x8 7) true Q E D H =
  LK true (lk E 1) fun g t1 => B3 g (Op.load1 [t1] H) fun g t7 => B3 g (Op.lenSl [t7]) fun g t8 => B3 g ((Op.bin .gtr) [t8, (.int .i64 0)]) fun g t9 => IF3 g t9 (fun g => GO3 g (SEQ3 (W M c (x8 13)) Q) .normal E D H) (fun g => GO3 g (SEQ3 (W M c (x8 13)) Q) (.exit 0) E D H)) ∧
 (∀ Q E D H, W M c (x8 13) true Q E D H =
  LK true (lk E 1) fun g t1 => C3 M g (.func yh) [t1] H fun g t11 H1 => B3 g ((Op.extract 0) [t11]) fun g t12 => B3 g ((Op.extract 1) [t11]) fun g t13 => A3 g qc [(.int .i64 0), (.int .i64 0), (.int .i64 0), (.int .i64 0), (.int .i64 0), (.int .i64 0), (.int .i64 0), (.int .u64 0), (.int .i64 0)] H1 fun g t5 H2 => B32 g ((Op.store 9) [t5, t12] H2) fun g u H3 => W M c (x8 16) g (BLK3 1 Q) ((6, t13)::(5, t5)::E) D H3) ∧
 (∀ Q E D H, W M c (x8 16) true Q E D H =
  LK true (lk E 6) fun g t6 => B3 g ((Op.un .not) [t6]) fun g t15 => IF3 g t15 (fun g => GO3 g (SEQ3 (W M c (x8 24)) Q) .ret ((3, (.int .i64 230))::(2, .nils)::E) D H) (fun g => GO3 g (SEQ3 (W M c (x8 24)) Q) .normal E D H)) ∧
 (∀ Q E D H, W M c (x8 24) true Q E D H =
  LK true (lk E 4) fun g t4 => LK g (lk E 5) fun g t5 => B3 g ((Op.loadN 9) [t5] H) fun g t17 => B32 g ((Op.buildSlice qc 1 [(.int .i64 0), (.int .i64 0), (.int .i64 0), (.int .i64 0), (.int .i64 0), (.int .i64 0), (.int .i64 0), (.int .u64 0), (.int .i64 0)] [(0, 9)]) [t17]) fun g o1 k1 => B32 g ((Op.append qc 9 72) [t4, (k1 H.next)] (H.alloc o1)) fun g t19 H2 => GO3 g Q .normal ((4, t19)::E) D H2) := by (repeat' apply And.intro) <;> (intro _ _ _ _; refine W_unf ?_; kernel_rfl)
theorem qkb : (cProg Tryd.prog).func ym = some qdd ∧ qdd.results = [.tmp 2, .tmp 3] := qt (by kernel_rfl)
theorem qpm {M : Mac} [MK M] : M.func ym = some qdd := MK.at (by decide) qkb.1
theorem qri {M : Mac} [MK M] {a0 : AV} {H : AHeap} {Q : AEnd → AHeap → Prop} (h : W M ⟨none, ym⟩ (x8 0) true (FIN3 M [.tmp 2, .tmp 3] Q) [(0, a0)] [] H) : CALLE M ym [a0] H Q :=
  calle qpm (ks := qkk) (by kernel_rfl) (by rw [qkb.2]; exact h)
def qad : AFunc := funcAt Tryd.prog ko
def wu : Kp := ⟨[0, 2, 3, 4, 5, 6, 7, 8, 9, 10, 12, 13, 14], false, [0, 4, 6, 11]⟩
def ve (k : Nat) : Kp × ACode := (wu, part qad.body k)
def vk : ALoop := loopAt qad 0
def qj3 (k : Nat) : Kp × ACode := (⟨wu.keep, wu.pan, [0]⟩, part vk.assign k)
def vl (k : Nat) : Kp × ACode := (⟨wu.keep, wu.pan, [0, 5, 13]⟩, part vk.body k)
theorem qim : nth qad.loops 0 = some vk ∧ vk.params = [13, 14] := ⟨by kernel_rfl, by kernel_rfl⟩
theorem ql0 (M : Mac) (c : Ctx) : (∀ Q E D H, W M c (ve 0) true Q E D H =
  A3 true T__6 [.nils] H fun g t2 H1 => A3 g T_int [(.int .i64 0)] H1 fun g t3 H2 => A3 g zu [(.int .i64 0)] H2 fun g t4 H3 => A3 g T__6 [.nils] H3 fun g t5 H4 => W M c (ve 4) g Q ((5, t5)::(4, t4)::(3, t3)::(2, t2)::E) D H4) ∧
 (∀ Q E D H, W M c (qj3 0) true Q E D H =
  LK true (lk E 13) fun g t13 => LK g (lk E 14) fun g t14 => GO3 g Q .normal ((8, t14)::(7, t13)::E) D H) ∧
 (∀ Q E D H, W M c (vl 0) true Q E D H =
  LK true (lk E 6) fun g t6 => B3 g (Op.load1 [t6] H) fun g t15 => B3 g ((Op.bin .add) [t15, (.int .i64 1)]) fun g t16 => B32 g ((Op.store 1) [t6, t16] H) fun g u H1 => LK g (lk E 7) fun g t7 => C3 M g (.func jd) [t7] H1 fun g t19 H2 => B3 g ((Op.extract 0) [t19]) fun g t20 => B3 g ((Op.extract 1) [t19]) fun g t21 => A3 g qc [(.int .i64 0), (.int .i64 0), (.int .i64 0), (.int .i64 0), (.int .i64 0), (.int .i64 0), (.int .i64 0), (.int .u64 0), (.int .i64 0)] H2 fun g t9 H3 => B32 g ((Op.store 9) [t9, t20] H3) fun g u_1 H4 => W M c (vl 5) g (BLK3 1 Q) ((10, t21)::(9, t9)::E) D H4) ∧
 (∀ Q E D H, W M c (ve 4) true Q E D H =
  A3 true T_int [(.int .i64 0)] H fun g t6 H1 => B32 g ((Op.store 1) [t6, (.int .i64 0)] H1) fun g u H2 => W M c (ve 6) g Q ((6, t6)::E) D H2) ∧
 (∀ Q E D H, W M c (vl 5) true Q E D H =
  LK true (lk E 10) fun g t10 => B3 g ((Op.un .not) [t10]) fun g t23 => JN (fun (k : Bool → AV → AV → AHeap → Prop) => B3 g (wantV false (some t23)) fun g w => IG3 g w (fun g => LK g (lk E 8) fun g t8 => B3 g ((Op.un .not) [t8]) fun g t26 => k g t26 t8 H) (fun g => k g uu uu H)) (fun g t26_1 t25_1 H1 => B3 g (Op.pick [t23, (.bool true), t26_1]) fun g t27 => IF3 g t27 (fun g => LK g (lk E 6) fun g t6 => B3 g (Op.load1 [t6] H1) fun g t28 => LK g (lk E 2) fun g t2 => B32 g ((Op.store 1) [t2, .nils] H1) fun g u H2 => CK3 g (Op.load1 [t6] H2) (some t28) fun g => LK g (lk E 3) fun g t3 => B32 g ((Op.store 1) [t3, t28] H2) fun g u_1 H3 => LK g (lk E 4) fun g t4 => B32 g ((Op.store 1) [t4, (.int .i64 230)] H3) fun g u_2 H4 => GO3 g (SEQ3 (W M c (vl 13)) Q) .ret E D H4) (fun g => GO3 g (SEQ3 (W M c (vl 13)) Q) .normal E D H1))) ∧
 (∀ Q E D H, W M c (ve 6) true Q E D H =
  LK true (lk E 0) fun g t0 => C3 M g (.func wy) [t0] H fun g t12 H1 => RNG3 M wu.keep c 0 ((12, t12)::E) D H1 (BLK3 0 (SEQ3 (W M c (ve 11)) Q)) t12) ∧
 (∀ Q E D H, W M c (vl 13) true Q E D H =
  LK true (lk E 5) fun g t5 => B3 g (Op.load1 [t5] H) fun g t29 => LK g (lk E 9) fun g t9 => B3 g ((Op.loadN 9) [t9] H) fun g t30 => B32 g ((Op.buildSlice qc 1 [(.int .i64 0), (.int .i64 0), (.int .i64 0), (.int .i64 0), (.int .i64 0), (.int .i64 0), (.int .i64 0), (.int .u64 0), (.int .i64 0)] [(0, 9)]) [t30]) fun g o1 k1 => B32 g ((Op.append qc 9 72) [t29, (k1 H.next)] (H.alloc o1)) fun g t32 H2 => B32 g ((Op.store 1) [t5, t32] H2) fun g u H3 => GO3 g Q .normal E D H3) ∧
 (∀ Q E D H, W M c (ve 11) true Q E D H =
  LK true (lk E 5) fun g t5 => B3 g (Op.load1 [t5] H) fun g t33 => LK g (lk E 2) fun g t2 => B32 g ((Op.store 1) [t2, t33] H) fun g u H1 => LK g (lk E 3) fun g t3 => B32 g ((Op.store 1) [t3, (.int .i64 0)] H1) fun g u_1 H2 => LK g (lk E 4) fun g t4 => B32 g ((Op.store 1) [t4, (.int .i64 0)] H2) fun g u_2 H3 => GO3 g Q .ret E D H3) := by (repeat' apply And.intro) <;> (intro _ _ _ _; refine W_unf ?_; kernel_rfl)
theorem qll : (cProg Tryd.prog).func ko = some qad ∧ qad.results = [.cell1 2, .cell1 3, .cell1 4] := qt (by kernel_rfl)
theorem qkm {M : Mac} [MK M] : M.func ko = some qad := MK.at (by decide) qll.1
theorem qte {M : Mac} [MK M] {a0 : AV} {H : AHeap} {Q : AEnd → AHeap → Prop} (h : W M ⟨none, ko⟩ (ve 0) true (FIN3 M [.cell1 2, .cell1 3, .cell1 4] Q) [(0, a0)] [] H) : CALLE M ko [a0] H Q :=
  calle qkm (ks := wu) (by kernel_rfl) (by rw [qll.2]; exact h)
def qev : AFunc := funcAt Tryd.prog yh
def qln : Kp := ⟨[0, 2, 3, 4, 5, 6, 7, 8, 9, 11, 12, 13, 69, 70], false, [0, 4, 6, 14, 18, 20, 28, 30, 35, 41, 46, 53]⟩
def qu (k : Nat) : Kp × ACode := (qln, part qev.body k)
theorem xr (M : Mac) (c : Ctx) : (∀ Q E D H, W M c (qu 0) true Q E D H =
  A3 true qc [(.int .i64 0), (.int .i64 0), (.int .i64 0), (.int .i64 0), (.int .i64 0), (.int .i64 0), (.int .i64 0), (.int .u64 0), (.int .i64 0)] H fun g t2 H1 => LK g (lk E 0) fun g t0 => B3 g (Op.nilCheck [t0]) fun g t15 => B3 g (Op.load1 [t15] H1) fun g t16 => B3 g ((Op.indexSl 1) [t16, (.int .i64 0)]) fun g t17 => B3 g (Op.load1 [t17] H1) fun g t18 => B3 g ((Op.wrap .i64) [t18]) fun g t19 => W M c (qu 4) g Q ((4, t19)::(3, (.bool false))::(2, t2)::E) D H1) ∧
 (∀ Q E D H, W M c (qu 4) true Q E D H =
  LK true (lk E 0) fun g t0 => B3 g (Op.nilCheck [t0]) fun g t22 => B3 g (Op.load1 [t22] H) fun g t23 => B3 g ((Op.sliceSl 1 [(some 0), none, none]) [t23, (.int .i64 1)]) fun g t24 => B3 g (Op.nilCheck [t0]) fun g t25 => B32 g ((Op.store 1) [t25, t24] H) fun g u H1 => W M c (qu 6) g Q E D H1) ∧
 (∀ Q E D H, W M c (qu 6) true Q E D H =
  LK true (lk E 4) fun g t4 => B3 g ((Op.bin .lss) [t4, (.int .i64 1)]) fun g t27 => JN (fun (k : Bool → AV → AV → AHeap → Prop) => B3 g (wantV false (some t27)) fun g w => IG3 g w (fun g => B3 g ((Op.bin .gtr) [t4, (.int .i64 8)]) fun g t30 => k g t30 t4 H) (fun g => k g uu uu H)) (fun g t30_1 t29_1 H1 => B3 g (Op.pick [t27, (.bool true), t30_1]) fun g t31 => IF3 g t31 (fun g => B3 g ((Op.build [(.int .i64 0), (.int .i64 0), (.int .i64 0), (.int .i64 0), (.int .i64 0), (.int .i64 0), (.int .i64 0), (.int .u64 0), (.int .i64 0)] []) []) fun g t32 => LK g (lk E 2) fun g t2 => B32 g ((Op.store 9) [t2, t32] H1) fun g u H2 => GO3 g (SEQ3 (W M c (qu 14)) Q) .ret ((3, (.bool false))::E) D H2) (fun g => GO3 g (SEQ3 (W M c (qu 14)) Q) .normal E D H1))) ∧
 (∀ Q E D H, W M c (qu 14) true Q E D H =
  LK true (lk E 4) fun g t4 => C3 M g (.func yl) [t4] H fun g t34 H1 => A3 g qc [(.int .i64 0), (.int .i64 0), (.int .i64 0), (.int .i64 0), (.int .i64 0), (.int .i64 0), (.int .i64 0), (.int .u64 0), (.int .i64 0)] H1 fun g t5 H2 => B32 g ((Op.store 9) [t5, t34] H2) fun g u H3 => LK g (lk E 0) fun g t0 => C3 M g (.func js) [t0] H3 fun g t37 H4 => B3 g ((Op.extract 0) [t37]) fun g t38 => B3 g ((Op.extract 1) [t37]) fun g t39 => W M c (qu 18) g Q ((7, t39)::(6, t38)::(5, t5)::E) D H4) ∧
 (∀ Q E D H, W M c (qu 18) true Q E D H =
  LK true (lk E 0) fun g t0 => C3 M g (.func js) [t0] H fun g t42 H1 => B3 g ((Op.extract 0) [t42]) fun g t43 => B3 g ((Op.extract 1) [t42]) fun g t44 => W M c (qu 20) g Q ((9, t44)::(8, t43)::E) D H1) ∧
 (∀ Q E D H, W M c (qu 20) true Q E D H =
  LK true (lk E 7) fun g t7 => B3 g ((Op.un .not) [t7]) fun g t46 => JN (fun (k : Bool → AV → AV → AHeap → Prop) => B3 g (wantV false (some t46)) fun g w => IG3 g w (fun g => LK g (lk E 9) fun g t9 => B3 g ((Op.un .not) [t9]) fun g t49 => k g t49 t9 H) (fun g => k g uu uu H)) (fun g t49_1 t48_1 H1 => B3 g (Op.pick [t46, (.bool true), t49_1]) fun g t50 => JN (fun (k : Bool → AV → AV → AHeap → Prop) => B3 g (wantV false (some t50)) fun g w => IG3 g w (fun g => LK g (lk E 6) fun g t6 => B3 g ((Op.bin .geq) [t6, (.int .u64 4)]) fun g t53 => k g t53 t6 H1) (fun g => k g uu uu H1)) (fun g t53_1 t52_1 H2 => B3 g (Op.pick [t50, (.bool true), t53_1]) fun g t54 => JN (fun (k : Bool → AV → AV → AHeap → Prop) => B3 g (wantV false (some t54)) fun g w => IG3 g w (fun g => LK g (lk E 8) fun g t8 => B3 g ((Op.bin .gtr) [t8, (.int .u64 9223372036854775807)]) fun g t57 => k g t57 t8 H2) (fun g => k g uu uu H2)) (fun g t57_1 t56_1 H3 => B3 g (Op.pick [t54, (.bool true), t57_1]) fun g t58 => IF3 g t58 (fun g => B3 g ((Op.build [(.int .i64 0), (.int .i64 0), (.int .i64 0), (.int .i64 0), (.int .i64 0), (.int .i64 0), (.int .i64 0), (.int .u64 0), (.int .i64 0)] []) []) fun g t59 => LK g (lk E 2) fun g t2 => B32 g ((Op.store 9) [t2, t59] H3) fun g u H4 => GO3 g (SEQ3 (W M c (qu 28)) Q) .ret ((3, (.bool false))::E) D H4) (fun g => GO3 g (SEQ3 (W M c (qu 28)) Q) .normal E D H3))))) ∧
 (∀ Q E D H, W M c (qu 28) true Q E D H =
  LK true (lk E 6) fun g t6 => B3 g ((Op.wrap .i64) [t6]) fun g t61 => LK g (lk E 8) fun g t8 => B3 g ((Op.wrap .i64) [t8]) fun g t63 => LK g (lk E 5) fun g t5 => B3 g ((Op.fieldAddr 2) [t5]) fun g t64 => B32 g ((Op.store 1) [t64, t61] H) fun g u H1 => B3 g ((Op.fieldAddr 1) [t5]) fun g t65 => B32 g ((Op.store 1) [t65, t63] H1) fun g u_1 H2 => W M c (qu 30) g Q E D H2) ∧
 (∀ Q E D H, W M c (qu 30) true Q E D H =
  LK true (lk E 4) fun g t4 => B3 g ((Op.indexArr 9 1) [(.ptr kj 0), t4]) fun g t67 => B3 g (Op.load1 [t67] H) fun g t68 => B32 g (Op.rangeStr [t68]) fun g o1 k1 => LOOP3 (W M c (qu 35)) (BLK3 0 (SEQ3 (W M c (qu 53)) Q)) ((69, (k1 H.next))::E) D (H.alloc o1)) ∧
 (∀ Q E D H, W M c (qu 53) true Q E D H =
  LK true (lk E 5) fun g t5 => B3 g ((Op.loadN 9) [t5] H) fun g t87 => LK g (lk E 2) fun g t2 => B32 g ((Op.store 9) [t2, t87] H) fun g u H1 => GO3 g Q .ret ((3, (.bool true))::E) D H1) ∧
 (∀ Q E D H, W M c (qu 35) true Q E D H =
  LK true (lk E 69) fun g t69 => B32 g (Op.nextStr [t69] H) fun g t70 H1 => B3 g ((Op.extract 0) [t70]) fun g t71 => IF3 g t71 (fun g => GO3 g (SEQ3 (W M c (qu 41)) Q) .normal ((70, t70)::E) D H1) (fun g => GO3 g (SEQ3 (W M c (qu 41)) Q) (.exit 0) ((70, t70)::E) D H1)) ∧
 (∀ Q E D H, W M c (qu 41) true Q E D H =
  LK true (lk E 70) fun g t70 => B3 g ((Op.extract 2) [t70]) fun g t72 => LK g (lk E 0) fun g t0 => C3 M g (.func js) [t0] H fun g t75 H1 => B3 g ((Op.extract 0) [t75]) fun g t76 => B3 g ((Op.extract 1) [t75]) fun g t77 => W M c (qu 46) g (BLK3 1 Q) ((13, t77)::(12, t76)::(11, t72)::E) D H1) ∧
 (∀ Q E D H, W M c (qu 46) true Q E D H =
  LK true (lk E 13) fun g t13 => B3 g ((Op.un .not) [t13]) fun g t79 => JN (fun (k : Bool → AV → AV → AV → AV → AHeap → Prop) => B3 g (wantV false (some t79)) fun g w => IG3 g w (fun g => LK g (lk E 11) fun g t11 => LK g (lk E 12) fun g t12 => LK g (lk E 5) fun g t5 => C3 M g (.func wx) [t5, t11, t12] H fun g t83 H1 => B3 g ((Op.un .not) [t83]) fun g t84 => k g t84 t83 t12 t11 H1) (fun g => k g uu uu uu uu H)) (fun g t84_1 t83_1 t82_1 t81_1 H2 => B3 g (Op.pick [t79, (.bool true), t84_1]) fun g t85 => IF3 g t85 (fun g => B3 g ((Op.build [(.int .i64 0), (.int .i64 0), (.int .i64 0), (.int .i64 0), (.int .i64 0), (.int .i64 0), (.int .i64 0), (.int .u64 0), (.int .i64 0)] []) []) fun g t86 => LK g (lk E 2) fun g t2 => B32 g ((Op.store 9) [t2, t86] H2) fun g u H3 => GO3 g Q .ret ((3, (.bool false))::E) D H3) (fun g => GO3 g Q .normal E D H2))) := by (repeat' apply And.intro) <;> (intro _ _ _ _; refine W_unf ?_; kernel_rfl)
theorem qlg : (cProg Tryd.prog).func yh = some qev ∧ qev.results = [.cellN 9 2, .tmp 3] := qt (by kernel_rfl)
theorem qrj {M : Mac} [MK M] : M.func yh = some qev := MK.at (by decide) qlg.1
theorem qtq {M : Mac} [MK M] {a0 : AV} {H : AHeap} {Q : AEnd → AHeap → Prop} (h : W M ⟨none, yh⟩ (qu 0) true (FIN3 M [.cellN 9 2, .tmp 3] Q) [(0, a0)] [] H) : CALLE M yh [a0] H Q :=
  calle qrj (ks := qln) (by kernel_rfl) (by rw [qlg.2]; exact h)
def qex : AFunc := funcAt Tryd.prog wy
def qly : Kp := ⟨[0, 1, 2], false, [0]⟩
def qmb (k : Nat) : Kp × ACode := (qly, part qex.body k)
theorem qs9 (M : Mac) (c : Ctx) : (∀ Q E D H, W M c (qmb 0) true Q E D H =
  LK true (lk E 0) fun g t0 => A3 g qp (AV.cells t0) H fun g t1 H1 => B3 g ((Op.mkFunc ji 0) [t1]) fun g t3 => GO3 g Q .ret ((2, t3)::(2, .nilf)::(1, t1)::E) D H1) := by intro _ _ _ _; refine W_unf ?_; kernel_rfl
theorem qlj : (cProg Tryd.prog).func wy = some qex ∧ qex.results = [.tmp 2] := qt (by kernel_rfl)
theorem qra {M : Mac} [MK M] : M.func wy = some qex := MK.at (by decide) qlj.1
theorem qtk {M : Mac} [MK M] {a0 : AV} {H : AHeap} {Q : AEnd → AHeap → Prop} (h : W M ⟨none, wy⟩ (qmb 0) true (FIN3 M [.tmp 2] Q) [(0, a0)] [] H) : CALLE M wy [a0] H Q :=
  calle qra (ks := qly) (by kernel_rfl) (by rw [qlj.2]; exact h)
def qf1 : AFunc := funcAt Tryd.prog jd
def qnd : Kp := ⟨[0, 2, 3, 4, 5, 6, 7, 8, 9, 10, 11, 12, 13, 14, 15, 17, 18, 91, 92], false, [0, 4, 12, 14, 17, 23, 25, 33, 37, 39, 47, 49, 54, 60, 65, 67, 77, 84]⟩
def qm (k : Nat) : Kp × ACode := (qnd, part qf1.body k)
theorem qfw (M : Mac) (c : Ctx) : (∀ Q E D H, W M c (qm 0) true Q E D H =
  A3 true qc [(.int .i64 0), (.int .i64 0), (.int .i64 0), (.int .i64 0), (.int .i64 0), (.int .i64 0), (.int .i64 0), (.int .u64 0), (.int .i64 0)] H fun g t2 H1 => LK g (lk E 0) fun g t0 => C3 M g (.func yp) [t0, (.str [32])] H1 fun g t20 H2 => W M c (qm 4) g Q ((4, t20)::(3, (.bool false))::(2, t2)::E) D H2) ∧
 (∀ Q E D H, W M c (qm 4) true Q E D H =
  LK true (lk E 4) fun g t4 => B3 g (Op.lenSl [t4]) fun g t22 => B3 g ((Op.bin .lss) [t22, (.int .i64 3)]) fun g t23 => IF3 g t23 (fun g => B3 g ((Op.build [(.int .i64 0), (.int .i64 0), (.int .i64 0), (.int .i64 0), (.int .i64 0), (.int .i64 0), (.int .i64 0), (.int .u64 0), (.int .i64 0)] []) []) fun g t24 => LK g (lk E 2) fun g t2 => B32 g ((Op.store 9) [t2, t24] H) fun g u H1 => GO3 g (SEQ3 (W M c (qm 12)) Q) .ret ((3, (.bool false))::E) D H1) (fun g => GO3 g (SEQ3 (W M c (qm 12)) Q) .normal E D H)) ∧
 (∀ Q E D H, W M c (qm 12) true Q E D H =
  W M c (qm 14) true Q ((5, (.int .i64 8))::E) D H) ∧
 (∀ Q E D H, W M c (qm 14) true Q E D H =
  LOOP3 (W M c (qm 17)) (BLK3 0 (SEQ3 (W M c (qm 25)) Q)) E D H) ∧
 (∀ Q E D H, W M c (qm 25) true Q E D H =
  LK true (lk E 5) fun g t5 => B3 g ((Op.bin .lss) [t5, (.int .i64 1)]) fun g t39 => JN (fun (k : Bool → AV → AV → AV → AV → AV → AV → AV → AV → AHeap → Prop) => B3 g (wantV false (some t39)) fun g w => IG3 g w (fun g => LK g (lk E 4) fun g t4 => B3 g (Op.lenSl [t4]) fun g t42 => B3 g ((Op.indexArr 9 1) [(.ptr kj 0), t5]) fun g t44 => B3 g (Op.load1 [t44] H) fun g t45 => B3 g (Op.lenStr [t45]) fun g t46 => B3 g ((Op.bin .add) [(.int .i64 3), t46]) fun g t47 => B3 g ((Op.bin .neq) [t42, t47]) fun g t48 => k g t48 t47 t46 t45 t44 t5 t42 t4 H) (fun g => k g uu uu uu uu uu uu uu uu H)) (fun g t48_1 t47_1 t46_1 t45_1 t44_1 t43_1 t42_1 t41_1 H1 => B3 g (Op.pick [t39, (.bool true), t48_1]) fun g t49 => IF3 g t49 (fun g => B3 g ((Op.build [(.int .i64 0), (.int .i64 0), (.int .i64 0), (.int .i64 0), (.int .i64 0), (.int .i64 0), (.int .i64 0), (.int .u64 0), (.int .i64 0)] []) []) fun g t50 => LK g (lk E 2) fun g t2 => B32 g ((Op.store 9) [t2, t50] H1) fun g u H2 => GO3 g (SEQ3 (W M c (qm 33)) Q) .ret ((3, (.bool false))::E) D H2) (fun g => GO3 g (SEQ3 (W M c (qm 33)) Q) .normal E D H1))) ∧
 (∀ Q E D H, W M c (qm 17) true Q E D H =
  LK true (lk E 5) fun g t5 => B3 g ((Op.bin .gtr) [t5, (.int .i64 0)]) fun g t26 => JN (fun (k : Bool → AV → AV → AV → AV → AV → AV → AV → AHeap → Prop) => B3 g (wantV true (some t26)) fun g w => IG3 g w (fun g => B3 g ((Op.indexArr 9 1) [(.ptr qbe 0), t5]) fun g t29 => B3 g (Op.load1 [t29] H) fun g t30 => LK g (lk E 4) fun g t4 => B3 g ((Op.indexSl 1) [t4, (.int .i64 2)]) fun g t32 => B3 g (Op.load1 [t32] H) fun g t33 => B3 g ((Op.bin .neq) [t30, t33]) fun g t34 => k g t34 t33 t32 t4 t30 t29 t5 H) (fun g => k g uu uu uu uu uu uu uu H)) (fun g t34_1 t33_1 t32_1 t31_1 t30_1 t29_1 t28_1 H1 => B3 g (Op.pick [t26, t34_1, (.bool false)]) fun g t35 => IF3 g t35 (fun g => GO3 g (SEQ3 (W M c (qm 23)) Q) .normal E D H1) (fun g => GO3 g (SEQ3 (W M c (qm 23)) Q) (.exit 0) E D H1))) ∧
 (∀ Q E D H, W M c (qm 33) true Q E D H =
  LK true (lk E 5) fun g t5 => C3 M g (.func yl) [t5] H fun g t52 H1 => A3 g qc [(.int .i64 0), (.int .i64 0), (.int .i64 0), (.int .i64 0), (.int .i64 0), (.int .i64 0), (.int .i64 0), (.int .u64 0), (.int .i64 0)] H1 fun g t6 H2 => B32 g ((Op.store 9) [t6, t52] H2) fun g u H3 => LK g (lk E 4) fun g t4 => B3 g ((Op.indexSl 1) [t4, (.int .i64 0)]) fun g t55 => B3 g (Op.load1 [t55] H3) fun g t56 => C3 M g (.func ki) [t56] H3 fun g t57 H4 => B3 g ((Op.extract 0) [t57]) fun g t58 => B3 g ((Op.extract 1) [t57]) fun g t59 => W M c (qm 37) g Q ((8, t59)::(7, t58)::(6, t6)::E) D H4) ∧
 (∀ Q E D H, W M c (qm 23) true Q E D H =
  LK true (lk E 5) fun g t5 => B3 g ((Op.bin .sub) [t5, (.int .i64 1)]) fun g t37 => GO3 g (BLK3 1 Q) .normal ((5, t37)::E) D H) ∧
 (∀ Q E D H, W M c (qm 37) true Q E D H =
  LK true (lk E 4) fun g t4 => B3 g ((Op.indexSl 1) [t4, (.int .i64 1)]) fun g t62 => B3 g (Op.load1 [t62] H) fun g t63 => C3 M g (.func ki) [t63] H fun g t64 H1 => B3 g ((Op.extract 0) [t64]) fun g t65 => B3 g ((Op.extract 1) [t64]) fun g t66 => W M c (qm 39) g Q ((10, t66)::(9, t65)::E) D H1) ∧
 (∀ Q E D H, W M c (qm 39) true Q E D H =
  LK true (lk E 8) fun g t8 => B3 g ((Op.un .not) [t8]) fun g t68 => JN (fun (k : Bool → AV → AV → AHeap → Prop) => B3 g (wantV false (some t68)) fun g w => IG3 g w (fun g => LK g (lk E 10) fun g t10 => B3 g ((Op.un .not) [t10]) fun g t71 => k g t71 t10 H) (fun g => k g uu uu H)) (fun g t71_1 t70_1 H1 => B3 g (Op.pick [t68, (.bool true), t71_1]) fun g t72 => JN (fun (k : Bool → AV → AV → AHeap → Prop) => B3 g (wantV false (some t72)) fun g w => IG3 g w (fun g => LK g (lk E 7) fun g t7 => B3 g ((Op.bin .gtr) [t7, (.int .u64 9223372036854775807)]) fun g t75 => k g t75 t7 H1) (fun g => k g uu uu H1)) (fun g t75_1 t74_1 H2 => B3 g (Op.pick [t72, (.bool true), t75_1]) fun g t76 => JN (fun (k : Bool → AV → AV → AHeap → Prop) => B3 g (wantV false (some t76)) fun g w => IG3 g w (fun g => LK g (lk E 9) fun g t9 => B3 g ((Op.bin .geq) [t9, (.int .u64 4)]) fun g t79 => k g t79 t9 H2) (fun g => k g uu uu H2)) (fun g t79_1 t78_1 H3 => B3 g (Op.pick [t76, (.bool true), t79_1]) fun g t80 => IF3 g t80 (fun g => B3 g ((Op.build [(.int .i64 0), (.int .i64 0), (.int .i64 0), (.int .i64 0), (.int .i64 0), (.int .i64 0), (.int .i64 0), (.int .u64 0), (.int .i64 0)] []) []) fun g t81 => LK g (lk E 2) fun g t2 => B32 g ((Op.store 9) [t2, t81] H3) fun g u H4 => GO3 g (SEQ3 (W M c (qm 47)) Q) .ret ((3, (.bool false))::E) D H4) (fun g => GO3 g (SEQ3 (W M c (qm 47)) Q) .normal E D H3))))) ∧
 (∀ Q E D H, W M c (qm 47) true Q E D H =
  LK true (lk E 7) fun g t7 => B3 g ((Op.wrap .i64) [t7]) fun g t83 => LK g (lk E 9) fun g t9 => B3 g ((Op.wrap .i64) [t9]) fun g t85 => LK g (lk E 6) fun g t6 => B3 g ((Op.fieldAddr 1) [t6]) fun g t86 => B32 g ((Op.store 1) [t86, t83] H) fun g u H1 => B3 g ((Op.fieldAddr 2) [t6]) fun g t87 => B32 g ((Op.store 1) [t87, t85] H1) fun g u_1 H2 => W M c (qm 49) g Q E D H2) ∧
 (∀ Q E D H, W M c (qm 49) true Q E D H =
  LK true (lk E 5) fun g t5 => B3 g ((Op.indexArr 9 1) [(.ptr kj 0), t5]) fun g t89 => B3 g (Op.load1 [t89] H) fun g t90 => B32 g (Op.rangeStr [t90]) fun g o1 k1 => LOOP3 (W M c (qm 54)) (BLK3 2 (SEQ3 (W M c (qm 84)) Q)) ((91, (k1 H.next))::E) D (H.alloc o1)) ∧
 (∀ Q E D H, W M c (qm 84) true Q E D H =
  LK true (lk E 6) fun g t6 => B3 g ((Op.loadN 9) [t6] H) fun g t134 => LK g (lk E 2) fun g t2 => B32 g ((Op.store 9) [t2, t134] H) fun g u H1 => GO3 g Q .ret ((3, (.bool true))::E) D H1) ∧
 (∀ Q E D H, W M c (qm 54) true Q E D H =
  LK true (lk E 91) fun g t91 => B32 g (Op.nextStr [t91] H) fun g t92 H1 => B3 g ((Op.extract 0) [t92]) fun g t93 => IF3 g t93 (fun g => GO3 g (SEQ3 (W M c (qm 60)) Q) .normal ((92, t92)::E) D H1) (fun g => GO3 g (SEQ3 (W M c (qm 60)) Q) (.exit 2) ((92, t92)::E) D H1)) ∧
 (∀ Q E D H, W M c (qm 60) true Q E D H =
  LK true (lk E 92) fun g t92 => B3 g ((Op.extract 1) [t92]) fun g t94 => B3 g ((Op.extract 2) [t92]) fun g t95 => LK g (lk E 4) fun g t4 => B3 g ((Op.bin .add) [(.int .i64 3), t94]) fun g t98 => B3 g ((Op.indexSl 1) [t4, t98]) fun g t99 => B3 g (Op.load1 [t99] H) fun g t100 => W M c (qm 65) g (BLK3 3 Q) ((13, t100)::(12, t95)::(11, t94)::E) D H) ∧
 (∀ Q E D H, W M c (qm 65) true Q E D H =
  LK true (lk E 13) fun g t13 => C3 M g (.func ki) [t13] H fun g t103 H1 => B3 g ((Op.extract 0) [t103]) fun g t104 => B3 g ((Op.extract 1) [t103]) fun g t105 => W M c (qm 67) g Q ((15, t105)::(14, t104)::E) D H1) ∧
 (∀ Q E D H, W M c (qm 67) true Q E D H =
  LK true (lk E 12) fun g t12 => B3 g ((Op.bin .eql) [t12, (.int .i32 108)]) fun g t107 => JN (fun (k : Bool → AV → AV → AHeap → Prop) => B3 g (wantV false (some t107)) fun g w => IG3 g w (fun g => B3 g ((Op.bin .eql) [t12, (.int .i32 99)]) fun g t110 => k g t110 t12 H) (fun g => k g uu uu H)) (fun g t110_1 t109_1 H1 => B3 g (Op.pick [t107, (.bool true), t110_1]) fun g t111 => IF3 g t111 (fun g => LK g (lk E 12) fun g t12_1 => LK g (lk E 6) fun g t6 => C3 M g (.func km) [t6, t12_1] H1 fun g t114 H2 => B3 g ((Op.extract 0) [t114]) fun g t115 => B3 g ((Op.extract 1) [t114]) fun g t116 => LK g (lk E 13) fun g t13 => C3 M g (.func z4) [t116, t13] H2 fun g t119 H3 => B3 g ((Op.minmax true) [t119, (.int .i64 0)]) fun g t121 => B3 g ((Op.wrap .u64) [t121]) fun g t122 => B3 g ((Op.bin .gtr) [t119, (.int .i64 0)]) fun g t124 => GO3 g (SEQ3 (W M c (qm 77)) Q) .normal ((15, t124)::(14, t122)::(18, t119)::(17, t116)::E) D H3) (fun g => GO3 g (SEQ3 (W M c (qm 77)) Q) .normal E D H1))) ∧
 (∀ Q E D H, W M c (qm 77) true Q E D H =
  LK true (lk E 15) fun g t15 => B3 g ((Op.un .not) [t15]) fun g t126 => JN (fun (k : Bool → AV → AV → AV → AV → AHeap → Prop) => B3 g (wantV false (some t126)) fun g w => IG3 g w (fun g => LK g (lk E 12) fun g t12 => LK g (lk E 14) fun g t14 => LK g (lk E 6) fun g t6 => C3 M g (.func wx) [t6, t12, t14] H fun g t130 H1 => B3 g ((Op.un .not) [t130]) fun g t131 => k g t131 t130 t14 t12 H1) (fun g => k g uu uu uu uu H)) (fun g t131_1 t130_1 t129_1 t128_1 H2 => B3 g (Op.pick [t126, (.bool true), t131_1]) fun g t132 => IF3 g t132 (fun g => B3 g ((Op.build [(.int .i64 0), (.int .i64 0), (.int .i64 0), (.int .i64 0), (.int .i64 0), (.int .i64 0), (.int .i64 0), (.int .u64 0), (.int .i64 0)] []) []) fun g t133 => LK g (lk E 2) fun g t2 => B32 g ((Op.store 9) [t2, t133] H2) fun g u H3 => GO3 g Q .ret ((3, (.bool false))::E) D H3) (fun g => GO3 g Q .normal E D H2))) := by (repeat' apply And.intro) <;> (intro _ _ _ _; refine W_unf ?_; kernel_rfl)
theorem qnc : (cProg Tryd.prog).func jd = some qf1 ∧ qf1.results = [.cellN 9 2, .tmp 3] := qt (by kernel_rfl)
theorem qus {M : Mac} [MK M] : M.func jd = some qf1 := MK.at (by decide) qnc.1
theorem qu6 {M : Mac} [MK M] {a0 : AV} {H : AHeap} {Q : AEnd → AHeap → Prop} (h : W M ⟨none, jd⟩ (qm 0) true (FIN3 M [.cellN 9 2, .tmp 3] Q) [(0, a0)] [] H) : CALLE M jd [a0] H Q :=
  calle qus (ks := qnd) (by kernel_rfl) (by rw [qnc.2]; exact h)
def qf5 : AFunc := funcAt Tryd.prog js
def qna : Kp := ⟨[0, 2, 3, 4, 5, 6, 9, 10, 11], false, [0, 4, 9, 15, 19, 27, 38, 39]⟩
def x7 (k : Nat) : Kp × ACode := (qna, part qf5.body k)
theorem qfz (M : Mac) (c : Ctx) : (∀ Q E D H, W M c (x7 0) true Q E D H =
  W M c (x7 4) true Q ((4, (.int .u64 0))::(3, (.bool false))::(2, (.int .u64 0))::E) D H) ∧
 (∀ Q E D H, W M c (x7 4) true Q E D H =
  LK true (lk E 0) fun g t0 => B3 g (Op.nilCheck [t0]) fun g t8 => B3 g (Op.load1 [t8] H) fun g t9 => B3 g (Op.lenSl [t9]) fun g t10 => LOOP3 (W M c (x7 9)) (BLK3 0 (SEQ3 (W M c (x7 39)) Q)) ((11, (.int .i64 0))::(10, t10)::(9, t9)::E) D H) ∧
 (∀ Q E D H, W M c (x7 39) true Q E D H =
  GO3 true Q .ret ((3, (.bool false))::(2, (.int .u64 0))::E) D H) ∧
 (∀ Q E D H, W M c (x7 9) true Q E D H =
  LK true (lk E 11) fun g t11 => LK g (lk E 10) fun g t10 => B3 g ((Op.bin .lss) [t11, t10]) fun g t12 => IF3 g t12 (fun g => GO3 g (SEQ3 (W M c (x7 15)) Q) .normal E D H) (fun g => GO3 g (SEQ3 (W M c (x7 15)) Q) (.exit 0) E D H)) ∧
 (∀ Q E D H, W M c (x7 15) true Q E D H =
  LK true (lk E 11) fun g t11 => LK g (lk E 9) fun g t9 => B3 g ((Op.indexSl 1) [t9, t11]) fun g t14 => B3 g (Op.load1 [t14] H) fun g t15 => W M c (x7 19) g (BLK3 1 (SEQ3 (W M c (x7 38)) Q)) ((6, t15)::(5, t11)::E) D H) ∧
 (∀ Q E D H, W M c (x7 38) true Q E D H =
  LK true (lk E 11) fun g t11 => B3 g ((Op.bin .add) [t11, (.int .i64 1)]) fun g t51 => GO3 g Q .normal ((11, t51)::E) D H) ∧
 (∀ Q E D H, W M c (x7 19) true Q E D H =
  LK true (lk E 5) fun g t5 => B3 g ((Op.bin .eql) [t5, (.int .i64 10)]) fun g t17 => JN (fun (k : Bool → AV → AV → AV → AHeap → Prop) => B3 g (wantV false (some t17)) fun g w => IG3 g w (fun g => B3 g ((Op.bin .eql) [t5, (.int .i64 9)]) fun g t20 => k g t20 t20 t5 H) (fun g => k g uu uu uu H)) (fun g t21_1 t20_1 t19_1 H1 => JN (fun (k : Bool → AV → AV → AHeap → Prop) => B3 g (wantV true (some t21_1)) fun g w => IG3 g w (fun g => LK g (lk E 6) fun g t6 => B3 g ((Op.bin .gtr) [t6, (.int .u8 1)]) fun g t23 => k g t23 t6 H1) (fun g => k g uu uu H1)) (fun g t23_1 t22_1 H2 => JN (fun (k : Bool → AV → AHeap → Prop) => B3 g (wantV false (some t17)) fun g w => IG3 g w (fun g => B3 g (Op.pick [t21_1, t23_1, (.bool false)]) fun g t24 => k g t24 H2) (fun g => k g uu H2)) (fun g t24_1 H3 => B3 g (Op.pick [t17, (.bool true), t24_1]) fun g t25 => IF3 g t25 (fun g => GO3 g (SEQ3 (W M c (x7 27)) Q) .ret ((3, (.bool false))::(2, (.int .u64 0))::E) D H3) (fun g => GO3 g (SEQ3 (W M c (x7 27)) Q) .normal E D H3))))) ∧
 (∀ Q E D H, W M c (x7 27) true Q E D H =
  LK true (lk E 4) fun g t4 => LK g (lk E 6) fun g t6 => B3 g ((Op.bin .and) [t6, (.int .u8 127)]) fun g t28 => B3 g ((Op.wrap .u64) [t28]) fun g t29 => LK g (lk E 5) fun g t5 => B3 g ((Op.bin .mul) [(.int .i64 7), t5]) fun g t31 => B3 g ((Op.bin .shl) [t29, t31]) fun g t32 => B3 g ((Op.bin .or) [t4, t32]) fun g t33 => LK g (lk E 6) fun g t6_1 => B3 g ((Op.bin .lss) [t6_1, (.int .u8 128)]) fun g t35 => IF3 g t35 (fun g => LK g (lk E 0) fun g t0 => B3 g (Op.nilCheck [t0]) fun g t38 => B3 g (Op.load1 [t38] H) fun g t39 => LK g (lk E 5) fun g t5_1 => B3 g ((Op.bin .add) [t5_1, (.int .i64 1)]) fun g t41 => B3 g ((Op.sliceSl 1 [(some 0), none, none]) [t39, t41]) fun g t42 => B3 g (Op.nilCheck [t0]) fun g t43 => B32 g ((Op.store 1) [t43, t42] H) fun g u H1 => LK g (lk E 5) fun g t5_2 => B3 g ((Op.bin .eql) [t5_2, (.int .i64 0)]) fun g t46 => JN (fun (k : Bool → AV → AV → AHeap → Prop) => B3 g (wantV false (some t46)) fun g w => IG3 g w (fun g => LK g (lk E 6) fun g t6_2 => B3 g ((Op.bin .gtr) [t6_2, (.int .u8 0)]) fun g t49 => k g t49 t6_2 H1) (fun g => k g uu uu H1)) (fun g t49_1 t48_1 H2 => B3 g (Op.pick [t46, (.bool true), t49_1]) fun g t50 => GO3 g Q .ret ((3, t50)::(2, t33)::(4, t33)::E) D H2)) (fun g => GO3 g Q .normal ((4, t33)::E) D H)) := by (repeat' apply And.intro) <;> (intro _ _ _ _; refine W_unf ?_; kernel_rfl)
theorem qny : (cProg Tryd.prog).func js = some qf5 ∧ qf5.results = [.tmp 2, .tmp 3] := qt (by kernel_rfl)
theorem qs4 {M : Mac} [MK M] : M.func js = some qf5 := MK.at (by decide) qny.1
theorem qwr {M : Mac} [MK M] {a0 : AV} {H : AHeap} {Q : AEnd → AHeap → Prop} (h : W M ⟨none, js⟩ (x7 0) true (FIN3 M [.tmp 2, .tmp 3] Q) [(0, a0)] [] H) : CALLE M js [a0] H Q :=
  calle qs4 (ks := qna) (by kernel_rfl) (by rw [qny.2]; exact h)
def yu : AFunc := funcAt Tryd.prog ji
def yq : Kp := ⟨[0, 1, 2, 3, 5, 6], false, [0]⟩
def qir (k : Nat) : Kp × ACode := (yq, part yu.body k)
def ya : ALoop := loopAt yu 0
def qh7 (k : Nat) : Kp × ACode := (⟨yq.keep, yq.pan, [0]⟩, part ya.assign k)
def qh6 (k : Nat) : Kp × ACode := (⟨yq.keep, yq.pan, [0]⟩, part ya.body k)
theorem qgt : nth yu.loops 0 = some ya ∧ ya.params = [6] := ⟨by kernel_rfl, by kernel_rfl⟩
theorem qip (M : Mac) (c : Ctx) : (∀ Q E D H, W M c (qir 0) true Q E D H =
  LK true (lk E 0) fun g t0 => A3 g T__83 (AV.cells t0) H fun g t2 H1 => LK g (lk E 1) fun g t1 => B3 g (Op.load1 [t1] H1) fun g t4 => C3 M g (.func yw) [t4] H1 fun g t5 H2 => RNG3 M yq.keep c 0 ((5, t5)::(2, t2)::E) D H2 (BLK3 0 Q) t5) ∧
 (∀ Q E D H, W M c (qh7 0) true Q E D H =
  LK true (lk E 6) fun g t6 => GO3 g Q .normal ((3, t6)::E) D H) ∧
 (∀ Q E D H, W M c (qh6 0) true Q E D H =
  LK true (lk E 2) fun g t2 => B3 g (Op.load1 [t2] H) fun g t7 => LK g (lk E 3) fun g t3 => C3 M g (.func jb) [t3, (.str [10])] H fun g t9 H1 => CK3 g (Op.load1 [t2] H1) (some t7) fun g => C3 M g (.func jq) [t3, (.str [10])] H1 fun g t11 H2 => CK3 g (Op.load1 [t2] H2) (some t7) fun g => V3 g [t7, t9, t11] fun g f vs => C3 M g f vs H2 fun g t12 H3 => B3 g ((Op.un .not) [t12]) fun g t13 => IF3 g t13 (fun g => GO3 g (BLK3 1 Q) .ret E D H3) (fun g => GO3 g (BLK3 1 Q) .normal E D H3)) := by (repeat' apply And.intro) <;> (intro _ _ _ _; refine W_unf ?_; kernel_rfl)
theorem qiv : (cProg Tryd.prog).func ji = some yu ∧ yu.results = [] := qt (by kernel_rfl)
theorem qh4 {M : Mac} [MK M] : M.func ji = some yu := MK.at (by decide) qiv.1
theorem qps {M : Mac} [MK M] {a0 a1 : AV} {H : AHeap} {Q : AEnd → AHeap → Prop} (h : W M ⟨none, ji⟩ (qir 0) true (FIN3 M [] Q) [(0, a0), (1, a1)] [] H) : CALLE M ji [a0, a1] H Q :=
  calle qh4 (ks := yq) (by kernel_rfl) (by rw [qiv.2]; exact h)
def qch : AFunc := funcAt Tryd.prog yp
def qix : Kp := ⟨[0, 1, 4], false, [0]⟩
def qjh (k : Nat) : Kp × ACode := (qix, part qch.body k)
theorem qi4 (M : Mac) (c : Ctx) : (∀ Q E D H, W M c (qjh 0) true Q E D H =
  LK true (lk E 0) fun g t0 => LK g (lk E 1) fun g t1 => C3 M g (.func j8) [t0, t1, (.int .i64 0), (.int .i64 (-1))] H fun g t7 H1 => GO3 g Q .ret ((4, t7)::(4, .nils)::E) D H1) := by intro _ _ _ _; refine W_unf ?_; kernel_rfl
theorem qiq : (cProg Tryd.prog).func yp = some qch ∧ qch.results = [.tmp 4] := qt (by kernel_rfl)
theorem qn5 {M : Mac} [MK M] : M.func yp = some qch := MK.at (by decide) qiq.1
theorem qp9 {M : Mac} [MK M] {a0 a1 : AV} {H : AHeap} {Q : AEnd → AHeap → Prop} (h : W M ⟨none, yp⟩ (qjh 0) true (FIN3 M [.tmp 4] Q) [(0, a0), (1, a1)] [] H) : CALLE M yp [a0, a1] H Q :=
  calle qn5 (ks := qix) (by kernel_rfl) (by rw [qiq.2]; exact h)
def qdc : AFunc := funcAt Tryd.prog ki
def qka : Kp := ⟨[0, 2, 3, 4, 5], false, [0]⟩
def qkj (k : Nat) : Kp × ACode := (qka, part qdc.body k)
theorem qde (M : Mac) (c : Ctx) : (∀ Q E D H, W M c (qkj 0) true Q E D H =
  LK true (lk E 0) fun g t0 => C3 M g (.func jr) [t0, (.int .i64 10), (.int .i64 64)] H fun g t8 H1 => B3 g ((Op.extract 0) [t8]) fun g t9 => B3 g ((Op.extract 1) [t8]) fun g t10 => B3 g ((Op.eq .iface false) [t10, .nili] H1) fun g t13 => JN (fun (k : Bool → AV → AV → AV → AV → AHeap → Prop) => B3 g (wantV true (some t13)) fun g w => IG3 g w (fun g => C3 M g (.func zd) [t9, (.int .i64 10)] H1 fun g t16 H2 => LK g (lk E 0) fun g t0_1 => B3 g ((Op.bin .eql) [t16, t0_1]) fun g t18 => k g t18 t0_1 t16 t9 H2) (fun g => k g uu uu uu uu H1)) (fun g t18_1 t17_1 t16_1 t15_1 H3 => B3 g (Op.pick [t13, t18_1, (.bool false)]) fun g t19 => GO3 g Q .ret ((3, t19)::(2, t9)::(5, t10)::(4, t9)::(3, (.bool false))::(2, (.int .u64 0))::E) D H3)) := by intro _ _ _ _; refine W_unf ?_; kernel_rfl
theorem qks : (cProg Tryd.prog).func ki = some qdc ∧ qdc.results = [.tmp 2, .tmp 3] := qt (by kernel_rfl)
theorem qpe {M : Mac} [MK M] : M.func ki = some qdc := MK.at (by decide) qks.1
theorem qrl {M : Mac} [MK M] {a0 : AV} {H : AHeap} {Q : AEnd → AHeap → Prop} (h : W M ⟨none, ki⟩ (qkj 0) true (FIN3 M [.tmp 2, .tmp 3] Q) [(0, a0)] [] H) : CALLE M ki [a0] H Q :=
  calle qpe (ks := qka) (by kernel_rfl) (by rw [qks.2]; exact h)
def vj : AFunc := funcAt Tryd.prog z4
def qdp : Kp := ⟨[0, 1, 4, 5, 7, 8], false, [0, 2, 7, 13, 24, 25]⟩
def xb (k : Nat) : Kp × ACode := (qdp, part vj.body k)
theorem vi (M : Mac) (c : Ctx) : (∀ Q E D H, W M c (xb 0) true Q E D H =
  W M c (xb 2) true Q ((4, (.int .i64 0))::E) D H) ∧
 (∀ Q E D H, W M c (xb 2) true Q E D H =
  LK true (lk E 0) fun g t0 => B3 g (Op.lenSl [t0]) fun g t7 => LOOP3 (W M c (xb 7)) (BLK3 0 (SEQ3 (W M c (xb 25)) Q)) ((8, (.int .i64 0))::(7, t7)::E) D H) ∧
 (∀ Q E D H, W M c (xb 25) true Q E D H =
  GO3 true Q .ret ((4, (.int .i64 (-1)))::E) D H) ∧
 (∀ Q E D H, W M c (xb 7) true Q E D H =
  LK true (lk E 8) fun g t8 => LK g (lk E 7) fun g t7 => B3 g ((Op.bin .lss) [t8, t7]) fun g t9 => IF3 g t9 (fun g => GO3 g (SEQ3 (W M c (xb 13)) Q) .normal E D H) (fun g => GO3 g (SEQ3 (W M c (xb 13)) Q) (.exit 0) E D H)) ∧
 (∀ Q E D H, W M c (xb 13) true Q E D H =
  LK true (lk E 8) fun g t8 => LK g (lk E 1) fun g t1 => LK g (lk E 0) fun g t0 => B3 g ((Op.indexSl 1) [t0, t8]) fun g t14 => B3 g (Op.load1 [t14] H) fun g t15 => B3 g ((Op.bin .eql) [t1, t15]) fun g t16 => IF3 g t16 (fun g => GO3 g (BLK3 1 (SEQ3 (W M c (xb 24)) Q)) .ret ((4, t8)::(5, t8)::E) D H) (fun g => GO3 g (BLK3 1 (SEQ3 (W M c (xb 24)) Q)) .normal ((5, t8)::E) D H)) ∧
 (∀ Q E D H, W M c (xb 24) true Q E D H =
  LK true (lk E 8) fun g t8 => B3 g ((Op.bin .add) [t8, (.int .i64 1)]) fun g t18 => GO3 g Q .normal ((8, t18)::E) D H) := by (repeat' apply And.intro) <;> (intro _ _ _ _; refine W_unf ?_; kernel_rfl)
theorem qdw : (cProg Tryd.prog).func z4 = some vj ∧ vj.results = [.tmp 4] := qt (by kernel_rfl)
theorem qib {M : Mac} [MK M] : M.func z4 = some vj := MK.at (by decide) qdw.1
theorem qiw {M : Mac} [MK M] {a0 a1 : AV} {H : AHeap} {Q : AEnd → AHeap → Prop} (h : W M ⟨none, z4⟩ (xb 0) true (FIN3 M [.tmp 4] Q) [(0, a0), (1, a1)] [] H) : CALLE M z4 [a0, a1] H Q :=
  calle qib (ks := qdp) (by kernel_rfl) (by rw [qdw.2]; exact h)
def qb9 : AFunc := funcAt Tryd.prog yw
def qi1 : Kp := ⟨[0, 1, 2], false, [0]⟩
def qjb (k : Nat) : Kp × ACode := (qi1, part qb9.body k)
theorem qoz (M : Mac) (c : Ctx) : (∀ Q E D H, W M c (qjb 0) true Q E D H =
  LK true (lk E 0) fun g t0 => A3 g qp (AV.cells t0) H fun g t1 H1 => B3 g ((Op.mkFunc zi 0) [t1]) fun g t3 => GO3 g Q .ret ((2, t3)::(2, .nilf)::(1, t1)::E) D H1) := by intro _ _ _ _; refine W_unf ?_; kernel_rfl
theorem qi8 : (cProg Tryd.prog).func yw = some qb9 ∧ qb9.results = [.tmp 2] := qt (by kernel_rfl)
theorem qn7 {M : Mac} [MK M] : M.func yw = some qb9 := MK.at (by decide) qi8.1
theorem qqk {M : Mac} [MK M] {a0 : AV} {H : AHeap} {Q : AEnd → AHeap → Prop} (h : W M ⟨none, yw⟩ (qjb 0) true (FIN3 M [.tmp 2] Q) [(0, a0)] [] H) : CALLE M yw [a0] H Q :=
  calle qn7 (ks := qi1) (by kernel_rfl) (by rw [qi8.2]; exact h)
def vv : AFunc := funcAt Tryd.prog jb
def qd8 : Kp := ⟨[0, 1, 4], false, [0]⟩
def qd7 (k : Nat) : Kp × ACode := (qd8, part vv.body k)
theorem qed (M : Mac) (c : Ctx) : (∀ Q E D H, W M c (qd7 0) true Q E D H =
  LK true (lk E 0) fun g t0 => LK g (lk E 1) fun g t1 => C3 M g (.func xj) [t0, t1] H fun g t7 H1 => GO3 g Q .ret ((4, t7)::(4, (.str []))::E) D H1) := by intro _ _ _ _; refine W_unf ?_; kernel_rfl
theorem qea : (cProg Tryd.prog).func jb = some vv ∧ vv.results = [.tmp 4] := qt (by kernel_rfl)
theorem qin {M : Mac} [MK M] : M.func jb = some vv := MK.at (by decide) qea.1
theorem qjw {M : Mac} [MK M] {a0 a1 : AV} {H : AHeap} {Q : AEnd → AHeap → Prop} (h : W M ⟨none, jb⟩ (qd7 0) true (FIN3 M [.tmp 4] Q) [(0, a0), (1, a1)] [] H) : CALLE M jb [a0, a1] H Q :=
  calle qin (ks := qd8) (by kernel_rfl) (by rw [qea.2]; exact h)
def qaa : AFunc := funcAt Tryd.prog jq
def qfp : Kp := ⟨[0, 1, 4], false, [0]⟩
def qfq (k : Nat) : Kp × ACode := (qfp, part qaa.body k)
theorem qfh (M : Mac) (c : Ctx) : (∀ Q E D H, W M c (qfq 0) true Q E D H =
  LK true (lk E 0) fun g t0 => LK g (lk E 1) fun g t1 => C3 M g (.func xc) [t0, t1] H fun g t7 H1 => GO3 g Q .ret ((4, t7)::(4, (.bool false))::E) D H1) := by intro _ _ _ _; refine W_unf ?_; kernel_rfl
theorem qfb : (cProg Tryd.prog).func jq = some qaa ∧ qaa.results = [.tmp 4] := qt (by kernel_rfl)
theorem qj0 {M : Mac} [MK M] : M.func jq = some qaa := MK.at (by decide) qfb.1
theorem qk4 {M : Mac} [MK M] {a0 a1 : AV} {H : AHeap} {Q : AEnd → AHeap → Prop} (h : W M ⟨none, jq⟩ (qfq 0) true (FIN3 M [.tmp 4] Q) [(0, a0), (1, a1)] [] H) : CALLE M jq [a0, a1] H Q :=
  calle qj0 (ks := qfp) (by kernel_rfl) (by rw [qfb.2]; exact h)
def qa0 : AFunc := funcAt Tryd.prog j8
def qga : Kp := ⟨[0, 1, 2, 3, 8, 9, 10, 11], false, [0, 2, 10, 18, 24, 28, 32, 35, 41, 44, 50, 55]⟩
def qj (k : Nat) : Kp × ACode := (qga, part qa0.body k)
theorem vh (M : Mac) (c : Ctx) : (∀ Q E D H, W M c (qj 0) true Q E D H =
  W M c (qj 2) true Q ((8, .nils)::E) D H) ∧
 (∀ Q E D H, W M c (qj 2) true Q E D H =
  LK true (lk E 3) fun g t3 => B3 g ((Op.bin .eql) [t3, (.int .i64 0)]) fun g t13 => IF3 g t13 (fun g => GO3 g (SEQ3 (W M c (qj 10)) Q) .ret ((8, .nils)::E) D H) (fun g => GO3 g (SEQ3 (W M c (qj 10)) Q) .normal E D H)) ∧
 (∀ Q E D H, W M c (qj 10) true Q E D H =
  LK true (lk E 1) fun g t1 => B3 g ((Op.bin .eql) [t1, (.str [])]) fun g t15 => IF3 g t15 (fun g => LK g (lk E 0) fun g t0 => LK g (lk E 3) fun g t3 => C3 M g (.func qmt) [t0, t3] H fun g t18 H1 => GO3 g (SEQ3 (W M c (qj 18)) Q) .ret ((8, t18)::E) D H1) (fun g => GO3 g (SEQ3 (W M c (qj 18)) Q) .normal E D H)) ∧
 (∀ Q E D H, W M c (qj 18) true Q E D H =
  LK true (lk E 3) fun g t3 => B3 g ((Op.bin .lss) [t3, (.int .i64 0)]) fun g t20 => IF3 g t20 (fun g => LK g (lk E 0) fun g t0 => LK g (lk E 1) fun g t1 => C3 M g (.func yt) [t0, t1] H fun g t23 H1 => B3 g ((Op.bin .add) [t23, (.int .i64 1)]) fun g t24 => GO3 g (SEQ3 (W M c (qj 24)) Q) .normal ((3, t24)::E) D H1) (fun g => GO3 g (SEQ3 (W M c (qj 24)) Q) .normal E D H)) ∧
 (∀ Q E D H, W M c (qj 24) true Q E D H =
  LK true (lk E 3) fun g t3 => LK g (lk E 0) fun g t0 => B3 g (Op.lenStr [t0]) fun g t27 => B3 g ((Op.bin .add) [t27, (.int .i64 1)]) fun g t28 => B3 g ((Op.minmax false) [t3, t28]) fun g t29 => B32 g ((Op.mkSlice qp 16 [(.str [])]) [t29, t29]) fun g o1 k1 => W M c (qj 28) g Q ((9, (k1 H.next))::(3, t29)::E) D (H.alloc o1)) ∧
 (∀ Q E D H, W M c (qj 28) true Q E D H =
  LK true (lk E 3) fun g t3 => B3 g ((Op.bin .sub) [t3, (.int .i64 1)]) fun g t33 => W M c (qj 32) g Q ((10, (.int .i64 0))::(3, t33)::E) D H) ∧
 (∀ Q E D H, W M c (qj 32) true Q E D H =
  LOOP3 (W M c (qj 35)) (BLK3 0 (SEQ3 (W M c (qj 55)) Q)) E D H) ∧
 (∀ Q E D H, W M c (qj 55) true Q E D H =
  LK true (lk E 9) fun g t9 => LK g (lk E 10) fun g t10 => LK g (lk E 0) fun g t0 => B3 g ((Op.indexSl 1) [t9, t10]) fun g t61 => B32 g ((Op.store 1) [t61, t0] H) fun g u H1 => LK g (lk E 9) fun g t9_1 => LK g (lk E 10) fun g t10_1 => B3 g ((Op.bin .add) [t10_1, (.int .i64 1)]) fun g t64 => B3 g ((Op.sliceSl 1 [none, (some 0), none]) [t9_1, t64]) fun g t65 => GO3 g Q .ret ((8, t65)::E) D H1) ∧
 (∀ Q E D H, W M c (qj 35) true Q E D H =
  LK true (lk E 10) fun g t10 => LK g (lk E 3) fun g t3 => B3 g ((Op.bin .lss) [t10, t3]) fun g t36 => IF3 g t36 (fun g => GO3 g (SEQ3 (W M c (qj 41)) Q) .normal E D H) (fun g => GO3 g (SEQ3 (W M c (qj 41)) Q) (.exit 0) E D H)) ∧
 (∀ Q E D H, W M c (qj 41) true Q E D H =
  LK true (lk E 0) fun g t0 => LK g (lk E 1) fun g t1 => C3 M g (.func yv) [t0, t1] H fun g t39 H1 => W M c (qj 44) g (BLK3 1 Q) ((11, t39)::E) D H1) ∧
 (∀ Q E D H, W M c (qj 44) true Q E D H =
  LK true (lk E 11) fun g t11 => B3 g ((Op.bin .lss) [t11, (.int .i64 0)]) fun g t41 => IF3 g t41 (fun g => GO3 g (SEQ3 (W M c (qj 50)) Q) (.exit 0) E D H) (fun g => GO3 g (SEQ3 (W M c (qj 50)) Q) .normal E D H)) ∧
 (∀ Q E D H, W M c (qj 50) true Q E D H =
  LK true (lk E 9) fun g t9 => LK g (lk E 10) fun g t10 => LK g (lk E 0) fun g t0 => LK g (lk E 11) fun g t11 => LK g (lk E 2) fun g t2 => B3 g ((Op.bin .add) [t11, t2]) fun g t47 => B3 g ((Op.sliceStr [none, (some 0)]) [t0, t47]) fun g t48 => B3 g ((Op.indexSl 1) [t9, t10]) fun g t49 => B32 g ((Op.store 1) [t49, t48] H) fun g u H1 => LK g (lk E 0) fun g t0_1 => LK g (lk E 11) fun g t11_1 => LK g (lk E 1) fun g t1 => B3 g (Op.lenStr [t1]) fun g t53 => B3 g ((Op.bin .add) [t11_1, t53]) fun g t54 => B3 g ((Op.sliceStr [(some 0), none]) [t0_1, t54]) fun g t55 => LK g (lk E 10) fun g t10_1 => B3 g ((Op.bin .add) [t10_1, (.int .i64 1)]) fun g t57 => GO3 g Q .normal ((10, t57)::(0, t55)::E) D H1) := by (repeat' apply And.intro) <;> (intro _ _ _ _; refine W_unf ?_; kernel_rfl)
theorem qf2 : (cProg Tryd.prog).func j8 = some qa0 ∧ qa0.results = [.tmp 8] := qt (by kernel_rfl)
theorem qk1 {M : Mac} [MK M] : M.func j8 = some qa0 := MK.at (by decide) qf2.1
theorem qlz {M : Mac} [MK M] {a0 a1 a2 a3 : AV} {H : AHeap} {Q : AEnd → AHeap → Prop} (h : W M ⟨none, j8⟩ (qj 0) true (FIN3 M [.tmp 8] Q) [(0, a0), (1, a1), (2, a2), (3, a3)] [] H) : CALLE M j8 [a0, a1, a2, a3] H Q :=
  calle qk1 (ks := qga) (by kernel_rfl) (by rw [qf2.2]; exact h)
def wz : AFunc := funcAt Tryd.prog jr
def qfk : Kp := ⟨[0, 1, 2, 6, 7, 8, 9], false, [0, 4, 12]⟩
def jp (k : Nat) : Kp × ACode := (qfk, part wz.body k)
theorem qac (M : Mac) (c : Ctx) : (∀ Q E D H, W M c (jp 0) true Q E D H =
  LK true (lk E 0) fun g t0 => LK g (lk E 1) fun g t1 => LK g (lk E 2) fun g t2 => C3 M g (.func qy) [t0, t1, t2] H fun g t14 H1 => B3 g ((Op.extract 0) [t14]) fun g t15 => B3 g ((Op.extract 1) [t14]) fun g t16 => W M c (jp 4) g Q ((9, t16)::(8, t15)::(7, .nili)::(6, (.int .u64 0))::E) D H1) ∧
 (∀ Q E D H, W M c (jp 4) true Q E D H =
  LK true (lk E 9) fun g t9 => B3 g ((Op.eq .iface true) [t9, .nili] H) fun g t18 => IF3 g t18 (fun g => LK g (lk E 8) fun g t8 => LK g (lk E 0) fun g t0 => LK g (lk E 1) fun g t1 => LK g (lk E 2) fun g t2 => LK g (lk E 9) fun g t9_1 => C3 M g (.func ke) [(.str [80, 97, 114, 115, 101, 85, 105, 110, 116]), t0, t1, t2, t9_1] H fun g t24 H1 => GO3 g (SEQ3 (W M c (jp 12)) Q) .ret ((7, t24)::(6, t8)::E) D H1) (fun g => GO3 g (SEQ3 (W M c (jp 12)) Q) .normal E D H)) ∧
 (∀ Q E D H, W M c (jp 12) true Q E D H =
  LK true (lk E 8) fun g t8 => GO3 g Q .ret ((7, .nili)::(6, t8)::E) D H) := by (repeat' apply And.intro) <;> (intro _ _ _ _; refine W_unf ?_; kernel_rfl)
theorem qfd : (cProg Tryd.prog).func jr = some wz ∧ wz.results = [.tmp 6, .tmp 7] := qt (by kernel_rfl)
theorem qjv {M : Mac} [MK M] : M.func jr = some wz := MK.at (by decide) qfd.1
theorem qku {M : Mac} [MK M] {a0 a1 a2 : AV} {H : AHeap} {Q : AEnd → AHeap → Prop} (h : W M ⟨none, jr⟩ (jp 0) true (FIN3 M [.tmp 6, .tmp 7] Q) [(0, a0), (1, a1), (2, a2)] [] H) : CALLE M jr [a0, a1, a2] H Q :=
  calle qjv (ks := qfk) (by kernel_rfl) (by rw [qfd.2]; exact h)
def qbh : AFunc := funcAt Tryd.prog zi
def qgy : Kp := ⟨[0, 1, 3, 4], false, [0, 2, 8, 11, 19]⟩
def x3 (k : Nat) : Kp × ACode := (qgy, part qbh.body k)
theorem qg9 (M : Mac) (c : Ctx) : (∀ Q E D H, W M c (x3 0) true Q E D H =
  LOOP3 (W M c (x3 2)) (BLK3 0 Q) E D H) ∧
 (∀ Q E D H, W M c (x3 2) true Q E D H =
  LK true (lk E 1) fun g t1 => B3 g (Op.load1 [t1] H) fun g t5 => B3 g (Op.lenStr [t5]) fun g t6 => B3 g ((Op.bin .gtr) [t6, (.int .i64 0)]) fun g t7 => IF3 g t7 (fun g => GO3 g (SEQ3 (W M c (x3 8)) Q) .normal E D H) (fun g => GO3 g (SEQ3 (W M c (x3 8)) Q) (.exit 0) E D H)) ∧
 (∀ Q E D H, W M c (x3 8) true Q E D H =
  W M c (x3 11) true (BLK3 1 Q) ((3, (.str []))::E) D H) ∧
 (∀ Q E D H, W M c (x3 11) true Q E D H =
  LK true (lk E 1) fun g t1 => B3 g (Op.load1 [t1] H) fun g t8 => C3 M g (.func zy) [t8, (.int .u8 10)] H fun g t9 H1 => B3 g ((Op.bin .geq) [t9, (.int .i64 0)]) fun g t11 => IF3 g t11 (fun g => LK g (lk E 1) fun g t1_1 => B3 g (Op.load1 [t1_1] H1) fun g t12 => B3 g ((Op.bin .add) [t9, (.int .i64 1)]) fun g t14 => B3 g ((Op.sliceStr [none, (some 0)]) [t12, t14]) fun g t15 => B3 g (Op.load1 [t1_1] H1) fun g t16 => B3 g ((Op.bin .add) [t9, (.int .i64 1)]) fun g t18 => B3 g ((Op.sliceStr [(some 0), none]) [t16, t18]) fun g t19 => B32 g ((Op.store 1) [t1_1, t19] H1) fun g u H2 => GO3 g (SEQ3 (W M c (x3 19)) Q) .normal ((3, t15)::(4, t9)::E) D H2) (fun g => LK g (lk E 1) fun g t1_1 => B3 g (Op.load1 [t1_1] H1) fun g t20 => B32 g ((Op.store 1) [t1_1, (.str [])] H1) fun g u H2 => GO3 g (SEQ3 (W M c (x3 19)) Q) .normal ((3, t20)::(4, t9)::E) D H2)) ∧
 (∀ Q E D H, W M c (x3 19) true Q E D H =
  LK true (lk E 0) fun g t0 => LK g (lk E 3) fun g t3 => V3 g [t0, t3] fun g f vs => C3 M g f vs H fun g t23 H1 => B3 g ((Op.un .not) [t23]) fun g t24 => IF3 g t24 (fun g => GO3 g Q .ret E D H1) (fun g => GO3 g Q .normal E D H1)) := by (repeat' apply And.intro) <;> (intro _ _ _ _; refine W_unf ?_; kernel_rfl)
theorem qgu : (cProg Tryd.prog).func zi = some qbh ∧ qbh.results = [] := qt (by kernel_rfl)
theorem ql4 {M : Mac} [MK M] : M.func zi = some qbh := MK.at (by decide) qgu.1
theorem qml {M : Mac} [MK M] {a0 a1 : AV} {H : AHeap} {Q : AEnd → AHeap → Prop} (h : W M ⟨none, zi⟩ (x3 0) true (FIN3 M [] Q) [(0, a0), (1, a1)] [] H) : CALLE M zi [a0, a1] H Q :=
  calle ql4 (ks := qgy) (by kernel_rfl) (by rw [qgu.2]; exact h)
def zo : AFunc := funcAt Tryd.prog xj
def vd : Kp := ⟨[0, 1, 4], false, [0, 2, 10]⟩
def xk (k : Nat) : Kp × ACode := (vd, part zo.body k)
theorem j6 (M : Mac) (c : Ctx) : (∀ Q E D H, W M c (xk 0) true Q E D H =
  W M c (xk 2) true Q ((4, (.str []))::E) D H) ∧
 (∀ Q E D H, W M c (xk 2) true Q E D H =
  LK true (lk E 0) fun g t0 => LK g (lk E 1) fun g t1 => C3 M g (.func xc) [t0, t1] H fun g t7 H1 => IF3 g t7 (fun g => LK g (lk E 0) fun g t0_1 => B3 g (Op.lenStr [t0_1]) fun g t10 => LK g (lk E 1) fun g t1_1 => B3 g (Op.lenStr [t1_1]) fun g t12 => B3 g ((Op.bin .sub) [t10, t12]) fun g t13 => B3 g ((Op.sliceStr [none, (some 0)]) [t0_1, t13]) fun g t14 => GO3 g (SEQ3 (W M c (xk 10)) Q) .ret ((4, t14)::E) D H1) (fun g => GO3 g (SEQ3 (W M c (xk 10)) Q) .normal E D H1)) ∧
 (∀ Q E D H, W M c (xk 10) true Q E D H =
  LK true (lk E 0) fun g t0 => GO3 g Q .ret ((4, t0)::E) D H) := by (repeat' apply And.intro) <;> (intro _ _ _ _; refine W_unf ?_; kernel_rfl)
theorem vg : (cProg Tryd.prog).func xj = some zo ∧ zo.results = [.tmp 4] := qt (by kernel_rfl)
theorem qb7 {M : Mac} [MK M] : M.func xj = some zo := MK.at (by decide) vg.1
theorem qcn {M : Mac} [MK M] {a0 a1 : AV} {H : AHeap} {Q : AEnd → AHeap → Prop} (h : W M ⟨none, xj⟩ (xk 0) true (FIN3 M [.tmp 4] Q) [(0, a0), (1, a1)] [] H) : CALLE M xj [a0, a1] H Q :=
  calle qb7 (ks := vd) (by kernel_rfl) (by rw [vg.2]; exact h)
def zt : AFunc := funcAt Tryd.prog xc
def vr : Kp := ⟨[0, 1, 4], false, [0]⟩
def vo (k : Nat) : Kp × ACode := (vr, part zt.body k)
theorem vt (M : Mac) (c : Ctx) : (∀ Q E D H, W M c (vo 0) true Q E D H =
  LK true (lk E 0) fun g t0 => B3 g (Op.lenStr [t0]) fun g t6 => LK g (lk E 1) fun g t1 => B3 g (Op.lenStr [t1]) fun g t8 => B3 g ((Op.bin .geq) [t6, t8]) fun g t9 => JN (fun (k : Bool → AV → AV → AV → AV → AV → AV → AV → AV → AV → AHeap → Prop) => B3 g (wantV true (some t9)) fun g w => IG3 g w (fun g => B3 g (Op.lenStr [t0]) fun g t13 => B3 g (Op.lenStr [t1]) fun g t15 => B3 g ((Op.bin .sub) [t13, t15]) fun g t16 => B3 g ((Op.sliceStr [(some 0), none]) [t0, t16]) fun g t17 => B3 g ((Op.bin .eql) [t17, t1]) fun g t19 => k g t19 t1 t17 t16 t15 t1 t13 t0 t0 H) (fun g => k g uu uu uu uu uu uu uu uu uu H)) (fun g t19_1 t18_1 t17_1 t16_1 t15_1 t14_1 t13_1 t12_1 t11_1 H1 => B3 g (Op.pick [t9, t19_1, (.bool false)]) fun g t20 => GO3 g Q .ret ((4, t20)::(4, (.bool false))::E) D H1)) := by intro _ _ _ _; refine W_unf ?_; kernel_rfl
theorem vp : (cProg Tryd.prog).func xc = some zt ∧ zt.results = [.tmp 4] := qt (by kernel_rfl)
theorem qcj {M : Mac} [MK M] : M.func xc = some zt := MK.at (by decide) vp.1
theorem qcu {M : Mac} [MK M] {a0 a1 : AV} {H : AHeap} {Q : AEnd → AHeap → Prop} (h : W M ⟨none, xc⟩ (vo 0) true (FIN3 M [.tmp 4] Q) [(0, a0), (1, a1)] [] H) : CALLE M xc [a0, a1] H Q :=
  calle qcj (ks := vr) (by kernel_rfl) (by rw [vp.2]; exact h)
def qcg : AFunc := funcAt Tryd.prog yt
def qi5 : Kp := ⟨[0, 1, 4, 5, 6], false, [0, 2, 10, 18, 22, 25, 33]⟩
def zz (k : Nat) : Kp × ACode := (qi5, part qcg.body k)
theorem qpf (M : Mac) (c : Ctx) : (∀ Q E D H, W M c (zz 0) true Q E D H =
  W M c (zz 2) true Q ((4, (.int .i64 0))::E) D H) ∧
 (∀ Q E D H, W M c (zz 2) true Q E D H =
  LK true (lk E 1) fun g t1 => B3 g (Op.lenStr [t1]) fun g t8 => B3 g ((Op.bin .eql) [t8, (.int .i64 0)]) fun g t9 => IF3 g t9 (fun g => LK g (lk E 0) fun g t0 => C3 M g (.func qcw) [t0] H fun g t11 H1 => B3 g ((Op.bin .add) [t11, (.int .i64 1)]) fun g t12 => GO3 g (SEQ3 (W M c (zz 10)) Q) .ret ((4, t12)::E) D H1) (fun g => GO3 g (SEQ3 (W M c (zz 10)) Q) .normal E D H)) ∧
 (∀ Q E D H, W M c (zz 10) true Q E D H =
  LK true (lk E 1) fun g t1 => B3 g (Op.lenStr [t1]) fun g t14 => B3 g ((Op.bin .eql) [t14, (.int .i64 1)]) fun g t15 => IF3 g t15 (fun g => LK g (lk E 0) fun g t0 => LK g (lk E 1) fun g t1_1 => B3 g (Op.indexStr [t1_1, (.int .i64 0)]) fun g t18 => B3 g (Op.countString [t0, t18]) fun g t19 => GO3 g (SEQ3 (W M c (zz 18)) Q) .ret ((4, t19)::E) D H) (fun g => GO3 g (SEQ3 (W M c (zz 18)) Q) .normal E D H)) ∧
 (∀ Q E D H, W M c (zz 18) true Q E D H =
  LOOP3 (W M c (zz 22)) (BLK3 0 Q) ((5, (.int .i64 0))::E) D H) := by (repeat' apply And.intro) <;> (intro _ _ _ _; refine W_unf ?_; kernel_rfl)
theorem qja : (cProg Tryd.prog).func yt = some qcg ∧ qcg.results = [.tmp 4] := qt (by kernel_rfl)
theorem qn2 {M : Mac} [MK M] : M.func yt = some qcg := MK.at (by decide) qja.1
theorem qqe {M : Mac} [MK M] {a0 a1 : AV} {H : AHeap} {Q : AEnd → AHeap → Prop} (h : W M ⟨none, yt⟩ (zz 0) true (FIN3 M [.tmp 4] Q) [(0, a0), (1, a1)] [] H) : CALLE M yt [a0, a1] H Q :=
  calle qn2 (ks := qi5) (by kernel_rfl) (by rw [qja.2]; exact h)
def qcp : AFunc := funcAt Tryd.prog yv
def qiu : Kp := ⟨[0, 1, 4], false, [0]⟩
def qje (k : Nat) : Kp × ACode := (qiu, part qcp.body k)
theorem qi7 (M : Mac) (c : Ctx) : (∀ Q E D H, W M c (qje 0) true Q E D H =
  LK true (lk E 0) fun g t0 => LK g (lk E 1) fun g t1 => C3 M g (.func xn) [t0, t1] H fun g t7 H1 => GO3 g Q .ret ((4, t7)::(4, (.int .i64 0))::E) D H1) := by intro _ _ _ _; refine W_unf ?_; kernel_rfl
theorem qjd : (cProg Tryd.prog).func yv = some qcp ∧ qcp.results = [.tmp 4] := qt (by kernel_rfl)
theorem qn0 {M : Mac} [MK M] : M.func yv = some qcp := MK.at (by decide) qjd.1
theorem qp1 {M : Mac} [MK M] {a0 a1 : AV} {H : AHeap} {Q : AEnd → AHeap → Prop} (h : W M ⟨none, yv⟩ (qje 0) true (FIN3 M [.tmp 4] Q) [(0, a0), (1, a1)] [] H) : CALLE M yv [a0, a1] H Q :=
  calle qn0 (ks := qiu) (by kernel_rfl) (by rw [qjd.2]; exact h)
def jz : AFunc := funcAt Tryd.prog qy
def qav : Kp := ⟨[0, 1, 2, 6, 7, 8, 9, 10, 11, 12, 13, 15, 16, 17, 85, 99, 100, 101], false, [0, 2, 10, 14, 23, 35, 54, 66, 68, 81, 85, 87, 92, 98, 104, 116, 123, 131, 139, 143, 151, 152, 153, 161]⟩
def qa (k : Nat) : Kp × ACode := (qav, part jz.body k)
theorem qe1 (M : Mac) (c : Ctx) : (∀ Q E D H, W M c (qa 0) true Q E D H =
  W M c (qa 2) true Q ((7, .nili)::(6, (.int .u64 0))::E) D H) ∧
 (∀ Q E D H, W M c (qa 2) true Q E D H =
  LK true (lk E 0) fun g t0 => B3 g ((Op.bin .eql) [t0, (.str [])]) fun g t19 => IF3 g t19 (fun g => B3 g ((Op.mkIface ql) [(.int .i64 2)]) fun g t20 => GO3 g (SEQ3 (W M c (qa 10)) Q) .ret ((7, t20)::(6, (.int .u64 0))::E) D H) (fun g => GO3 g (SEQ3 (W M c (qa 10)) Q) .normal E D H)) ∧
 (∀ Q E D H, W M c (qa 10) true Q E D H =
  LK true (lk E 1) fun g t1 => B3 g ((Op.bin .eql) [t1, (.int .i64 0)]) fun g t22 => LK g (lk E 0) fun g t0 => W M c (qa 14) g Q ((9, t0)::(8, t22)::E) D H) ∧
 (∀ Q E D H, W M c (qa 14) true Q E D H =
  LK true (lk E 1) fun g t1 => B3 g ((Op.bin .leq) [(.int .i64 2), t1]) fun g t27 => JN (fun (k : Bool → AV → AV → AHeap → Prop) => B3 g (wantV true (some t27)) fun g w => IG3 g w (fun g => B3 g ((Op.bin .leq) [t1, (.int .i64 36)]) fun g t30 => k g t30 t1 H) (fun g => k g uu uu H)) (fun g t30_1 t29_1 H1 => B3 g (Op.pick [t27, t30_1, (.bool false)]) fun g t31 => IF3 g t31 (fun g => GO3 g (BLK3 0 (SEQ3 (W M c (qa 54)) Q)) .normal E D H1) (fun g => LK g (lk E 1) fun g t1_1 => B3 g ((Op.bin .eql) [t1_1, (.int .i64 0)]) fun g t34 => IF3 g t34 (fun g => W M c (qa 23) g (BLK3 0 (SEQ3 (W M c (qa 54)) Q)) E D H1) (fun g => B3 g ((Op.mkIface ql) [(.int .i64 3)]) fun g t24 => GO3 g (BLK3 0 (SEQ3 (W M c (qa 54)) Q)) .ret ((7, t24)::(6, (.int .u64 0))::E) D H1)))) ∧
 (∀ Q E D H, W M c (qa 54) true Q E D H =
  LK true (lk E 2) fun g t2 => B3 g ((Op.bin .eql) [t2, (.int .i64 0)]) fun g t77 => IF3 g t77 (fun g => GO3 g (SEQ3 (W M c (qa 66)) Q) .normal ((2, (.int .i64 64))::E) D H) (fun g => LK g (lk E 2) fun g t2_1 => B3 g ((Op.bin .lss) [t2_1, (.int .i64 0)]) fun g t79 => JN (fun (k : Bool → AV → AV → AHeap → Prop) => B3 g (wantV false (some t79)) fun g w => IG3 g w (fun g => B3 g ((Op.bin .gtr) [t2_1, (.int .i64 64)]) fun g t82 => k g t82 t2_1 H) (fun g => k g uu uu H)) (fun g t82_1 t81_1 H1 => B3 g (Op.pick [t79, (.bool true), t82_1]) fun g t83 => IF3 g t83 (fun g => B3 g ((Op.mkIface ql) [(.int .i64 4)]) fun g t84 => GO3 g (SEQ3 (W M c (qa 66)) Q) .ret ((7, t84)::(6, (.int .u64 0))::E) D H1) (fun g => GO3 g (SEQ3 (W M c (qa 66)) Q) .normal E D H1)))) ∧
 (∀ Q E D H, W M c (qa 23) true Q E D H =
  LK true (lk E 0) fun g t0 => B3 g (Op.indexStr [t0, (.int .i64 0)]) fun g t36 => B3 g ((Op.bin .eql) [t36, (.int .u8 48)]) fun g t37 => IF3 g t37 (fun g => LK g (lk E 0) fun g t0_1 => B3 g (Op.lenStr [t0_1]) fun g t42 => B3 g ((Op.bin .geq) [t42, (.int .i64 3)]) fun g t43 => JN (fun (k : Bool → AV → AV → AV → AV → AHeap → Prop) => B3 g (wantV true (some t43)) fun g w => IG3 g w (fun g => B3 g (Op.indexStr [t0_1, (.int .i64 1)]) fun g t46 => C3 M g (.func xa) [t46] H fun g t47 H1 => B3 g ((Op.bin .eql) [t47, (.int .u8 98)]) fun g t48 => k g t48 t47 t46 t0_1 H1) (fun g => k g uu uu uu uu H)) (fun g t48_1 t47_1 t46_1 t45_1 H2 => B3 g (Op.pick [t43, t48_1, (.bool false)]) fun g t49 => IF3 g t49 (fun g => LK g (lk E 0) fun g t0_2 => B3 g ((Op.sliceStr [(some 0), none]) [t0_2, (.int .i64 2)]) fun g t51 => GO3 g (BLK3 1 Q) .normal ((0, t51)::(1, (.int .i64 2))::(1, (.int .i64 10))::E) D H2) (fun g => W M c (qa 35) g (BLK3 1 Q) ((1, (.int .i64 10))::E) D H2))) (fun g => GO3 g Q .normal ((1, (.int .i64 10))::E) D H)) ∧
 (∀ Q E D H, W M c (qa 66) true Q E D H =
  W M c (qa 68) true Q ((10, (.int .u64 0))::E) D H) ∧
 (∀ Q E D H, W M c (qa 35) true Q E D H =
  LK true (lk E 0) fun g t0 => B3 g (Op.lenStr [t0]) fun g t54 => B3 g ((Op.bin .geq) [t54, (.int .i64 3)]) fun g t55 => JN (fun (k : Bool → AV → AV → AV → AV → AHeap → Prop) => B3 g (wantV true (some t55)) fun g w => IG3 g w (fun g => B3 g (Op.indexStr [t0, (.int .i64 1)]) fun g t58 => C3 M g (.func xa) [t58] H fun g t59 H1 => B3 g ((Op.bin .eql) [t59, (.int .u8 111)]) fun g t60 => k g t60 t59 t58 t0 H1) (fun g => k g uu uu uu uu H)) (fun g t60_1 t59_1 t58_1 t57_1 H2 => B3 g (Op.pick [t55, t60_1, (.bool false)]) fun g t61 => IF3 g t61 (fun g => LK g (lk E 0) fun g t0_1 => B3 g ((Op.sliceStr [(some 0), none]) [t0_1, (.int .i64 2)]) fun g t63 => GO3 g Q .normal ((0, t63)::(1, (.int .i64 8))::E) D H2) (fun g => LK g (lk E 0) fun g t0_1 => B3 g (Op.lenStr [t0_1]) fun g t66 => B3 g ((Op.bin .geq) [t66, (.int .i64 3)]) fun g t67 => JN (fun (k : Bool → AV → AV → AV → AV → AHeap → Prop) => B3 g (wantV true (some t67)) fun g w => IG3 g w (fun g => B3 g (Op.indexStr [t0_1, (.int .i64 1)]) fun g t70 => C3 M g (.func xa) [t70] H2 fun g t71 H3 => B3 g ((Op.bin .eql) [t71, (.int .u8 120)]) fun g t72 => k g t72 t71 t70 t0_1 H3) (fun g => k g uu uu uu uu H2)) (fun g t72_1 t71_1 t70_1 t69_1 H4 => B3 g (Op.pick [t67, t72_1, (.bool false)]) fun g t73 => IF3 g t73 (fun g => LK g (lk E 0) fun g t0_2 => B3 g ((Op.sliceStr [(some 0), none]) [t0_2, (.int .i64 2)]) fun g t75 => GO3 g Q .normal ((0, t75)::(1, (.int .i64 16))::E) D H4) (fun g => LK g (lk E 0) fun g t0_2 => B3 g ((Op.sliceStr [(some 0), none]) [t0_2, (.int .i64 1)]) fun g t39 => GO3 g Q .normal ((0, t39)::(1, (.int .i64 8))::E) D H4))))) ∧
 (∀ Q E D H, W M c (qa 68) true Q E D H =
  LK true (lk E 1) fun g t1 => B3 g ((Op.bin .eql) [t1, (.int .i64 10)]) fun g t91 => IF3 g t91 (fun g => GO3 g (BLK3 2 (SEQ3 (W M c (qa 81)) Q)) .normal ((10, (.int .u64 1844674407370955162))::(85, t1)::E) D H) (fun g => B3 g ((Op.bin .eql) [t1, (.int .i64 16)]) fun g t93 => IF3 g t93 (fun g => GO3 g (BLK3 2 (SEQ3 (W M c (qa 81)) Q)) .normal ((10, (.int .u64 1152921504606846976))::(85, t1)::E) D H) (fun g => LK g (lk E 1) fun g t1_1 => B3 g ((Op.wrap .u64) [t1_1]) fun g t87 => B3 g ((Op.bin .quo) [(.int .u64 18446744073709551615), t87]) fun g t88 => B3 g ((Op.bin .add) [t88, (.int .u64 1)]) fun g t89 => GO3 g (BLK3 2 (SEQ3 (W M c (qa 81)) Q)) .normal ((10, t89)::(85, t1)::E) D H))) ∧
 (∀ Q E D H, W M c (qa 81) true Q E D H =
  LK true (lk E 2) fun g t2 => B3 g ((Op.wrap .u64) [t2]) fun g t95 => B3 g ((Op.bin .shl) [(.int .u64 1), t95]) fun g t96 => B3 g ((Op.bin .sub) [t96, (.int .u64 1)]) fun g t97 => W M c (qa 85) g Q ((12, (.bool false))::(11, t97)::E) D H) ∧
 (∀ Q E D H, W M c (qa 85) true Q E D H =
  W M c (qa 87) true Q ((13, (.int .u64 0))::E) D H) ∧
 (∀ Q E D H, W M c (qa 87) true Q E D H =
  LK true (lk E 0) fun g t0 => B32 g ((Op.bytesOfStr zq) [t0]) fun g o1 k1 => B3 g (Op.lenSl [(k1 H.next)]) fun g t100 => LOOP3 (W M c (qa 92)) (BLK3 3 (SEQ3 (W M c (qa 153)) Q)) ((101, (.int .i64 0))::(100, t100)::(99, (k1 H.next))::E) D (H.alloc o1)) ∧
 (∀ Q E D H, W M c (qa 153) true Q E D H =
  LK true (lk E 12) fun g t12 => JN (fun (k : Bool → AV → AV → AV → AHeap → Prop) => B3 g (wantV true (some t12)) fun g w => IG3 g w (fun g => LK g (lk E 9) fun g t9 => C3 M g (.func qc8) [t9] H fun g t167 H1 => B3 g ((Op.un .not) [t167]) fun g t168 => k g t168 t167 t9 H1) (fun g => k g uu uu uu H)) (fun g t168_1 t167_1 t166_1 H2 => B3 g (Op.pick [t12, t168_1, (.bool false)]) fun g t169 => IF3 g t169 (fun g => B3 g ((Op.mkIface ql) [(.int .i64 2)]) fun g t170 => GO3 g (SEQ3 (W M c (qa 161)) Q) .ret ((7, t170)::(6, (.int .u64 0))::E) D H2) (fun g => GO3 g (SEQ3 (W M c (qa 161)) Q) .normal E D H2))) ∧
 (∀ Q E D H, W M c (qa 92) true Q E D H =
  LK true (lk E 101) fun g t101 => LK g (lk E 100) fun g t100 => B3 g ((Op.bin .lss) [t101, t100]) fun g t102 => IF3 g t102 (fun g => GO3 g (SEQ3 (W M c (qa 98)) Q) .normal E D H) (fun g => GO3 g (SEQ3 (W M c (qa 98)) Q) (.exit 3) E D H)) ∧
 (∀ Q E D H, W M c (qa 161) true Q E D H =
  LK true (lk E 13) fun g t13 => GO3 g Q .ret ((7, .nili)::(6, t13)::E) D H) ∧
 (∀ Q E D H, W M c (qa 98) true Q E D H =
  LK true (lk E 99) fun g t99 => LK g (lk E 101) fun g t101 => B3 g ((Op.indexSl 1) [t99, t101]) fun g t103 => B3 g (Op.load1 [t103] H) fun g t104 => W M c (qa 104) g (BLK3 4 (SEQ3 (W M c (qa 152)) Q)) ((16, (.int .u8 0))::(15, t104)::E) D H) ∧
 (∀ Q E D H, W M c (qa 152) true Q E D H =
  LK true (lk E 101) fun g t101 => B3 g ((Op.bin .add) [t101, (.int .i64 1)]) fun g t163 => GO3 g Q .normal ((101, t163)::E) D H) ∧
 (∀ Q E D H, W M c (qa 104) true Q E D H =
  LK true (lk E 15) fun g t15 => B3 g ((Op.bin .eql) [t15, (.int .u8 95)]) fun g t108 => JN (fun (k : Bool → AV → AHeap → Prop) => B3 g (wantV true (some t108)) fun g w => IG3 g w (fun g => LK g (lk E 8) fun g t8 => k g t8 H) (fun g => k g uu H)) (fun g t110_1 H1 => B3 g (Op.pick [t108, t110_1, (.bool false)]) fun g t111 => IF3 g t111 (fun g => GO3 g (BLK3 5 (SEQ3 (W M c (qa 123)) Q)) (.exit 4) ((12, (.bool true))::E) D H1) (fun g => LK g (lk E 15) fun g t15_1 => B3 g ((Op.bin .leq) [(.int .u8 48), t15_1]) fun g t114 => JN (fun (k : Bool → AV → AV → AHeap → Prop) => B3 g (wantV true (some t114)) fun g w => IG3 g w (fun g => B3 g ((Op.bin .leq) [t15_1, (.int .u8 57)]) fun g t117 => k g t117 t15_1 H1) (fun g => k g uu uu H1)) (fun g t117_1 t116_1 H2 => B3 g (Op.pick [t114, t117_1, (.bool false)]) fun g t118 => IF3 g t118 (fun g => LK g (lk E 15) fun g t15_2 => B3 g ((Op.bin .sub) [t15_2, (.int .u8 48)]) fun g t120 => GO3 g (BLK3 5 (SEQ3 (W M c (qa 123)) Q)) .normal ((16, t120)::E) D H2) (fun g => W M c (qa 116) g (BLK3 5 (SEQ3 (W M c (qa 123)) Q)) E D H2))))) ∧
 (∀ Q E D H, W M c (qa 123) true Q E D H =
  LK true (lk E 16) fun g t16 => LK g (lk E 1) fun g t1 => B3 g ((Op.wrap .u8) [t1]) fun g t136 => B3 g ((Op.bin .geq) [t16, t136]) fun g t137 => IF3 g t137 (fun g => B3 g ((Op.mkIface ql) [(.int .i64 2)]) fun g t138 => GO3 g (SEQ3 (W M c (qa 131)) Q) .ret ((7, t138)::(6, (.int .u64 0))::E) D H) (fun g => GO3 g (SEQ3 (W M c (qa 131)) Q) .normal E D H)) ∧
 (∀ Q E D H, W M c (qa 116) true Q E D H =
  LK true (lk E 15) fun g t15 => C3 M g (.func xa) [t15] H fun g t123 H1 => B3 g ((Op.bin .leq) [(.int .u8 97), t123]) fun g t124 => JN (fun (k : Bool → AV → AV → AV → AHeap → Prop) => B3 g (wantV true (some t124)) fun g w => IG3 g w (fun g => C3 M g (.func xa) [t15] H1 fun g t127 H2 => B3 g ((Op.bin .leq) [t127, (.int .u8 122)]) fun g t128 => k g t128 t127 t15 H2) (fun g => k g uu uu uu H1)) (fun g t128_1 t127_1 t126_1 H3 => B3 g (Op.pick [t124, t128_1, (.bool false)]) fun g t129 => IF3 g t129 (fun g => LK g (lk E 15) fun g t15_1 => C3 M g (.func xa) [t15_1] H3 fun g t131 H4 => B3 g ((Op.bin .sub) [t131, (.int .u8 97)]) fun g t132 => B3 g ((Op.bin .add) [t132, (.int .u8 10)]) fun g t133 => GO3 g Q .normal ((16, t133)::E) D H4) (fun g => B3 g ((Op.mkIface ql) [(.int .i64 2)]) fun g t105 => GO3 g Q .ret ((7, t105)::(6, (.int .u64 0))::E) D H3))) ∧
 (∀ Q E D H, W M c (qa 131) true Q E D H =
  LK true (lk E 13) fun g t13 => LK g (lk E 10) fun g t10 => B3 g ((Op.bin .geq) [t13, t10]) fun g t141 => IF3 g t141 (fun g => LK g (lk E 11) fun g t11 => B3 g ((Op.mkIface ql) [(.int .i64 1)]) fun g t143 => GO3 g (SEQ3 (W M c (qa 139)) Q) .ret ((7, t143)::(6, t11)::E) D H) (fun g => GO3 g (SEQ3 (W M c (qa 139)) Q) .normal E D H)) ∧
 (∀ Q E D H, W M c (qa 139) true Q E D H =
  LK true (lk E 13) fun g t13 => LK g (lk E 1) fun g t1 => B3 g ((Op.wrap .u64) [t1]) fun g t146 => B3 g ((Op.bin .mul) [t13, t146]) fun g t147 => LK g (lk E 16) fun g t16 => B3 g ((Op.wrap .u64) [t16]) fun g t150 => B3 g ((Op.bin .add) [t147, t150]) fun g t151 => W M c (qa 143) g Q ((17, t151)::(13, t147)::E) D H) ∧
 (∀ Q E D H, W M c (qa 143) true Q E D H =
  LK true (lk E 17) fun g t17 => LK g (lk E 13) fun g t13 => B3 g ((Op.bin .lss) [t17, t13]) fun g t154 => JN (fun (k : Bool → AV → AV → AV → AHeap → Prop) => B3 g (wantV false (some t154)) fun g w => IG3 g w (fun g => LK g (lk E 11) fun g t11 => B3 g ((Op.bin .gtr) [t17, t11]) fun g t158 => k g t158 t11 t17 H) (fun g => k g uu uu uu H)) (fun g t158_1 t157_1 t156_1 H1 => B3 g (Op.pick [t154, (.bool true), t158_1]) fun g t159 => IF3 g t159 (fun g => LK g (lk E 11) fun g t11_1 => B3 g ((Op.mkIface ql) [(.int .i64 1)]) fun g t161 => GO3 g (SEQ3 (W M c (qa 151)) Q) .ret ((7, t161)::(6, t11_1)::E) D H1) (fun g => GO3 g (SEQ3 (W M c (qa 151)) Q) .normal E D H1))) ∧
 (∀ Q E D H, W M c (qa 151) true Q E D H =
  LK true (lk E 17) fun g t17 => GO3 g Q .normal ((13, t17)::E) D H) := by (repeat' apply And.intro) <;> (intro _ _ _ _; refine W_unf ?_; kernel_rfl)
theorem qay : (cProg Tryd.prog).func qy = some jz ∧ jz.results = [.tmp 6, .tmp 7] := qt (by kernel_rfl)
theorem qdy {M : Mac} [MK M] : M.func qy = some jz := MK.at (by decide) qay.1
theorem qek {M : Mac} [MK M] {a0 a1 a2 : AV} {H : AHeap} {Q : AEnd → AHeap → Prop} (h : W M ⟨none, qy⟩ (qa 0) true (FIN3 M [.tmp 6, .tmp 7] Q) [(0, a0), (1, a1), (2, a2)] [] H) : CALLE M qy [a0, a1, a2] H Q :=
  calle qdy (ks := qav) (by kernel_rfl) (by rw [qay.2]; exact h)
def qbi : AFunc := funcAt Tryd.prog ke
def qgz : Kp := ⟨[0, 1, 2, 3, 4, 10, 11], false, [0, 2, 18, 31]⟩
def zl (k : Nat) : Kp × ACode := (qgz, part qbi.body k)
theorem qgj (M : Mac) (c : Ctx) : (∀ Q E D H, W M c (zl 0) true Q E D H =
  W M c (zl 2) true Q ((10, .nili)::E) D H) ∧
 (∀ Q E D H, W M c (zl 2) true Q E D H =
  LK true (lk E 4) fun g t4 => B3 g ((Op.mkIface ql) [(.int .i64 2)]) fun g t13 => B3 g ((Op.eq (.ifaces (ifT Tryd.prog)) false) [t4, t13] H) fun g t14 => IF3 g t14 (fun g => LK g (lk E 0) fun g t0 => LK g (lk E 1) fun g t1 => C3 M g (.func zx) [t0, t1] H fun g t17 H1 => B3 g ((Op.mkIface yd) [t17]) fun g t18 => GO3 g (BLK3 0 (SEQ3 (W M c (zl 31)) Q)) .ret ((10, t18)::(11, t4)::E) D H1) (fun g => B3 g ((Op.mkIface ql) [(.int .i64 1)]) fun g t20 => B3 g ((Op.eq (.ifaces (ifT Tryd.prog)) false) [t4, t20] H) fun g t21 => IF3 g t21 (fun g => LK g (lk E 0) fun g t0 => LK g (lk E 1) fun g t1 => C3 M g (.func jc) [t0, t1] H fun g t24 H1 => B3 g ((Op.mkIface yd) [t24]) fun g t25 => GO3 g (BLK3 0 (SEQ3 (W M c (zl 31)) Q)) .ret ((10, t25)::(11, t4)::E) D H1) (fun g => W M c (zl 18) g (BLK3 0 (SEQ3 (W M c (zl 31)) Q)) ((11, t4)::E) D H))) ∧
 (∀ Q E D H, W M c (zl 31) true Q E D H =
  LK true (lk E 4) fun g t4 => GO3 g Q .ret ((10, t4)::E) D H) ∧
 (∀ Q E D H, W M c (zl 18) true Q E D H =
  B3 true ((Op.mkIface ql) [(.int .i64 3)]) fun g t27 => LK g (lk E 11) fun g t11 => B3 g ((Op.eq (.ifaces (ifT Tryd.prog)) false) [t11, t27] H) fun g t28 => IF3 g t28 (fun g => LK g (lk E 0) fun g t0 => LK g (lk E 1) fun g t1 => LK g (lk E 2) fun g t2 => C3 M g (.func qla) [t0, t1, t2] H fun g t32 H1 => B3 g ((Op.mkIface yd) [t32]) fun g t33 => GO3 g Q .ret ((10, t33)::E) D H1) (fun g => B3 g ((Op.mkIface ql) [(.int .i64 4)]) fun g t35 => LK g (lk E 11) fun g t11_1 => B3 g ((Op.eq (.ifaces (ifT Tryd.prog)) false) [t11_1, t35] H) fun g t36 => IF3 g t36 (fun g => LK g (lk E 0) fun g t0 => LK g (lk E 1) fun g t1 => LK g (lk E 3) fun g t3 => C3 M g (.func qie) [t0, t1, t3] H fun g t40 H1 => B3 g ((Op.mkIface yd) [t40]) fun g t41 => GO3 g Q .ret ((10, t41)::E) D H1) (fun g => GO3 g Q .normal E D H))) := by (repeat' apply And.intro) <;> (intro _ _ _ _; refine W_unf ?_; kernel_rfl)
theorem qg4 : (cProg Tryd.prog).func ke = some qbi ∧ qbi.results = [.tmp 10] := qt (by kernel_rfl)
theorem qlb {M : Mac} [MK M] : M.func ke = some qbi := MK.at (by decide) qg4.1
theorem qm0 {M : Mac} [MK M] {a0 a1 a2 a3 a4 : AV} {H : AHeap} {Q : AEnd → AHeap → Prop} (h : W M ⟨none, ke⟩ (zl 0) true (FIN3 M [.tmp 10] Q) [(0, a0), (1, a1), (2, a2), (3, a3), (4, a4)] [] H) : CALLE M ke [a0, a1, a2, a3, a4] H Q :=
  calle qlb (ks := qgz) (by kernel_rfl) (by rw [qg4.2]; exact h)
def wq : AFunc := funcAt Tryd.prog zy
def qfg : Kp := ⟨[0, 1, 4], false, [0]⟩
def qfl (k : Nat) : Kp × ACode := (qfg, part wq.body k)
theorem qfr (M : Mac) (c : Ctx) : (∀ Q E D H, W M c (qfl 0) true Q E D H =
  LK true (lk E 0) fun g t0 => LK g (lk E 1) fun g t1 => C3 M g (.func xd) [t0, t1] H fun g t7 H1 => GO3 g Q .ret ((4, t7)::(4, (.int .i64 0))::E) D H1) := by intro _ _ _ _; refine W_unf ?_; kernel_rfl
theorem qfi : (cProg Tryd.prog).func zy = some wq ∧ wq.results = [.tmp 4] := qt (by kernel_rfl)
theorem qjy {M : Mac} [MK M] : M.func zy = some wq := MK.at (by decide) qfi.1
theorem qkt {M : Mac} [MK M] {a0 a1 : AV} {H : AHeap} {Q : AEnd → AHeap → Prop} (h : W M ⟨none, zy⟩ (qfl 0) true (FIN3 M [.tmp 4] Q) [(0, a0), (1, a1)] [] H) : CALLE M zy [a0, a1] H Q :=
  calle qjy (ks := qfg) (by kernel_rfl) (by rw [qfi.2]; exact h)
def jv : AFunc := funcAt Tryd.prog xn
def qaq : Kp := ⟨[0, 1, 4, 5, 6, 7, 8, 9, 10, 11, 12, 13], false, [0, 4, 18, 31, 35, 39, 41, 44, 50, 57, 65, 67, 75, 79, 84, 92, 98, 100, 108, 112]⟩
def qz (k : Nat) : Kp × ACode := (qaq, part jv.body k)
theorem qeq (M : Mac) (c : Ctx) : (∀ Q E D H, W M c (qz 0) true Q E D H =
  LK true (lk E 1) fun g t1 => B3 g (Op.lenStr [t1]) fun g t15 => W M c (qz 4) g Q ((5, t15)::(4, (.int .i64 0))::E) D H) ∧
 (∀ Q E D H, W M c (qz 4) true Q E D H =
  LK true (lk E 5) fun g t5 => B3 g ((Op.bin .eql) [t5, (.int .i64 0)]) fun g t18 => JN (fun (k : Bool → AV → AV → AV → AHeap → Prop) => B3 g (wantV false (some t18)) fun g w => IG3 g w (fun g => LK g (lk E 1) fun g t1 => LK g (lk E 0) fun g t0 => B3 g ((Op.bin .eql) [t1, t0]) fun g t22 => k g t22 t0 t1 H) (fun g => k g uu uu uu H)) (fun g t22_1 t21_1 t20_1 H1 => B3 g (Op.pick [t18, (.bool true), t22_1]) fun g t23 => IF3 g t23 (fun g => GO3 g (BLK3 0 (SEQ3 (W M c (qz 31)) Q)) .ret ((4, (.int .i64 0))::E) D H1) (fun g => LK g (lk E 5) fun g t5_1 => B3 g ((Op.bin .eql) [t5_1, (.int .i64 1)]) fun g t26 => IF3 g t26 (fun g => LK g (lk E 0) fun g t0_1 => LK g (lk E 1) fun g t1_1 => B3 g (Op.indexStr [t1_1, (.int .i64 0)]) fun g t29 => C3 M g (.func xd) [t0_1, t29] H1 fun g t30 H2 => GO3 g (BLK3 0 (SEQ3 (W M c (qz 31)) Q)) .ret ((4, t30)::E) D H2) (fun g => W M c (qz 18) g (BLK3 0 (SEQ3 (W M c (qz 31)) Q)) E D H1)))) ∧
 (∀ Q E D H, W M c (qz 31) true Q E D H =
  LK true (lk E 1) fun g t1 => B3 g (Op.indexStr [t1, (.int .i64 0)]) fun g t49 => LK g (lk E 1) fun g t1_1 => B3 g (Op.indexStr [t1_1, (.int .i64 1)]) fun g t51 => W M c (qz 35) g Q ((7, t51)::(6, t49)::E) D H) := by (repeat' apply And.intro) <;> (intro _ _ _ _; refine W_unf ?_; kernel_rfl)
theorem qap : (cProg Tryd.prog).func xn = some jv ∧ jv.results = [.tmp 4] := qt (by kernel_rfl)
theorem qd0 {M : Mac} [MK M] : M.func xn = some jv := MK.at (by decide) qap.1
theorem qeu {M : Mac} [MK M] {a0 a1 : AV} {H : AHeap} {Q : AEnd → AHeap → Prop} (h : W M ⟨none, xn⟩ (qz 0) true (FIN3 M [.tmp 4] Q) [(0, a0), (1, a1)] [] H) : CALLE M xn [a0, a1] H Q :=
  calle qd0 (ks := qaq) (by kernel_rfl) (by rw [qap.2]; exact h)
def kv : AFunc := funcAt Tryd.prog xa
def qb0 : Kp := ⟨[0, 2], false, [0]⟩
def qby (k : Nat) : Kp × ACode := (qb0, part kv.body k)
theorem qgm (M : Mac) (c : Ctx) : (∀ Q E D H, W M c (qby 0) true Q E D H =
  LK true (lk E 0) fun g t0 => B3 g ((Op.bin .or) [t0, (.int .u8 32)]) fun g t4 => GO3 g Q .ret ((2, t4)::(2, (.int .u8 0))::E) D H) := by intro _ _ _ _; refine W_unf ?_; kernel_rfl
theorem qb1 : (cProg Tryd.prog).func xa = some kv ∧ kv.results = [.tmp 2] := qt (by kernel_rfl)
theorem qgf {M : Mac} [MK M] : M.func xa = some kv := MK.at (by decide) qb1.1
theorem qg7 {M : Mac} [MK M] {a0 : AV} {H : AHeap} {Q : AEnd → AHeap → Prop} (h : W M ⟨none, xa⟩ (qby 0) true (FIN3 M [.tmp 2] Q) [(0, a0)] [] H) : CALLE M xa [a0] H Q :=
  calle qgf (ks := qb0) (by kernel_rfl) (by rw [qb1.2]; exact h)
def vc : AFunc := funcAt Tryd.prog zx
def qdx : Kp := ⟨[0, 1, 4], false, [0]⟩
def qdm (k : Nat) : Kp × ACode := (qdx, part vc.body k)
theorem qdq (M : Mac) (c : Ctx) : (∀ Q E D H, W M c (qdm 0) true Q E D H =
  LK true (lk E 0) fun g t0 => LK g (lk E 1) fun g t1 => B3 g (Op.load1 [(.ptr zw 0)] H) fun g t8 => C3 M g (.func xo) [t1] H fun g t7 H1 => CK3 g (Op.load1 [(.ptr zw 0)] H1) (some t8) fun g => B3 g ((Op.build [(.str []), (.str []), .nili] [(0, 1), (1, 1), (2, 1)]) [t0, t7, t8]) fun g t9 => A3 g qfy (AV.cells t9) H1 fun g t10 H2 => GO3 g Q .ret ((4, t10)::(4, .nilp)::E) D H2) := by intro _ _ _ _; refine W_unf ?_; kernel_rfl
theorem qdt : (cProg Tryd.prog).func zx = some vc ∧ vc.results = [.tmp 4] := qt (by kernel_rfl)
theorem qia {M : Mac} [MK M] : M.func zx = some vc := MK.at (by decide) qdt.1
theorem qi3 {M : Mac} [MK M] {a0 a1 : AV} {H : AHeap} {Q : AEnd → AHeap → Prop} (h : W M ⟨none, zx⟩ (qdm 0) true (FIN3 M [.tmp 4] Q) [(0, a0), (1, a1)] [] H) : CALLE M zx [a0, a1] H Q :=
  calle qia (ks := qdx) (by kernel_rfl) (by rw [qdt.2]; exact h)
def vx : AFunc := funcAt Tryd.prog jc
def qeg : Kp := ⟨[0, 1, 4], false, [0]⟩
def qej (k : Nat) : Kp × ACode := (qeg, part vx.body k)
theorem qeb (M : Mac) (c : Ctx) : (∀ Q E D H, W M c (qej 0) true Q E D H =
  LK true (lk E 0) fun g t0 => LK g (lk E 1) fun g t1 => B3 g (Op.load1 [(.ptr je 0)] H) fun g t8 => C3 M g (.func xo) [t1] H fun g t7 H1 => CK3 g (Op.load1 [(.ptr je 0)] H1) (some t8) fun g => B3 g ((Op.build [(.str []), (.str []), .nili] [(0, 1), (1, 1), (2, 1)]) [t0, t7, t8]) fun g t9 => A3 g qfy (AV.cells t9) H1 fun g t10 H2 => GO3 g Q .ret ((4, t10)::(4, .nilp)::E) D H2) := by intro _ _ _ _; refine W_unf ?_; kernel_rfl
theorem qei : (cProg Tryd.prog).func jc = some vx ∧ vx.results = [.tmp 4] := qt (by kernel_rfl)
theorem qjc {M : Mac} [MK M] : M.func jc = some vx := MK.at (by decide) qei.1
theorem qjx {M : Mac} [MK M] {a0 a1 : AV} {H : AHeap} {Q : AEnd → AHeap → Prop} (h : W M ⟨none, jc⟩ (qej 0) true (FIN3 M [.tmp 4] Q) [(0, a0), (1, a1)] [] H) : CALLE M jc [a0, a1] H Q :=
  calle qjc (ks := qeg) (by kernel_rfl) (by rw [qei.2]; exact h)
def zr : AFunc := funcAt Tryd.prog xd
def vn : Kp := ⟨[0, 1, 4], false, [0]⟩
def vq (k : Nat) : Kp × ACode := (vn, part zr.body k)
theorem qct (M : Mac) (c : Ctx) : (∀ Q E D H, W M c (vq 0) true Q E D H =
  LK true (lk E 0) fun g t0 => LK g (lk E 1) fun g t1 => B3 g (Op.indexByteString [t0, t1]) fun g t7 => GO3 g Q .ret ((4, t7)::(4, (.int .i64 0))::E) D H) := by intro _ _ _ _; refine W_unf ?_; kernel_rfl
theorem vm : (cProg Tryd.prog).func xd = some zr ∧ zr.results = [.tmp 4] := qt (by kernel_rfl)
theorem qci {M : Mac} [MK M] : M.func xd = some zr := MK.at (by decide) vm.1
theorem qcv {M : Mac} [MK M] {a0 a1 : AV} {H : AHeap} {Q : AEnd → AHeap → Prop} (h : W M ⟨none, xd⟩ (vq 0) true (FIN3 M [.tmp 4] Q) [(0, a0), (1, a1)] [] H) : CALLE M xd [a0, a1] H Q :=
  calle qci (ks := vn) (by kernel_rfl) (by rw [vm.2]; exact h)
def j4 : AFunc := funcAt Tryd.prog xo
def qax : Kp := ⟨[0, 2, 3], false, [0, 2, 10]⟩
def xw (k : Nat) : Kp × ACode := (qax, part j4.body k)
theorem qan (M : Mac) (c : Ctx) : (∀ Q E D H, W M c (xw 0) true Q E D H =
  W M c (xw 2) true Q ((2, (.str []))::E) D H) ∧
 (∀ Q E D H, W M c (xw 2) true Q E D H =
  LK true (lk E 0) fun g t0 => B3 g (Op.lenStr [t0]) fun g t5 => B3 g ((Op.bin .eql) [t5, (.int .i64 0)]) fun g t6 => IF3 g t6 (fun g => GO3 g (SEQ3 (W M c (xw 10)) Q) .ret ((2, (.str []))::E) D H) (fun g => GO3 g (SEQ3 (W M c (xw 10)) Q) .normal E D H)) ∧
 (∀ Q E D H, W M c (xw 10) true Q E D H =
  LK true (lk E 0) fun g t0 => B3 g (Op.lenStr [t0]) fun g t8 => B32 g ((Op.mkSlice zq 1 [(.int .u8 0)]) [t8, t8]) fun g o1 k1 => LK g (lk E 0) fun g t0_1 => B32 g ((Op.copy 1) [(k1 H.next), t0_1] (H.alloc o1)) fun g t12 H2 => B3 g ((Op.indexSl 1) [(k1 H.next), (.int .i64 0)]) fun g t14 => B3 g (Op.lenSl [(k1 H.next)]) fun g t16 => B32 g ((Op.strOfPtr zq) [t14, t16] H2) fun g t17 H3 => GO3 g Q .ret ((2, t17)::(3, (k1 H.next))::E) D H3) := by (repeat' apply And.intro) <;> (intro _ _ _ _; refine W_unf ?_; kernel_rfl)
theorem qa5 : (cProg Tryd.prog).func xo = some j4 ∧ j4.results = [.tmp 2] := qt (by kernel_rfl)
theorem qd6 {M : Mac} [MK M] : M.func xo = some j4 := MK.at (by decide) qa5.1
theorem qes {M : Mac} [MK M] {a0 : AV} {H : AHeap} {Q : AEnd → AHeap → Prop} (h : W M ⟨none, xo⟩ (xw 0) true (FIN3 M [.tmp 2] Q) [(0, a0)] [] H) : CALLE M xo [a0] H Q :=
  calle qd6 (ks := qax) (by kernel_rfl) (by rw [qa5.2]; exact h)
end
end Go.Am
namespace Go.Am
abbrev zf : Nat := 8
noncomputable section
open Go.Proofs Go.Proofs.YtkfheegmlgfdoaaDoor
def qbf : AFunc := funcAt Tryd.prog zf
def qg6 : Kp := ⟨[0, 1, 2, 6, 7, 8, 9, 10, 11, 12, 13, 14, 15, 16, 17, 18, 19, 20, 21, 22, 23, 24], false, [0, 4, 12, 16, 24, 30, 40, 42, 48, 56, 58, 64, 72]⟩
def qi (k : Nat) : Kp × ACode := (qg6, part qbf.body k)
theorem qc5 (M : Mac) (c : Ctx) : (∀ Q E D H, W M c (qi 0) true Q E D H =
  C3 M true (.func qlv) [] H fun g t25 H1 => W M c (qi 4) g Q ((7, t25)::(6, (.bool false))::E) D H1) ∧
 (∀ Q E D H, W M c (qi 4) true Q E D H =
  LK true (lk E 0) fun g t0 => B3 g (Op.lenSl [t0]) fun g t27 => B3 g ((Op.bin .gtr) [t27, (.int .i64 300)]) fun g t28 => JN (fun (k : Bool → AV → AV → AV → AHeap → Prop) => B3 g (wantV false (some t28)) fun g w => IG3 g w (fun g => LK g (lk E 1) fun g t1 => B3 g (Op.lenSl [t1]) fun g t31 => B3 g ((Op.bin .gtr) [t31, (.int .i64 5000)]) fun g t32 => k g t32 t31 t1 H) (fun g => k g uu uu uu H)) (fun g t32_1 t31_1 t30_1 H1 => B3 g (Op.pick [t28, (.bool true), t32_1]) fun g t33 => JN (fun (k : Bool → AV → AV → AV → AHeap → Prop) => B3 g (wantV false (some t33)) fun g w => IG3 g w (fun g => LK g (lk E 2) fun g t2 => B3 g (Op.lenStr [t2]) fun g t36 => B3 g ((Op.bin .gtr) [t36, (.int .i64 5000)]) fun g t37 => k g t37 t36 t2 H1) (fun g => k g uu uu uu H1)) (fun g t37_1 t36_1 t35_1 H2 => B3 g (Op.pick [t33, (.bool true), t37_1]) fun g t38 => JN (fun (k : Bool → AV → AV → AHeap → Prop) => B3 g (wantV false (some t38)) fun g w => IG3 g w (fun g => LK g (lk E 7) fun g t7 => B3 g ((Op.un .not) [t7]) fun g t41 => k g t41 t7 H2) (fun g => k g uu uu H2)) (fun g t41_1 t40_1 H3 => B3 g (Op.pick [t38, (.bool true), t41_1]) fun g t42 => IF3 g t42 (fun g => LK g (lk E 7) fun g t7_1 => GO3 g (SEQ3 (W M c (qi 12)) Q) .ret ((6, t7_1)::E) D H3) (fun g => GO3 g (SEQ3 (W M c (qi 12)) Q) .normal E D H3))))) ∧
 (∀ Q E D H, W M c (qi 12) true Q E D H =
  LK true (lk E 0) fun g t0 => C3 M g (.func kp) [t0] H fun g t46 H1 => B3 g ((Op.extract 0) [t46]) fun g t47 => B3 g ((Op.extract 1) [t46]) fun g t48 => LK g (lk E 0) fun g t0_1 => C3 M g (.func vf) [t0_1] H1 fun g t51 H2 => B3 g ((Op.extract 0) [t51]) fun g t52 => B3 g ((Op.extract 1) [t51]) fun g t53 => W M c (qi 16) g Q ((11, t53)::(10, t52)::(9, t48)::(8, t47)::E) D H2) ∧
 (∀ Q E D H, W M c (qi 16) true Q E D H =
  LK true (lk E 9) fun g t9 => LK g (lk E 11) fun g t11 => B3 g ((Op.bin .neq) [t9, t11]) fun g t56 => IF3 g t56 (fun g => GO3 g (SEQ3 (W M c (qi 24)) Q) .ret ((6, (.bool false))::E) D H) (fun g => GO3 g (SEQ3 (W M c (qi 24)) Q) .normal E D H)) ∧
 (∀ Q E D H, W M c (qi 24) true Q E D H =
  LK true (lk E 9) fun g t9 => B3 g ((Op.bin .eql) [t9, (.int .i64 0)]) fun g t58 => IF3 g t58 (fun g => LK g (lk E 8) fun g t8 => C3 M g (.func ym) [t8] H fun g t61 H1 => B3 g ((Op.extract 0) [t61]) fun g t62 => B3 g ((Op.extract 1) [t61]) fun g t63 => W M c (qi 30) g (SEQ3 (W M c (qi 40)) Q) ((13, t63)::(12, t62)::E) D H1) (fun g => GO3 g (SEQ3 (W M c (qi 40)) Q) .normal E D H)) ∧
 (∀ Q E D H, W M c (qi 40) true Q E D H =
  LK true (lk E 1) fun g t1 => C3 M g (.func ym) [t1] H fun g t94 H1 => B3 g ((Op.extract 0) [t94]) fun g t95 => B3 g ((Op.extract 1) [t94]) fun g t96 => W M c (qi 42) g Q ((18, t96)::(17, t95)::E) D H1) ∧
 (∀ Q E D H, W M c (qi 30) true Q E D H =
  LK true (lk E 10) fun g t10 => C3 M g (.func ko) [t10] H fun g t66 H1 => B3 g ((Op.extract 0) [t66]) fun g t67 => B3 g ((Op.extract 1) [t66]) fun g t68 => B3 g ((Op.extract 2) [t66]) fun g t69 => LK g (lk E 13) fun g t13 => B3 g ((Op.bin .neq) [t13, (.int .i64 0)]) fun g t71 => JN (fun (k : Bool → AV → AV → AHeap → Prop) => B3 g (wantV false (some t71)) fun g w => IG3 g w (fun g => B3 g ((Op.bin .neq) [t69, (.int .i64 0)]) fun g t74 => k g t74 t69 H1) (fun g => k g uu uu H1)) (fun g t74_1 t73_1 H2 => B3 g (Op.pick [t71, (.bool true), t74_1]) fun g t75 => JN (fun (k : Bool → AV → AV → AHeap → Prop) => B3 g (wantV false (some t75)) fun g w => IG3 g w (fun g => B3 g ((Op.bin .neq) [t68, (.int .i64 0)]) fun g t78 => k g t78 t68 H2) (fun g => k g uu uu H2)) (fun g t78_1 t77_1 H3 => B3 g (Op.pick [t75, (.bool true), t78_1]) fun g t79 => JN (fun (k : Bool → AV → AV → AV → AV → AHeap → Prop) => B3 g (wantV false (some t79)) fun g w => IG3 g w (fun g => LK g (lk E 12) fun g t12 => LK g (lk E 0) fun g t0 => C3 M g (.func wl) [t12, t0] H3 fun g t83 H4 => B3 g ((Op.un .not) [t83]) fun g t84 => k g t84 t83 t0 t12 H4) (fun g => k g uu uu uu uu H3)) (fun g t84_1 t83_1 t82_1 t81_1 H5 => B3 g (Op.pick [t79, (.bool true), t84_1]) fun g t85 => JN (fun (k : Bool → AV → AV → AV → AV → AHeap → Prop) => B3 g (wantV false (some t85)) fun g w => IG3 g w (fun g => LK g (lk E 0) fun g t0_1 => C3 M g (.func wl) [t67, t0_1] H5 fun g t89 H6 => B3 g ((Op.un .not) [t89]) fun g t90 => k g t90 t89 t0_1 t67 H6) (fun g => k g uu uu uu uu H5)) (fun g t90_1 t89_1 t88_1 t87_1 H7 => B3 g (Op.pick [t85, (.bool true), t90_1]) fun g t91 => IF3 g t91 (fun g => GO3 g Q .ret ((6, (.bool false))::(16, t69)::(15, t68)::(14, t67)::E) D H7) (fun g => GO3 g Q .normal ((16, t69)::(15, t68)::(14, t67)::E) D H7)))))) ∧
 (∀ Q E D H, W M c (qi 42) true Q E D H =
  LK true (lk E 18) fun g t18 => B3 g ((Op.bin .eql) [t18, (.int .i64 0)]) fun g t98 => IF3 g t98 (fun g => LK g (lk E 17) fun g t17 => C3 M g (.func kp) [t17] H fun g t101 H1 => B3 g ((Op.extract 0) [t101]) fun g t102 => B3 g ((Op.extract 1) [t101]) fun g t103 => W M c (qi 48) g (SEQ3 (W M c (qi 56)) Q) ((20, t103)::(19, t102)::E) D H1) (fun g => GO3 g (SEQ3 (W M c (qi 56)) Q) .normal E D H)) ∧
 (∀ Q E D H, W M c (qi 56) true Q E D H =
  LK true (lk E 2) fun g t2 => C3 M g (.func ko) [t2] H fun g t115 H1 => B3 g ((Op.extract 0) [t115]) fun g t116 => B3 g ((Op.extract 1) [t115]) fun g t117 => B3 g ((Op.extract 2) [t115]) fun g t118 => W M c (qi 58) g Q ((18, t118)::(22, t117)::(21, t116)::E) D H1) ∧
 (∀ Q E D H, W M c (qi 48) true Q E D H =
  LK true (lk E 20) fun g t20 => B3 g ((Op.bin .neq) [t20, (.int .i64 0)]) fun g t105 => JN (fun (k : Bool → AV → AV → AV → AV → AV → AHeap → Prop) => B3 g (wantV false (some t105)) fun g w => IG3 g w (fun g => LK g (lk E 19) fun g t19 => B3 g (Op.strOfBytes [t19] H) fun g t108 => LK g (lk E 1) fun g t1 => B3 g (Op.strOfBytes [t1] H) fun g t110 => B3 g ((Op.bin .neq) [t108, t110]) fun g t111 => k g t111 t110 t1 t108 t19 H) (fun g => k g uu uu uu uu uu H)) (fun g t111_1 t110_1 t109_1 t108_1 t107_1 H1 => B3 g (Op.pick [t105, (.bool true), t111_1]) fun g t112 => IF3 g t112 (fun g => GO3 g Q .ret ((6, (.bool false))::E) D H1) (fun g => GO3 g Q .normal E D H1))) ∧
 (∀ Q E D H, W M c (qi 58) true Q E D H =
  LK true (lk E 18) fun g t18 => B3 g ((Op.bin .eql) [t18, (.int .i64 0)]) fun g t120 => IF3 g t120 (fun g => LK g (lk E 21) fun g t21 => C3 M g (.func vf) [t21] H fun g t123 H1 => B3 g ((Op.extract 0) [t123]) fun g t124 => B3 g ((Op.extract 1) [t123]) fun g t125 => W M c (qi 64) g (SEQ3 (W M c (qi 72)) Q) ((24, t125)::(23, t124)::E) D H1) (fun g => GO3 g (SEQ3 (W M c (qi 72)) Q) .normal E D H)) ∧
 (∀ Q E D H, W M c (qi 72) true Q E D H =
  LK true (lk E 7) fun g t7 => GO3 g Q .ret ((6, t7)::E) D H) ∧
 (∀ Q E D H, W M c (qi 64) true Q E D H =
  LK true (lk E 24) fun g t24 => B3 g ((Op.bin .neq) [t24, (.int .i64 0)]) fun g t127 => JN (fun (k : Bool → AV → AV → AV → AHeap → Prop) => B3 g (wantV false (some t127)) fun g w => IG3 g w (fun g => LK g (lk E 23) fun g t23 => LK g (lk E 2) fun g t2 => B3 g ((Op.bin .neq) [t23, t2]) fun g t131 => k g t131 t2 t23 H) (fun g => k g uu uu uu H)) (fun g t131_1 t130_1 t129_1 H1 => B3 g (Op.pick [t127, (.bool true), t131_1]) fun g t132 => JN (fun (k : Bool → AV → AV → AHeap → Prop) => B3 g (wantV false (some t132)) fun g w => IG3 g w (fun g => LK g (lk E 22) fun g t22 => B3 g ((Op.bin .neq) [t22, (.int .i64 0)]) fun g t135 => k g t135 t22 H1) (fun g => k g uu uu H1)) (fun g t135_1 t134_1 H2 => B3 g (Op.pick [t132, (.bool true), t135_1]) fun g t136 => IF3 g t136 (fun g => GO3 g Q .ret ((6, (.bool false))::E) D H2) (fun g => GO3 g Q .normal E D H2)))) := by (repeat' apply And.intro) <;> (intro _ _ _ _; refine W_unf ?_; kernel_rfl)
theorem qhc : (cProg Tryd.prog).func zf = some qbf ∧ qbf.results = [.tmp 6] := qt (by kernel_rfl)
theorem qlq {M : Mac} [MK M] : M.func zf = some qbf := MK.at (by decide) qhc.1
theorem qmz {M : Mac} [MK M] {a0 a1 a2 : AV} {H : AHeap} {Q : AEnd → AHeap → Prop} (h : W M ⟨none, zf⟩ (qi 0) true (FIN3 M [.tmp 6] Q) [(0, a0), (1, a1), (2, a2)] [] H) : CALLE M zf [a0, a1, a2] H Q :=
  calle qlq (ks := qg6) (by kernel_rfl) (by rw [qhc.2]; exact h)
end
end Go.Am
