/- CodeP: CodeS CodeLA CodeLB CodeLC. -/
import Derived.Test.YtbimikjajohflaaDoorAmPB4
import Derived.Test.YtbimikjajohflaaDoorAmPB1
import Derived.KernelRfl
import Derived.Test.YtbimikjajohflaaDoorRows
set_option linter.unusedVariables false
set_option maxRecDepth 100000
namespace Go.Am
abbrev xl : Nat := 136
abbrev xn : Nat := 147
abbrev xa : Nat := 141
abbrev qbs : Nat := 142
abbrev xo : Nat := 145
abbrev xq : Nat := 140
abbrev x8 : Nat := 139
abbrev N_law18_alive : Nat := 20
abbrev N_law19_alive : Nat := 30
abbrev jb : Nat := 146
abbrev zp : Nat := 127
abbrev zd : Nat := 97
abbrev x1 : Nat := 98
abbrev xk : Nat := 42
abbrev qv : Nat := 94
abbrev xi : Nat := 122
abbrev zw : Nat := 126
abbrev qx4 : Nat := 167
abbrev zh : Nat := 9
abbrev j4 : Nat := 5
abbrev xe : Nat := 1
def qwn : List UInt8 := [115, 116, 114, 105, 110, 103, 115, 46, 66, 117, 105, 108, 100, 101, 114, 46, 71, 114, 111, 119, 58, 32, 110, 101, 103, 97, 116, 105, 118, 101, 32, 99, 111, 117, 110, 116]
def qlb : List UInt8 := [48, 49, 50, 51, 52, 53, 54, 55, 56, 57, 97, 98, 99, 100, 101, 102, 103, 104, 105, 106, 107, 108, 109, 110, 111, 112, 113, 114, 115, 116, 117, 118, 119, 120, 121, 122]
def zo : List UInt8 := [48, 48, 48, 49, 48, 50, 48, 51, 48, 52, 48, 53, 48, 54, 48, 55, 48, 56, 48, 57, 49, 48, 49, 49, 49, 50, 49, 51, 49, 52, 49, 53, 49, 54, 49, 55, 49, 56, 49, 57, 50, 48, 50, 49, 50, 50, 50, 51, 50, 52, 50, 53, 50, 54, 50, 55, 50, 56, 50, 57, 51, 48, 51, 49, 51, 50, 51, 51, 51, 52, 51, 53, 51, 54, 51, 55, 51, 56, 51, 57, 52, 48, 52, 49, 52, 50, 52, 51, 52, 52, 52, 53, 52, 54, 52, 55, 52, 56, 52, 57, 53, 48, 53, 49, 53, 50, 53, 51, 53, 52, 53, 53, 53, 54, 53, 55, 53, 56, 53, 57, 54, 48, 54, 49, 54, 50, 54, 51, 54, 52, 54, 53, 54, 54, 54, 55, 54, 56, 54, 57, 55, 48, 55, 49, 55, 50, 55, 51, 55, 52, 55, 53, 55, 54, 55, 55, 55, 56, 55, 57, 56, 48, 56, 49, 56, 50, 56, 51, 56, 52, 56, 53, 56, 54, 56, 55, 56, 56, 56, 57, 57, 48, 57, 49, 57, 50, 57, 51, 57, 52, 57, 53, 57, 54, 57, 55, 57, 56, 57, 57]
def qg4 : List UInt8 := [0, 1, 2, 2, 3, 3, 3, 3, 4, 4, 4, 4, 4, 4, 4, 4, 5, 5, 5, 5, 5, 5, 5, 5, 5, 5, 5, 5, 5, 5, 5, 5, 6, 6, 6, 6, 6, 6, 6, 6, 6, 6, 6, 6, 6, 6, 6, 6, 6, 6, 6, 6, 6, 6, 6, 6, 6, 6, 6, 6, 6, 6, 6, 6, 7, 7, 7, 7, 7, 7, 7, 7, 7, 7, 7, 7, 7, 7, 7, 7, 7, 7, 7, 7, 7, 7, 7, 7, 7, 7, 7, 7, 7, 7, 7, 7, 7, 7, 7, 7, 7, 7, 7, 7, 7, 7, 7, 7, 7, 7, 7, 7, 7, 7, 7, 7, 7, 7, 7, 7, 7, 7, 7, 7, 7, 7, 7, 7, 8, 8, 8, 8, 8, 8, 8, 8, 8, 8, 8, 8, 8, 8, 8, 8, 8, 8, 8, 8, 8, 8, 8, 8, 8, 8, 8, 8, 8, 8, 8, 8, 8, 8, 8, 8, 8, 8, 8, 8, 8, 8, 8, 8, 8, 8, 8, 8, 8, 8, 8, 8, 8, 8, 8, 8, 8, 8, 8, 8, 8, 8, 8, 8, 8, 8, 8, 8, 8, 8, 8, 8, 8, 8, 8, 8, 8, 8, 8, 8, 8, 8, 8, 8, 8, 8, 8, 8, 8, 8, 8, 8, 8, 8, 8, 8, 8, 8, 8, 8, 8, 8, 8, 8, 8, 8, 8, 8, 8, 8, 8, 8, 8, 8, 8, 8, 8, 8, 8, 8, 8, 8, 8, 8, 8, 8, 8, 8]
noncomputable section
open Go.Proofs Go.Proofs.YtbimikjajohflaaDoor
class MK (M : Mac) : Prop where
  ok : ∀ n, memN n [20, 30] = false → M.func n = (cProg Tryd.prog).func n
theorem MK.at {M : Mac} [h : MK M] {n : Nat} {F : AFunc} (hn : memN n [20, 30] = false) (hF : (cProg Tryd.prog).func n = some F) : M.func n = some F := (h.ok n hn).trans hF
def yf : AFunc := funcAt Tryd.prog zp
def qbv : Kp := ⟨[0, 1, 4], false, [0]⟩
def qbt (k : Nat) : Kp × ACode := (qbv, part yf.body k)
theorem qbu (M : Mac) (c : Ctx) : (∀ Q E D H, W M c (qbt 0) true Q E D H =
  LK true (lk E 0) fun g t0 => LK g (lk E 1) fun g t1 => C3 M g (.func xl) [t0, t1] H fun g t7 H1 => GO3 g Q .ret ((4, t7)::(4, (.str []))::E) D H1) := by intro _ _ _ _; refine W_unf ?_; kernel_rfl
theorem qbw : (cProg Tryd.prog).func zp = some yf ∧ yf.results = [.tmp 4] := xd (by kernel_rfl)
theorem qfk {M : Mac} [MK M] : M.func zp = some yf := MK.at (by decide) qbw.1
theorem qf0 {M : Mac} [MK M] {a0 a1 : AV} {H : AHeap} {Q : AEnd → AHeap → Prop} (h : W M ⟨none, zp⟩ (qbt 0) true (FIN3 M [.tmp 4] Q) [(0, a0), (1, a1)] [] H) : CALLE M zp [a0, a1] H Q :=
  calle qfk (ks := qbv) (by kernel_rfl) (by rw [qbw.2]; exact h)
def km : AFunc := funcAt Tryd.prog zd
def qay : Kp := ⟨[0, 1], false, [0, 2, 8]⟩
def zx (k : Nat) : Kp × ACode := (qay, part km.body k)
theorem kj (M : Mac) (c : Ctx) : (∀ Q E D H, W M c (zx 0) true Q E D H =
  LK true (lk E 0) fun g t0 => C3 M g (.func xi) [t0] H fun g t5 H1 => W M c (zx 2) g Q E D H1) ∧
 (∀ Q E D H, W M c (zx 2) true Q E D H =
  LK true (lk E 1) fun g t1 => B3 g ((Op.bin .lss) [t1, (.int .i64 0)]) fun g t7 => IF3 g t7 (fun g => B3 g ((Op.mkIface zh) [(.str qwn)]) fun g t8 => False) (fun g => GO3 g (SEQ3 (W M c (zx 8)) Q) .normal E D H)) ∧
 (∀ Q E D H, W M c (zx 8) true Q E D H =
  LK true (lk E 0) fun g t0 => B3 g (Op.nilCheck [t0]) fun g t10 => B3 g ((Op.fieldAddr 1) [t10]) fun g t11 => B3 g (Op.load1 [t11] H) fun g t12 => B3 g (Op.cap [t12]) fun g t13 => B3 g (Op.nilCheck [t0]) fun g t15 => B3 g ((Op.fieldAddr 1) [t15]) fun g t16 => B3 g (Op.load1 [t16] H) fun g t17 => B3 g (Op.lenSl [t17]) fun g t18 => B3 g ((Op.bin .sub) [t13, t18]) fun g t19 => LK g (lk E 1) fun g t1 => B3 g ((Op.bin .lss) [t19, t1]) fun g t21 => IF3 g t21 (fun g => LK g (lk E 0) fun g t0_1 => LK g (lk E 1) fun g t1_1 => C3 M g (.func zw) [t0_1, t1_1] H fun g t24 H1 => GO3 g Q .normal E D H1) (fun g => GO3 g Q .normal E D H)) := by (repeat' apply And.intro) <;> (intro _ _ _ _; refine W_unf ?_; kernel_rfl)
theorem qav : (cProg Tryd.prog).func zd = some km ∧ km.results = [] := xd (by kernel_rfl)
theorem qew {M : Mac} [MK M] : M.func zd = some km := MK.at (by decide) qav.1
theorem qe2 {M : Mac} [MK M] {a0 a1 : AV} {H : AHeap} {Q : AEnd → AHeap → Prop} (h : W M ⟨none, zd⟩ (zx 0) true (FIN3 M [] Q) [(0, a0), (1, a1)] [] H) : CALLE M zd [a0, a1] H Q :=
  calle qew (ks := qay) (by kernel_rfl) (by rw [qav.2]; exact h)
def z5 : AFunc := funcAt Tryd.prog qv
def y8 : Kp := ⟨[0, 1, 4, 5], false, [0]⟩
def yz (k : Nat) : Kp × ACode := (y8, part z5.body k)
theorem j6 (M : Mac) (c : Ctx) : (∀ Q E D H, W M c (yz 0) true Q E D H =
  LK true (lk E 0) fun g t0 => C3 M g (.func xi) [t0] H fun g t7 H1 => LK g (lk E 0) fun g t0_1 => B3 g (Op.nilCheck [t0_1]) fun g t10 => B3 g ((Op.fieldAddr 1) [t10]) fun g t11 => B3 g (Op.load1 [t11] H1) fun g t12 => LK g (lk E 1) fun g t1 => B32 g ((Op.append j4 1 1) [t12, t1] H1) fun g t14 H2 => B3 g (Op.nilCheck [t0_1]) fun g t15 => B3 g ((Op.fieldAddr 1) [t15]) fun g t16 => B32 g ((Op.store 1) [t16, t14] H2) fun g u H3 => LK g (lk E 1) fun g t1_1 => B3 g (Op.lenStr [t1_1]) fun g t18 => GO3 g Q .ret ((5, .nili)::(4, t18)::(5, .nili)::(4, (.int .i64 0))::E) D H3) := by intro _ _ _ _; refine W_unf ?_; kernel_rfl
theorem yw : (cProg Tryd.prog).func qv = some z5 ∧ z5.results = [.tmp 4, .tmp 5] := xd (by kernel_rfl)
theorem qbc {M : Mac} [MK M] : M.func qv = some z5 := MK.at (by decide) yw.1
theorem qbq {M : Mac} [MK M] {a0 a1 : AV} {H : AHeap} {Q : AEnd → AHeap → Prop} (h : W M ⟨none, qv⟩ (yz 0) true (FIN3 M [.tmp 4, .tmp 5] Q) [(0, a0), (1, a1)] [] H) : CALLE M qv [a0, a1] H Q :=
  calle qbc (ks := y8) (by kernel_rfl) (by rw [yw.2]; exact h)
def jz : AFunc := funcAt Tryd.prog xk
def qah : Kp := ⟨[0, 2], false, [0]⟩
def qac (k : Nat) : Kp × ACode := (qah, part jz.body k)
theorem wy (M : Mac) (c : Ctx) : (∀ Q E D H, W M c (qac 0) true Q E D H =
  LK true (lk E 0) fun g t0 => B3 g (Op.nilCheck [t0]) fun g t4 => B3 g ((Op.fieldAddr 1) [t4]) fun g t5 => B3 g (Op.load1 [t5] H) fun g t6 => B3 g (Op.sliceData [t6]) fun g t7 => B3 g (Op.nilCheck [t0]) fun g t9 => B3 g ((Op.fieldAddr 1) [t9]) fun g t10 => B3 g (Op.load1 [t10] H) fun g t11 => B3 g (Op.lenSl [t11]) fun g t12 => B32 g ((Op.strOfPtr j4) [t7, t12] H) fun g t13 H1 => GO3 g Q .ret ((2, t13)::(2, (.str []))::E) D H1) := by intro _ _ _ _; refine W_unf ?_; kernel_rfl
theorem qab : (cProg Tryd.prog).func xk = some jz ∧ jz.results = [.tmp 2] := xd (by kernel_rfl)
theorem qdq {M : Mac} [MK M] : M.func xk = some jz := MK.at (by decide) qab.1
theorem qd8 {M : Mac} [MK M] {a0 : AV} {H : AHeap} {Q : AEnd → AHeap → Prop} (h : W M ⟨none, xk⟩ (qac 0) true (FIN3 M [.tmp 2] Q) [(0, a0)] [] H) : CALLE M xk [a0] H Q :=
  calle qdq (ks := qah) (by kernel_rfl) (by rw [qab.2]; exact h)
def k9 : AFunc := funcAt Tryd.prog x1
def qbk : Kp := ⟨[0, 2], false, [0]⟩
def qbg (k : Nat) : Kp × ACode := (qbk, part k9.body k)
theorem qe9 (M : Mac) (c : Ctx) : (∀ Q E D H, W M c (qbg 0) true Q E D H =
  LK true (lk E 0) fun g t0 => B3 g (Op.nilCheck [t0]) fun g t4 => B3 g ((Op.fieldAddr 1) [t4]) fun g t5 => B3 g (Op.load1 [t5] H) fun g t6 => B3 g (Op.lenSl [t6]) fun g t7 => GO3 g Q .ret ((2, t7)::(2, (.int .i64 0))::E) D H) := by intro _ _ _ _; refine W_unf ?_; kernel_rfl
theorem qbj : (cProg Tryd.prog).func x1 = some k9 ∧ k9.results = [.tmp 2] := xd (by kernel_rfl)
theorem qe3 {M : Mac} [MK M] : M.func x1 = some k9 := MK.at (by decide) qbj.1
theorem qfg {M : Mac} [MK M] {a0 : AV} {H : AHeap} {Q : AEnd → AHeap → Prop} (h : W M ⟨none, x1⟩ (qbg 0) true (FIN3 M [.tmp 2] Q) [(0, a0)] [] H) : CALLE M x1 [a0] H Q :=
  calle qe3 (ks := qbk) (by kernel_rfl) (by rw [qbj.2]; exact h)
def z7 : AFunc := funcAt Tryd.prog xl
def yv : Kp := ⟨[0, 1, 4, 5, 6, 8], false, [0, 2, 6, 14, 24]⟩
def qk (k : Nat) : Kp × ACode := (yv, part z7.body k)
theorem z8 (M : Mac) (c : Ctx) : (∀ Q E D H, W M c (qk 0) true Q E D H =
  W M c (qk 2) true Q ((4, (.str []))::E) D H) ∧
 (∀ Q E D H, W M c (qk 2) true Q E D H =
  LK true (lk E 1) fun g t1 => B3 g ((Op.bin .eql) [t1, (.int .i64 10)]) fun g t10 => IF3 g t10 (fun g => W M c (qk 6) g (SEQ3 (W M c (qk 24)) Q) E D H) (fun g => GO3 g (SEQ3 (W M c (qk 24)) Q) .normal E D H)) ∧
 (∀ Q E D H, W M c (qk 24) true Q E D H =
  LK true (lk E 0) fun g t0 => LK g (lk E 1) fun g t1 => C3 M g (.func qbs) [.nils, t0, t1, (.bool false), (.bool false)] H fun g t28 H1 => B3 g ((Op.extract 0) [t28]) fun g t29 => B3 g ((Op.extract 1) [t28]) fun g t30 => GO3 g Q .ret ((4, t30)::(8, t30)::E) D H1) ∧
 (∀ Q E D H, W M c (qk 6) true Q E D H =
  LK true (lk E 0) fun g t0 => B3 g ((Op.bin .lss) [t0, (.int .u64 100)]) fun g t12 => IF3 g t12 (fun g => LK g (lk E 0) fun g t0_1 => B3 g ((Op.wrap .i64) [t0_1]) fun g t14 => C3 M g (.func x8) [t14] H fun g t15 H1 => GO3 g (SEQ3 (W M c (qk 14)) Q) .ret ((4, t15)::E) D H1) (fun g => GO3 g (SEQ3 (W M c (qk 14)) Q) .normal E D H)) ∧
 (∀ Q E D H, W M c (qk 14) true Q E D H =
  A3 true qx4 (List.replicate 24 (.int .u8 0)) H fun g t5 H1 => LK g (lk E 0) fun g t0 => C3 M g (.func xq) [t0] H1 fun g t17 H2 => B3 g ((Op.sliceArr 24 1 [none, (some 0), none]) [t5, t17]) fun g t19 => LK g (lk E 0) fun g t0_1 => C3 M g (.func xa) [t19, t0_1] H2 fun g t21 H3 => B3 g ((Op.sliceArr 24 1 [none, (some 0), none]) [t5, t17]) fun g t23 => B3 g (Op.strOfBytes [t23] H3) fun g t24 => GO3 g Q .ret ((4, t24)::(6, t17)::(5, t5)::E) D H3) := by (repeat' apply And.intro) <;> (intro _ _ _ _; refine W_unf ?_; kernel_rfl)
theorem yy : (cProg Tryd.prog).func xl = some z7 ∧ z7.results = [.tmp 4] := xd (by kernel_rfl)
theorem qba {M : Mac} [MK M] : M.func xl = some z7 := MK.at (by decide) yy.1
theorem qbn {M : Mac} [MK M] {a0 a1 : AV} {H : AHeap} {Q : AEnd → AHeap → Prop} (h : W M ⟨none, xl⟩ (qk 0) true (FIN3 M [.tmp 4] Q) [(0, a0), (1, a1)] [] H) : CALLE M xl [a0, a1] H Q :=
  calle qba (ks := yv) (by kernel_rfl) (by rw [yy.2]; exact h)
def jl : AFunc := funcAt Tryd.prog xi
def v8 : Kp := ⟨[0], false, [0]⟩
def vu (k : Nat) : Kp × ACode := (v8, part jl.body k)
theorem vz (M : Mac) (c : Ctx) : (∀ Q E D H, W M c (vu 0) true Q E D H =
  LK true (lk E 0) fun g t0 => B3 g (Op.nilCheck [t0]) fun g t3 => B3 g ((Op.fieldAddr 0) [t3]) fun g t4 => B3 g (Op.load1 [t4] H) fun g t5 => B3 g ((Op.eq .ptr false) [t5, .nilp] H) fun g t6 => IF3 g t6 (fun g => LK g (lk E 0) fun g t0_1 => B3 g ((Op.castPtr (liesB Tryd.prog 78)) [t0_1] H) fun g t9 => B3 g (Op.noEscape [t9]) fun g t10 => B3 g ((Op.castPtr (liesB Tryd.prog 78)) [t10] H) fun g t11 => B3 g (Op.nilCheck [t0_1]) fun g t12 => B3 g ((Op.fieldAddr 0) [t12]) fun g t13 => B32 g ((Op.store 1) [t13, t11] H) fun g u H1 => GO3 g Q .normal E D H1) (fun g => LK g (lk E 0) fun g t0_1 => B3 g (Op.nilCheck [t0_1]) fun g t15 => B3 g ((Op.fieldAddr 0) [t15]) fun g t16 => B3 g (Op.load1 [t16] H) fun g t17 => B3 g ((Op.eq .ptr true) [t17, t0_1] H) fun g t19 => IF3 g t19 (fun g => False) (fun g => GO3 g Q .normal E D H))) := by intro _ _ _ _; refine W_unf ?_; kernel_rfl
theorem vt : (cProg Tryd.prog).func xi = some jl ∧ jl.results = [] := xd (by kernel_rfl)
theorem qb1 {M : Mac} [MK M] : M.func xi = some jl := MK.at (by decide) vt.1
theorem qcl {M : Mac} [MK M] {a0 : AV} {H : AHeap} {Q : AEnd → AHeap → Prop} (h : W M ⟨none, xi⟩ (vu 0) true (FIN3 M [] Q) [(0, a0)] [] H) : CALLE M xi [a0] H Q :=
  calle qb1 (ks := v8) (by kernel_rfl) (by rw [vt.2]; exact h)
def ko : AFunc := funcAt Tryd.prog zw
def qaw : Kp := ⟨[0, 1, 4], false, [0]⟩
def qau (k : Nat) : Kp × ACode := (qaw, part ko.body k)
theorem qe1 (M : Mac) (c : Ctx) : (∀ Q E D H, W M c (qau 0) true Q E D H =
  LK true (lk E 0) fun g t0 => B3 g (Op.nilCheck [t0]) fun g t6 => B3 g ((Op.fieldAddr 1) [t6]) fun g t7 => B3 g (Op.load1 [t7] H) fun g t8 => B3 g (Op.cap [t8]) fun g t9 => B3 g ((Op.bin .mul) [(.int .i64 2), t9]) fun g t10 => LK g (lk E 1) fun g t1 => B3 g ((Op.bin .add) [t10, t1]) fun g t12 => B3 g (Op.nilCheck [t0]) fun g t15 => B3 g ((Op.fieldAddr 1) [t15]) fun g t16 => B3 g (Op.load1 [t16] H) fun g t17 => B3 g (Op.lenSl [t17]) fun g t18 => B32 g ((Op.makeNoZero j4) [t12]) fun g o1 k1 => B3 g ((Op.sliceSl 1 [none, (some 0), none]) [(k1 H.next), t18]) fun g t19 => LK g (lk E 0) fun g t0_1 => B3 g (Op.nilCheck [t0_1]) fun g t22 => B3 g ((Op.fieldAddr 1) [t22]) fun g t23 => B3 g (Op.load1 [t23] (H.alloc o1)) fun g t24 => B32 g ((Op.copy 1) [t19, t24] (H.alloc o1)) fun g t25 H2 => LK g (lk E 0) fun g t0_2 => B3 g (Op.nilCheck [t0_2]) fun g t28 => B3 g ((Op.fieldAddr 1) [t28]) fun g t29 => B32 g ((Op.store 1) [t29, t19] H2) fun g u H3 => GO3 g Q .normal ((4, t19)::E) D H3) := by intro _ _ _ _; refine W_unf ?_; kernel_rfl
theorem qax : (cProg Tryd.prog).func zw = some ko ∧ ko.results = [] := xd (by kernel_rfl)
theorem qeh {M : Mac} [MK M] : M.func zw = some ko := MK.at (by decide) qax.1
theorem qe4 {M : Mac} [MK M] {a0 a1 : AV} {H : AHeap} {Q : AEnd → AHeap → Prop} (h : W M ⟨none, zw⟩ (qau 0) true (FIN3 M [] Q) [(0, a0), (1, a1)] [] H) : CALLE M zw [a0, a1] H Q :=
  calle qeh (ks := qaw) (by kernel_rfl) (by rw [qax.2]; exact h)
def jy : AFunc := funcAt Tryd.prog x8
def qaa : Kp := ⟨[0, 2], false, [0, 2, 10]⟩
def x7 (k : Nat) : Kp × ACode := (qaa, part jy.body k)
theorem wz (M : Mac) (c : Ctx) : (∀ Q E D H, W M c (x7 0) true Q E D H =
  W M c (x7 2) true Q ((2, (.str []))::E) D H) ∧
 (∀ Q E D H, W M c (x7 2) true Q E D H =
  LK true (lk E 0) fun g t0 => B3 g ((Op.bin .lss) [t0, (.int .i64 10)]) fun g t4 => IF3 g t4 (fun g => LK g (lk E 0) fun g t0_1 => B3 g ((Op.bin .add) [t0_1, (.int .i64 1)]) fun g t7 => B3 g ((Op.sliceStr [(some 0), (some 1)]) [(.str qlb), t0_1, t7]) fun g t8 => GO3 g (SEQ3 (W M c (x7 10)) Q) .ret ((2, t8)::E) D H) (fun g => GO3 g (SEQ3 (W M c (x7 10)) Q) .normal E D H)) ∧
 (∀ Q E D H, W M c (x7 10) true Q E D H =
  LK true (lk E 0) fun g t0 => B3 g ((Op.bin .mul) [t0, (.int .i64 2)]) fun g t10 => B3 g ((Op.bin .mul) [t0, (.int .i64 2)]) fun g t12 => B3 g ((Op.bin .add) [t12, (.int .i64 2)]) fun g t13 => B3 g ((Op.sliceStr [(some 0), (some 1)]) [(.str zo), t10, t13]) fun g t14 => GO3 g Q .ret ((2, t14)::E) D H) := by (repeat' apply And.intro) <;> (intro _ _ _ _; refine W_unf ?_; kernel_rfl)
theorem qag : (cProg Tryd.prog).func x8 = some jy ∧ jy.results = [.tmp 2] := xd (by kernel_rfl)
theorem qds {M : Mac} [MK M] : M.func x8 = some jy := MK.at (by decide) qag.1
theorem qdt {M : Mac} [MK M] {a0 : AV} {H : AHeap} {Q : AEnd → AHeap → Prop} (h : W M ⟨none, x8⟩ (x7 0) true (FIN3 M [.tmp 2] Q) [(0, a0)] [] H) : CALLE M x8 [a0] H Q :=
  calle qds (ks := qaa) (by kernel_rfl) (by rw [qag.2]; exact h)
def jg : AFunc := funcAt Tryd.prog xq
def vl : Kp := ⟨[0, 2, 3], false, [0]⟩
def vf (k : Nat) : Kp × ACode := (vl, part jg.body k)
theorem zf (M : Mac) (c : Ctx) : (∀ Q E D H, W M c (vf 0) true Q E D H =
  LK true (lk E 0) fun g t0 => C3 M g (.func jb) [t0] H fun g t5 H1 => C3 M g (.func xo) [t5] H1 fun g t6 H2 => LK g (lk E 0) fun g t0_1 => B3 g ((Op.indexArr 20 1) [(.ptr xe 0), t6]) fun g t10 => B3 g (Op.load1 [t10] H2) fun g t11 => B3 g ((Op.bin .geq) [t0_1, t11]) fun g t12 => C3 M g (.func xn) [t12] H2 fun g t13 H3 => B3 g ((Op.bin .add) [t6, t13]) fun g t14 => GO3 g Q .ret ((2, t14)::(3, t6)::(2, (.int .i64 0))::E) D H3) := by intro _ _ _ _; refine W_unf ?_; kernel_rfl
theorem vk : (cProg Tryd.prog).func xq = some jg ∧ jg.results = [.tmp 2] := xd (by kernel_rfl)
theorem qbo {M : Mac} [MK M] : M.func xq = some jg := MK.at (by decide) vk.1
theorem qb0 {M : Mac} [MK M] {a0 : AV} {H : AHeap} {Q : AEnd → AHeap → Prop} (h : W M ⟨none, xq⟩ (vf 0) true (FIN3 M [.tmp 2] Q) [(0, a0)] [] H) : CALLE M xq [a0] H Q :=
  calle qbo (ks := vl) (by kernel_rfl) (by rw [vk.2]; exact h)
def zl : AFunc := funcAt Tryd.prog xa
def yg : Kp := ⟨[0, 1, 4, 5, 6, 7, 8, 9, 10, 11, 12, 13, 14, 15, 16], false, [0, 2, 5, 11, 16, 20, 24, 31, 33, 39, 43, 49, 61]⟩
def qa (k : Nat) : Kp × ACode := (yg, part zl.body k)
theorem qz (M : Mac) (c : Ctx) : (∀ Q E D H, W M c (qa 0) true Q E D H =
  LK true (lk E 0) fun g t0 => B3 g (Op.lenSl [t0]) fun g t18 => W M c (qa 2) g Q ((4, t18)::E) D H) ∧
 (∀ Q E D H, W M c (qa 2) true Q E D H =
  LOOP3 (W M c (qa 5)) (BLK3 0 (SEQ3 (W M c (qa 31)) Q)) E D H) ∧
 (∀ Q E D H, W M c (qa 31) true Q E D H =
  LK true (lk E 1) fun g t1 => B3 g ((Op.wrap .u32) [t1]) fun g t97 => W M c (qa 33) g Q ((12, t97)::E) D H) ∧
 (∀ Q E D H, W M c (qa 5) true Q E D H =
  LK true (lk E 4) fun g t4 => B3 g ((Op.bin .geq) [t4, (.int .i64 8)]) fun g t20 => IF3 g t20 (fun g => GO3 g (SEQ3 (W M c (qa 11)) Q) .normal E D H) (fun g => GO3 g (SEQ3 (W M c (qa 11)) Q) (.exit 0) E D H)) ∧
 (∀ Q E D H, W M c (qa 33) true Q E D H =
  LK true (lk E 4) fun g t4 => B3 g ((Op.bin .geq) [t4, (.int .i64 4)]) fun g t99 => IF3 g t99 (fun g => LK g (lk E 12) fun g t12 => B3 g ((Op.bin .rem) [t12, (.int .u32 10000)]) fun g t101 => W M c (qa 39) g (SEQ3 (W M c (qa 49)) Q) ((13, t101)::E) D H) (fun g => GO3 g (SEQ3 (W M c (qa 49)) Q) .normal E D H)) ∧
 (∀ Q E D H, W M c (qa 11) true Q E D H =
  LK true (lk E 1) fun g t1 => B3 g ((Op.bin .rem) [t1, (.int .u64 100000000)]) fun g t22 => B3 g ((Op.wrap .u32) [t22]) fun g t23 => LK g (lk E 1) fun g t1_1 => B3 g ((Op.bin .quo) [t1_1, (.int .u64 100000000)]) fun g t25 => W M c (qa 16) g (BLK3 1 Q) ((1, t25)::(5, t23)::E) D H) ∧
 (∀ Q E D H, W M c (qa 49) true Q E D H =
  LK true (lk E 4) fun g t4 => B3 g ((Op.bin .geq) [t4, (.int .i64 2)]) fun g t139 => IF3 g t139 (fun g => LK g (lk E 12) fun g t12 => B3 g ((Op.bin .rem) [t12, (.int .u32 100)]) fun g t141 => B3 g ((Op.bin .mul) [t141, (.int .u32 2)]) fun g t142 => LK g (lk E 12) fun g t12_1 => B3 g ((Op.bin .quo) [t12_1, (.int .u32 100)]) fun g t144 => LK g (lk E 0) fun g t0 => LK g (lk E 4) fun g t4_1 => B3 g ((Op.bin .sub) [t4_1, (.int .i64 1)]) fun g t147 => B3 g ((Op.bin .sub) [t4_1, (.int .i64 2)]) fun g t150 => B3 g ((Op.bin .add) [t142, (.int .u32 1)]) fun g t152 => B3 g (Op.indexStr [(.str zo), t152]) fun g t153 => B3 g (Op.indexStr [(.str zo), t142]) fun g t155 => B3 g ((Op.indexSl 1) [t0, t147]) fun g t156 => B32 g ((Op.store 1) [t156, t153] H) fun g u H1 => B3 g ((Op.indexSl 1) [t0, t150]) fun g t157 => B32 g ((Op.store 1) [t157, t155] H1) fun g u_1 H2 => LK g (lk E 4) fun g t4_2 => B3 g ((Op.bin .sub) [t4_2, (.int .i64 2)]) fun g t159 => GO3 g (SEQ3 (W M c (qa 61)) Q) .normal ((4, t159)::(12, t144)::(16, t142)::E) D H2) (fun g => GO3 g (SEQ3 (W M c (qa 61)) Q) .normal E D H)) ∧
 (∀ Q E D H, W M c (qa 39) true Q E D H =
  LK true (lk E 12) fun g t12 => B3 g ((Op.bin .quo) [t12, (.int .u32 10000)]) fun g t103 => LK g (lk E 13) fun g t13 => B3 g ((Op.bin .quo) [t13, (.int .u32 100)]) fun g t105 => B3 g ((Op.bin .mul) [t105, (.int .u32 2)]) fun g t106 => B3 g ((Op.bin .rem) [t13, (.int .u32 100)]) fun g t108 => B3 g ((Op.bin .mul) [t108, (.int .u32 2)]) fun g t109 => W M c (qa 43) g Q ((15, t109)::(14, t106)::(12, t103)::E) D H) ∧
 (∀ Q E D H, W M c (qa 16) true Q E D H =
  LK true (lk E 5) fun g t5 => B3 g ((Op.bin .quo) [t5, (.int .u32 10000)]) fun g t27 => B3 g ((Op.bin .rem) [t5, (.int .u32 10000)]) fun g t29 => B3 g ((Op.bin .quo) [t29, (.int .u32 100)]) fun g t31 => B3 g ((Op.bin .mul) [t31, (.int .u32 2)]) fun g t32 => B3 g ((Op.bin .rem) [t29, (.int .u32 100)]) fun g t34 => B3 g ((Op.bin .mul) [t34, (.int .u32 2)]) fun g t35 => W M c (qa 20) g Q ((9, t35)::(8, t32)::(7, t29)::(6, t27)::E) D H) ∧
 (∀ Q E D H, W M c (qa 61) true Q E D H =
  LK true (lk E 4) fun g t4 => B3 g ((Op.bin .gtr) [t4, (.int .i64 0)]) fun g t161 => IF3 g t161 (fun g => LK g (lk E 0) fun g t0 => LK g (lk E 12) fun g t12 => B3 g ((Op.bin .add) [(.int .u32 48), t12]) fun g t164 => B3 g ((Op.wrap .u8) [t164]) fun g t165 => B3 g ((Op.indexSl 1) [t0, (.int .i64 0)]) fun g t166 => B32 g ((Op.store 1) [t166, t165] H) fun g u H1 => GO3 g Q .normal E D H1) (fun g => GO3 g Q .normal E D H)) ∧
 (∀ Q E D H, W M c (qa 43) true Q E D H =
  LK true (lk E 0) fun g t0 => LK g (lk E 4) fun g t4 => B3 g ((Op.bin .sub) [t4, (.int .i64 1)]) fun g t112 => B3 g ((Op.bin .sub) [t4, (.int .i64 2)]) fun g t115 => LK g (lk E 15) fun g t15 => B3 g ((Op.bin .add) [t15, (.int .u32 1)]) fun g t117 => B3 g (Op.indexStr [(.str zo), t117]) fun g t118 => B3 g (Op.indexStr [(.str zo), t15]) fun g t120 => B3 g ((Op.indexSl 1) [t0, t112]) fun g t121 => B32 g ((Op.store 1) [t121, t118] H) fun g u H1 => B3 g ((Op.indexSl 1) [t0, t115]) fun g t122 => B32 g ((Op.store 1) [t122, t120] H1) fun g u_1 H2 => LK g (lk E 0) fun g t0_1 => LK g (lk E 4) fun g t4_1 => B3 g ((Op.bin .sub) [t4_1, (.int .i64 3)]) fun g t125 => B3 g ((Op.bin .sub) [t4_1, (.int .i64 4)]) fun g t128 => LK g (lk E 14) fun g t14 => B3 g ((Op.bin .add) [t14, (.int .u32 1)]) fun g t130 => B3 g (Op.indexStr [(.str zo), t130]) fun g t131 => B3 g (Op.indexStr [(.str zo), t14]) fun g t133 => B3 g ((Op.indexSl 1) [t0_1, t125]) fun g t134 => B32 g ((Op.store 1) [t134, t131] H2) fun g u_2 H3 => B3 g ((Op.indexSl 1) [t0_1, t128]) fun g t135 => B32 g ((Op.store 1) [t135, t133] H3) fun g u_3 H4 => LK g (lk E 4) fun g t4_2 => B3 g ((Op.bin .sub) [t4_2, (.int .i64 4)]) fun g t137 => GO3 g Q .normal ((4, t137)::E) D H4) ∧
 (∀ Q E D H, W M c (qa 20) true Q E D H =
  LK true (lk E 6) fun g t6 => B3 g ((Op.bin .quo) [t6, (.int .u32 100)]) fun g t37 => B3 g ((Op.bin .mul) [t37, (.int .u32 2)]) fun g t38 => B3 g ((Op.bin .rem) [t6, (.int .u32 100)]) fun g t40 => B3 g ((Op.bin .mul) [t40, (.int .u32 2)]) fun g t41 => LK g (lk E 0) fun g t0 => LK g (lk E 4) fun g t4 => B3 g ((Op.bin .sub) [t4, (.int .i64 1)]) fun g t44 => B3 g ((Op.bin .sub) [t4, (.int .i64 2)]) fun g t47 => LK g (lk E 9) fun g t9 => B3 g ((Op.bin .add) [t9, (.int .u32 1)]) fun g t49 => B3 g (Op.indexStr [(.str zo), t49]) fun g t50 => B3 g (Op.indexStr [(.str zo), t9]) fun g t52 => B3 g ((Op.indexSl 1) [t0, t44]) fun g t53 => B32 g ((Op.store 1) [t53, t50] H) fun g u H1 => B3 g ((Op.indexSl 1) [t0, t47]) fun g t54 => B32 g ((Op.store 1) [t54, t52] H1) fun g u_1 H2 => W M c (qa 24) g Q ((11, t41)::(10, t38)::E) D H2) ∧
 (∀ Q E D H, W M c (qa 24) true Q E D H =
  LK true (lk E 0) fun g t0 => LK g (lk E 4) fun g t4 => B3 g ((Op.bin .sub) [t4, (.int .i64 3)]) fun g t57 => B3 g ((Op.bin .sub) [t4, (.int .i64 4)]) fun g t60 => LK g (lk E 8) fun g t8 => B3 g ((Op.bin .add) [t8, (.int .u32 1)]) fun g t62 => B3 g (Op.indexStr [(.str zo), t62]) fun g t63 => B3 g (Op.indexStr [(.str zo), t8]) fun g t65 => B3 g ((Op.indexSl 1) [t0, t57]) fun g t66 => B32 g ((Op.store 1) [t66, t63] H) fun g u H1 => B3 g ((Op.indexSl 1) [t0, t60]) fun g t67 => B32 g ((Op.store 1) [t67, t65] H1) fun g u_1 H2 => LK g (lk E 0) fun g t0_1 => LK g (lk E 4) fun g t4_1 => B3 g ((Op.bin .sub) [t4_1, (.int .i64 5)]) fun g t70 => B3 g ((Op.bin .sub) [t4_1, (.int .i64 6)]) fun g t73 => LK g (lk E 11) fun g t11 => B3 g ((Op.bin .add) [t11, (.int .u32 1)]) fun g t75 => B3 g (Op.indexStr [(.str zo), t75]) fun g t76 => B3 g (Op.indexStr [(.str zo), t11]) fun g t78 => B3 g ((Op.indexSl 1) [t0_1, t70]) fun g t79 => B32 g ((Op.store 1) [t79, t76] H2) fun g u_2 H3 => B3 g ((Op.indexSl 1) [t0_1, t73]) fun g t80 => B32 g ((Op.store 1) [t80, t78] H3) fun g u_3 H4 => LK g (lk E 0) fun g t0_2 => LK g (lk E 4) fun g t4_2 => B3 g ((Op.bin .sub) [t4_2, (.int .i64 7)]) fun g t83 => B3 g ((Op.bin .sub) [t4_2, (.int .i64 8)]) fun g t86 => LK g (lk E 10) fun g t10 => B3 g ((Op.bin .add) [t10, (.int .u32 1)]) fun g t88 => B3 g (Op.indexStr [(.str zo), t88]) fun g t89 => B3 g (Op.indexStr [(.str zo), t10]) fun g t91 => B3 g ((Op.indexSl 1) [t0_2, t83]) fun g t92 => B32 g ((Op.store 1) [t92, t89] H4) fun g u_4 H5 => B3 g ((Op.indexSl 1) [t0_2, t86]) fun g t93 => B32 g ((Op.store 1) [t93, t91] H5) fun g u_5 H6 => LK g (lk E 4) fun g t4_3 => B3 g ((Op.bin .sub) [t4_3, (.int .i64 8)]) fun g t95 => GO3 g Q .normal ((4, t95)::E) D H6) := by (repeat' apply And.intro) <;> (intro _ _ _ _; refine W_unf ?_; kernel_rfl)
theorem yj : (cProg Tryd.prog).func xa = some zl ∧ zl.results = [] := xd (by kernel_rfl)
theorem qar {M : Mac} [MK M] : M.func xa = some zl := MK.at (by decide) yj.1
theorem qa3 {M : Mac} [MK M] {a0 a1 : AV} {H : AHeap} {Q : AEnd → AHeap → Prop} (h : W M ⟨none, xa⟩ (qa 0) true (FIN3 M [] Q) [(0, a0), (1, a1)] [] H) : CALLE M xa [a0, a1] H Q :=
  calle qar (ks := yg) (by kernel_rfl) (by rw [yj.2]; exact h)
def jf : AFunc := funcAt Tryd.prog xo
def vj : Kp := ⟨[0, 2], false, [0]⟩
def vc (k : Nat) : Kp × ACode := (vj, part jf.body k)
theorem qb3 (M : Mac) (c : Ctx) : (∀ Q E D H, W M c (vc 0) true Q E D H =
  LK true (lk E 0) fun g t0 => B3 g ((Op.bin .mul) [t0, (.int .i64 78913)]) fun g t4 => B3 g ((Op.bin .shr) [t4, (.int .u64 18)]) fun g t5 => GO3 g Q .ret ((2, t5)::(2, (.int .i64 0))::E) D H) := by intro _ _ _ _; refine W_unf ?_; kernel_rfl
theorem vd : (cProg Tryd.prog).func xo = some jf ∧ jf.results = [.tmp 2] := xd (by kernel_rfl)
theorem qbl {M : Mac} [MK M] : M.func xo = some jf := MK.at (by decide) vd.1
theorem qb8 {M : Mac} [MK M] {a0 : AV} {H : AHeap} {Q : AEnd → AHeap → Prop} (h : W M ⟨none, xo⟩ (vc 0) true (FIN3 M [.tmp 2] Q) [(0, a0)] [] H) : CALLE M xo [a0] H Q :=
  calle qbl (ks := vj) (by kernel_rfl) (by rw [vd.2]; exact h)
def we : AFunc := funcAt Tryd.prog jb
def qdw : Kp := ⟨[0, 2], false, [0, 2, 10, 18, 26]⟩
def xc (k : Nat) : Kp × ACode := (qdw, part we.body k)
theorem wa (M : Mac) (c : Ctx) : (∀ Q E D H, W M c (xc 0) true Q E D H =
  W M c (xc 2) true Q ((2, (.int .i64 0))::E) D H) ∧
 (∀ Q E D H, W M c (xc 2) true Q E D H =
  LK true (lk E 0) fun g t0 => B3 g ((Op.bin .geq) [t0, (.int .u64 4294967296)]) fun g t4 => IF3 g t4 (fun g => LK g (lk E 0) fun g t0_1 => B3 g ((Op.bin .shr) [t0_1, (.int .u64 32)]) fun g t6 => GO3 g (SEQ3 (W M c (xc 10)) Q) .normal ((2, (.int .i64 32))::(0, t6)::E) D H) (fun g => GO3 g (SEQ3 (W M c (xc 10)) Q) .normal E D H)) ∧
 (∀ Q E D H, W M c (xc 10) true Q E D H =
  LK true (lk E 0) fun g t0 => B3 g ((Op.bin .geq) [t0, (.int .u64 65536)]) fun g t8 => IF3 g t8 (fun g => LK g (lk E 0) fun g t0_1 => B3 g ((Op.bin .shr) [t0_1, (.int .u64 16)]) fun g t10 => LK g (lk E 2) fun g t2 => B3 g ((Op.bin .add) [t2, (.int .i64 16)]) fun g t12 => GO3 g (SEQ3 (W M c (xc 18)) Q) .normal ((2, t12)::(0, t10)::E) D H) (fun g => GO3 g (SEQ3 (W M c (xc 18)) Q) .normal E D H)) ∧
 (∀ Q E D H, W M c (xc 18) true Q E D H =
  LK true (lk E 0) fun g t0 => B3 g ((Op.bin .geq) [t0, (.int .u64 256)]) fun g t14 => IF3 g t14 (fun g => LK g (lk E 0) fun g t0_1 => B3 g ((Op.bin .shr) [t0_1, (.int .u64 8)]) fun g t16 => LK g (lk E 2) fun g t2 => B3 g ((Op.bin .add) [t2, (.int .i64 8)]) fun g t18 => GO3 g (SEQ3 (W M c (xc 26)) Q) .normal ((2, t18)::(0, t16)::E) D H) (fun g => GO3 g (SEQ3 (W M c (xc 26)) Q) .normal E D H)) ∧
 (∀ Q E D H, W M c (xc 26) true Q E D H =
  LK true (lk E 2) fun g t2 => LK g (lk E 0) fun g t0 => B3 g ((Op.wrap .u8) [t0]) fun g t21 => B3 g (Op.indexStr [(.str qg4), t21]) fun g t22 => B3 g ((Op.wrap .i64) [t22]) fun g t23 => B3 g ((Op.bin .add) [t2, t23]) fun g t24 => GO3 g Q .ret ((2, t24)::E) D H) := by (repeat' apply And.intro) <;> (intro _ _ _ _; refine W_unf ?_; kernel_rfl)
theorem qd3 : (cProg Tryd.prog).func jb = some we ∧ we.results = [.tmp 2] := xd (by kernel_rfl)
theorem qhf {M : Mac} [MK M] : M.func jb = some we := MK.at (by decide) qd3.1
theorem qij {M : Mac} [MK M] {a0 : AV} {H : AHeap} {Q : AEnd → AHeap → Prop} (h : W M ⟨none, jb⟩ (xc 0) true (FIN3 M [.tmp 2] Q) [(0, a0)] [] H) : CALLE M jb [a0] H Q :=
  calle qhf (ks := qdw) (by kernel_rfl) (by rw [qd3.2]; exact h)
def jd : AFunc := funcAt Tryd.prog xn
def vn : Kp := ⟨[0, 2], false, [0, 2, 10]⟩
def xp (k : Nat) : Kp × ACode := (vn, part jd.body k)
theorem qbx (M : Mac) (c : Ctx) : (∀ Q E D H, W M c (xp 0) true Q E D H =
  W M c (xp 2) true Q ((2, (.int .i64 0))::E) D H) ∧
 (∀ Q E D H, W M c (xp 2) true Q E D H =
  LK true (lk E 0) fun g t0 => IF3 g t0 (fun g => GO3 g (SEQ3 (W M c (xp 10)) Q) .ret ((2, (.int .i64 1))::E) D H) (fun g => GO3 g (SEQ3 (W M c (xp 10)) Q) .normal E D H)) ∧
 (∀ Q E D H, W M c (xp 10) true Q E D H =
  GO3 true Q .ret ((2, (.int .i64 0))::E) D H) := by (repeat' apply And.intro) <;> (intro _ _ _ _; refine W_unf ?_; kernel_rfl)
theorem vi : (cProg Tryd.prog).func xn = some jd ∧ jd.results = [.tmp 2] := xd (by kernel_rfl)
theorem qbp {M : Mac} [MK M] : M.func xn = some jd := MK.at (by decide) vi.1
theorem qb2 {M : Mac} [MK M] {a0 : AV} {H : AHeap} {Q : AEnd → AHeap → Prop} (h : W M ⟨none, xn⟩ (xp 0) true (FIN3 M [.tmp 2] Q) [(0, a0)] [] H) : CALLE M xn [a0] H Q :=
  calle qbp (ks := vn) (by kernel_rfl) (by rw [vi.2]; exact h)
end
end Go.Am
namespace Go.Am
abbrev xm : Nat := 125
abbrev jn : Nat := 15
abbrev vw : Nat := 63
abbrev jp : Nat := 40
abbrev vy : Nat := 62
abbrev wx : Nat := 129
abbrev vv : Nat := 128
abbrev x5 : Nat := 101
abbrev ji : Nat := 100
abbrev qx : Nat := 99
abbrev zt : Nat := 41
abbrev qw : Nat := 66
abbrev qd : Nat := 64
abbrev jx : Nat := 95
abbrev qif : Nat := 123
abbrev jr : Nat := 124
abbrev zj : Nat := 93
abbrev xu : Nat := 96
abbrev z6 : Nat := 65
abbrev qc : Nat := 58
abbrev qjh : Nat := 4
abbrev T_int : Nat := 3
abbrev xy : Nat := 80
abbrev yh : Nat := 78
def qu9 : List UInt8 := [115, 116, 114, 105, 110, 103, 115, 58, 32, 110, 101, 103, 97, 116, 105, 118, 101, 32, 82, 101, 112, 101, 97, 116, 32, 99, 111, 117, 110, 116]
def qvi : List UInt8 := [115, 116, 114, 105, 110, 103, 115, 58, 32, 82, 101, 112, 101, 97, 116, 32, 111, 117, 116, 112, 117, 116, 32, 108, 101, 110, 103, 116, 104, 32, 111, 118, 101, 114, 102, 108, 111, 119]
def qa2 : List UInt8 := [32, 32, 32, 32, 32, 32, 32, 32, 32, 32, 32, 32, 32, 32, 32, 32, 32, 32, 32, 32, 32, 32, 32, 32, 32, 32, 32, 32, 32, 32, 32, 32, 32, 32, 32, 32, 32, 32, 32, 32, 32, 32, 32, 32, 32, 32, 32, 32, 32, 32, 32, 32, 32, 32, 32, 32, 32, 32, 32, 32, 32, 32, 32, 32, 32, 32, 32, 32, 32, 32, 32, 32, 32, 32, 32, 32, 32, 32, 32, 32, 32, 32, 32, 32, 32, 32, 32, 32, 32, 32, 32, 32, 32, 32, 32, 32, 32, 32, 32, 32, 32, 32, 32, 32, 32, 32, 32, 32, 32, 32, 32, 32, 32, 32, 32, 32, 32, 32, 32, 32, 32, 32, 32, 32, 32, 32, 32, 32]
def qmr : List UInt8 := [45, 45, 45, 45, 45, 45, 45, 45, 45, 45, 45, 45, 45, 45, 45, 45, 45, 45, 45, 45, 45, 45, 45, 45, 45, 45, 45, 45, 45, 45, 45, 45, 45, 45, 45, 45, 45, 45, 45, 45, 45, 45, 45, 45, 45, 45, 45, 45, 45, 45, 45, 45, 45, 45, 45, 45, 45, 45, 45, 45, 45, 45, 45, 45, 45, 45, 45, 45, 45, 45, 45, 45, 45, 45, 45, 45, 45, 45, 45, 45, 45, 45, 45, 45, 45, 45, 45, 45, 45, 45, 45, 45, 45, 45, 45, 45, 45, 45, 45, 45, 45, 45, 45, 45, 45, 45, 45, 45, 45, 45, 45, 45, 45, 45, 45, 45, 45, 45, 45, 45, 45, 45, 45, 45, 45, 45, 45, 45]
def qm5 : List UInt8 := [48, 48, 48, 48, 48, 48, 48, 48, 48, 48, 48, 48, 48, 48, 48, 48, 48, 48, 48, 48, 48, 48, 48, 48, 48, 48, 48, 48, 48, 48, 48, 48, 48, 48, 48, 48, 48, 48, 48, 48, 48, 48, 48, 48, 48, 48, 48, 48, 48, 48, 48, 48, 48, 48, 48, 48, 48, 48, 48, 48, 48, 48, 48, 48]
def qm1 : List UInt8 := [61, 61, 61, 61, 61, 61, 61, 61, 61, 61, 61, 61, 61, 61, 61, 61, 61, 61, 61, 61, 61, 61, 61, 61, 61, 61, 61, 61, 61, 61, 61, 61, 61, 61, 61, 61, 61, 61, 61, 61, 61, 61, 61, 61, 61, 61, 61, 61, 61, 61, 61, 61, 61, 61, 61, 61, 61, 61, 61, 61, 61, 61, 61, 61, 61, 61, 61, 61, 61, 61, 61, 61, 61, 61, 61, 61, 61, 61, 61, 61, 61, 61, 61, 61, 61, 61, 61, 61, 61, 61, 61, 61, 61, 61, 61, 61, 61, 61, 61, 61, 61, 61, 61, 61, 61, 61, 61, 61, 61, 61, 61, 61, 61, 61, 61, 61, 61, 61, 61, 61, 61, 61, 61, 61, 61, 61, 61, 61]
def qnb : List UInt8 := [9, 9, 9, 9, 9, 9, 9, 9, 9, 9, 9, 9, 9, 9, 9, 9, 9, 9, 9, 9, 9, 9, 9, 9, 9, 9, 9, 9, 9, 9, 9, 9, 9, 9, 9, 9, 9, 9, 9, 9, 9, 9, 9, 9, 9, 9, 9, 9, 9, 9, 9, 9, 9, 9, 9, 9, 9, 9, 9, 9, 9, 9, 9, 9]
def qus : List UInt8 := [116, 104, 101, 32, 114, 101, 115, 117, 108, 116, 32, 111, 102, 32, 40, 108, 101, 110, 40, 120, 41, 32, 42, 32, 99, 111, 117, 110, 116, 41, 32, 111, 118, 101, 114, 102, 108, 111, 119, 115]
noncomputable section
open Go.Proofs Go.Proofs.YtbimikjajohflaaDoor
def qdh : AFunc := funcAt Tryd.prog jn
def qjj : Kp := ⟨[0, 2, 3, 4], false, [0, 2, 10, 14, 22]⟩
def jm (k : Nat) : Kp × ACode := (qjj, part qdh.body k)
theorem qiy (M : Mac) (c : Ctx) : (∀ Q E D H, W M c (jm 0) true Q E D H =
  W M c (jm 2) true Q ((3, (.int .i64 0))::(2, (.str []))::E) D H) ∧
 (∀ Q E D H, W M c (jm 2) true Q E D H =
  LK true (lk E 0) fun g t0 => C3 M g (.func jp) [t0] H fun g t6 H1 => B3 g ((Op.un .not) [t6]) fun g t7 => IF3 g t7 (fun g => GO3 g (SEQ3 (W M c (jm 10)) Q) .ret ((3, (.int .i64 2))::(2, (.str []))::E) D H1) (fun g => GO3 g (SEQ3 (W M c (jm 10)) Q) .normal E D H1)) ∧
 (∀ Q E D H, W M c (jm 10) true Q E D H =
  LK true (lk E 0) fun g t0 => B3 g ((Op.build [.nilp, .nils, .nils, (.int .i64 0), (.int .i64 0)] [(2, 1)]) [t0]) fun g t9 => A3 g xy (AV.cells t9) H fun g t10 H1 => LK g (lk E 0) fun g t0_1 => B3 g (Op.lenSl [t0_1]) fun g t13 => B3 g ((Op.bin .sub) [t13, (.int .i64 1)]) fun g t14 => C3 M g (.func zt) [t10, t14, (.int .i64 0)] H1 fun g t15 H2 => W M c (jm 14) g Q ((4, t10)::E) D H2) ∧
 (∀ Q E D H, W M c (jm 14) true Q E D H =
  LK true (lk E 4) fun g t4 => B3 g (Op.nilCheck [t4]) fun g t17 => B3 g ((Op.fieldAddr 4) [t17]) fun g t18 => B3 g (Op.load1 [t18] H) fun g t19 => B3 g ((Op.bin .gtr) [t19, (.int .i64 50)]) fun g t20 => IF3 g t20 (fun g => GO3 g (SEQ3 (W M c (jm 22)) Q) .ret ((3, (.int .i64 2))::(2, (.str []))::E) D H) (fun g => GO3 g (SEQ3 (W M c (jm 22)) Q) .normal E D H)) ∧
 (∀ Q E D H, W M c (jm 22) true Q E D H =
  LK true (lk E 4) fun g t4 => B3 g (Op.nilCheck [t4]) fun g t22 => B3 g ((Op.fieldAddr 0) [t22]) fun g t23 => C3 M g (.func xk) [t23] H fun g t24 H1 => GO3 g Q .ret ((3, (.int .i64 0))::(2, t24)::E) D H1) := by (repeat' apply And.intro) <;> (intro _ _ _ _; refine W_unf ?_; kernel_rfl)
theorem qi8 : (cProg Tryd.prog).func jn = some qdh ∧ qdh.results = [.tmp 2, .tmp 3] := xd (by kernel_rfl)
theorem qn4 {M : Mac} [MK M] : M.func jn = some qdh := MK.at (by decide) qi8.1
theorem qjk {M : Mac} [MK M] {a0 : AV} {H : AHeap} {Q : AEnd → AHeap → Prop} (h : W M ⟨none, jn⟩ (jm 0) true (FIN3 M [.tmp 2, .tmp 3] Q) [(0, a0)] [] H) : CALLE M jn [a0] H Q :=
  calle qn4 (ks := qjj) (by kernel_rfl) (by rw [qi8.2]; exact h)
def qfn : AFunc := funcAt Tryd.prog jp
def qmq : Kp := ⟨[0, 2, 3, 4, 5, 6, 7, 8, 9, 10, 11, 33, 34, 35, 70, 71, 72], false, [0, 2, 10, 14, 19, 25, 31, 39, 41, 46, 52, 56, 64, 65, 66, 70, 78, 80, 81, 82]⟩
def qg (k : Nat) : Kp × ACode := (qmq, part qfn.body k)
theorem qm9 (M : Mac) (c : Ctx) : (∀ Q E D H, W M c (qg 0) true Q E D H =
  W M c (qg 2) true Q ((2, (.bool false))::E) D H) ∧
 (∀ Q E D H, W M c (qg 2) true Q E D H =
  LK true (lk E 0) fun g t0 => B3 g (Op.lenSl [t0]) fun g t13 => B3 g ((Op.bin .lss) [t13, (.int .i64 1)]) fun g t14 => JN (fun (k : Bool → AV → AV → AV → AHeap → Prop) => B3 g (wantV false (some t14)) fun g w => IG3 g w (fun g => B3 g (Op.lenSl [t0]) fun g t17 => B3 g ((Op.bin .gtr) [t17, (.int .i64 2000)]) fun g t18 => k g t18 t17 t0 H) (fun g => k g uu uu uu H)) (fun g t18_1 t17_1 t16_1 H1 => B3 g (Op.pick [t14, (.bool true), t18_1]) fun g t19 => JN (fun (k : Bool → AV → AV → AV → AV → AV → AV → AV → AV → AHeap → Prop) => B3 g (wantV false (some t19)) fun g w => IG3 g w (fun g => B3 g (Op.lenSl [t0]) fun g t23 => B3 g ((Op.bin .sub) [t23, (.int .i64 1)]) fun g t24 => B3 g ((Op.indexSl 3) [t0, t24]) fun g t25 => B3 g ((Op.fieldAddr 0) [t25]) fun g t26 => B3 g (Op.load1 [t26] H1) fun g t27 => B3 g ((Op.bin .neq) [t27, (.int .i64 20)]) fun g t28 => k g t28 t27 t26 t25 t24 t23 t0 t0 H1) (fun g => k g uu uu uu uu uu uu uu uu H1)) (fun g t28_1 t27_1 t26_1 t25_1 t24_1 t23_1 t22_1 t21_1 H2 => B3 g (Op.pick [t19, (.bool true), t28_1]) fun g t29 => IF3 g t29 (fun g => GO3 g (SEQ3 (W M c (qg 10)) Q) .ret ((2, (.bool false))::E) D H2) (fun g => GO3 g (SEQ3 (W M c (qg 10)) Q) .normal E D H2)))) ∧
 (∀ Q E D H, W M c (qg 10) true Q E D H =
  LK true (lk E 0) fun g t0 => B3 g (Op.lenSl [t0]) fun g t31 => B32 g ((Op.mkSlice qjh 1 [(.bool false)]) [t31, t31]) fun g o1 k1 => W M c (qg 14) g Q ((4, (k1 H.next))::(3, .nils)::E) D (H.alloc o1)) ∧
 (∀ Q E D H, W M c (qg 14) true Q E D H =
  LK true (lk E 0) fun g t0 => B3 g (Op.lenSl [t0]) fun g t34 => LOOP3 (W M c (qg 19)) (BLK3 0 (SEQ3 (W M c (qg 82)) Q)) ((35, (.int .i64 0))::(34, t34)::(33, t0)::E) D H) ∧
 (∀ Q E D H, W M c (qg 82) true Q E D H =
  LK true (lk E 3) fun g t3 => B3 g (Op.lenSl [t3]) fun g t132 => B3 g ((Op.bin .eql) [t132, (.int .i64 1)]) fun g t133 => GO3 g Q .ret ((2, t133)::E) D H) ∧
 (∀ Q E D H, W M c (qg 19) true Q E D H =
  LK true (lk E 35) fun g t35 => LK g (lk E 34) fun g t34 => B3 g ((Op.bin .lss) [t35, t34]) fun g t36 => IF3 g t36 (fun g => GO3 g (SEQ3 (W M c (qg 25)) Q) .normal E D H) (fun g => GO3 g (SEQ3 (W M c (qg 25)) Q) (.exit 0) E D H)) ∧
 (∀ Q E D H, W M c (qg 25) true Q E D H =
  LK true (lk E 35) fun g t35 => LK g (lk E 33) fun g t33 => B3 g ((Op.indexSl 3) [t33, t35]) fun g t38 => B3 g ((Op.loadN 3) [t38] H) fun g t39 => A3 g qc [(.int .i64 0), (.int .u64 0), .nils] H fun g t6 H1 => B32 g ((Op.store 3) [t6, t39] H1) fun g u H2 => B3 g ((Op.loadN 3) [t6] H2) fun g t41 => C3 M g (.func vy) [t41] H2 fun g t42 H3 => B3 g ((Op.extract 0) [t42]) fun g t43 => B3 g ((Op.extract 1) [t42]) fun g t44 => W M c (qg 31) g (BLK3 1 (SEQ3 (W M c (qg 81)) Q)) ((8, t44)::(7, t43)::(5, t35)::(6, t6)::E) D H3) ∧
 (∀ Q E D H, W M c (qg 81) true Q E D H =
  LK true (lk E 35) fun g t35 => B3 g ((Op.bin .add) [t35, (.int .i64 1)]) fun g t130 => GO3 g Q .normal ((35, t130)::E) D H) ∧
 (∀ Q E D H, W M c (qg 31) true Q E D H =
  LK true (lk E 8) fun g t8 => B3 g ((Op.un .not) [t8]) fun g t46 => JN (fun (k : Bool → AV → AV → AV → AV → AV → AV → AHeap → Prop) => B3 g (wantV false (some t46)) fun g w => IG3 g w (fun g => LK g (lk E 7) fun g t7 => B3 g (Op.lenSl [t7]) fun g t49 => LK g (lk E 6) fun g t6 => B3 g ((Op.fieldAddr 2) [t6]) fun g t50 => B3 g (Op.load1 [t50] H) fun g t51 => B3 g (Op.lenSl [t51]) fun g t52 => B3 g ((Op.bin .neq) [t49, t52]) fun g t53 => k g t53 t52 t51 t50 t49 t7 H) (fun g => k g uu uu uu uu uu uu H)) (fun g t53_1 t52_1 t51_1 t50_1 t49_1 t48_1 H1 => B3 g (Op.pick [t46, (.bool true), t53_1]) fun g t54 => JN (fun (k : Bool → AV → AV → AV → AV → AV → AHeap → Prop) => B3 g (wantV false (some t54)) fun g w => IG3 g w (fun g => LK g (lk E 7) fun g t7_1 => B3 g (Op.lenSl [t7_1]) fun g t57 => LK g (lk E 3) fun g t3 => B3 g (Op.lenSl [t3]) fun g t59 => B3 g ((Op.bin .gtr) [t57, t59]) fun g t60 => k g t60 t59 t3 t57 t7_1 H1) (fun g => k g uu uu uu uu uu H1)) (fun g t60_1 t59_1 t58_1 t57_1 t56_1 H2 => B3 g (Op.pick [t54, (.bool true), t60_1]) fun g t61 => IF3 g t61 (fun g => GO3 g (SEQ3 (W M c (qg 39)) Q) .ret ((2, (.bool false))::E) D H2) (fun g => GO3 g (SEQ3 (W M c (qg 39)) Q) .normal E D H2)))) ∧
 (∀ Q E D H, W M c (qg 39) true Q E D H =
  LK true (lk E 3) fun g t3 => B3 g (Op.lenSl [t3]) fun g t64 => LK g (lk E 7) fun g t7 => B3 g (Op.lenSl [t7]) fun g t66 => B3 g ((Op.bin .sub) [t64, t66]) fun g t67 => B3 g ((Op.sliceSl 1 [(some 0), none, none]) [t3, t67]) fun g t68 => W M c (qg 41) g Q ((9, t68)::E) D H) ∧
 (∀ Q E D H, W M c (qg 41) true Q E D H =
  LK true (lk E 6) fun g t6 => B3 g ((Op.fieldAddr 2) [t6]) fun g t69 => B3 g (Op.load1 [t69] H) fun g t70 => B3 g (Op.lenSl [t70]) fun g t71 => LOOP3 (W M c (qg 46)) (BLK3 2 (SEQ3 (W M c (qg 66)) Q)) ((72, (.int .i64 0))::(71, t71)::(70, t70)::E) D H) ∧
 (∀ Q E D H, W M c (qg 66) true Q E D H =
  LK true (lk E 6) fun g t6 => B3 g ((Op.fieldAddr 0) [t6]) fun g t110 => B3 g (Op.load1 [t110] H) fun g t111 => B3 g ((Op.bin .eql) [t111, (.int .i64 18)]) fun g t112 => IF3 g t112 (fun g => W M c (qg 70) g (SEQ3 (W M c (qg 80)) Q) E D H) (fun g => GO3 g (SEQ3 (W M c (qg 80)) Q) .normal E D H)) ∧
 (∀ Q E D H, W M c (qg 46) true Q E D H =
  LK true (lk E 72) fun g t72 => LK g (lk E 71) fun g t71 => B3 g ((Op.bin .lss) [t72, t71]) fun g t73 => IF3 g t73 (fun g => GO3 g (SEQ3 (W M c (qg 52)) Q) .normal E D H) (fun g => GO3 g (SEQ3 (W M c (qg 52)) Q) (.exit 2) E D H)) ∧
 (∀ Q E D H, W M c (qg 80) true Q E D H =
  LK true (lk E 3) fun g t3 => B3 g (Op.lenSl [t3]) fun g t122 => LK g (lk E 7) fun g t7 => B3 g (Op.lenSl [t7]) fun g t124 => B3 g ((Op.bin .sub) [t122, t124]) fun g t125 => B3 g ((Op.sliceSl 1 [none, (some 0), none]) [t3, t125]) fun g t126 => LK g (lk E 5) fun g t5 => B32 g ((Op.buildSlice T_int 1 [(.int .i64 0)] [(0, 1)]) [t5]) fun g o1 k1 => B32 g ((Op.append T_int 1 8) [t126, (k1 H.next)] (H.alloc o1)) fun g t129 H2 => GO3 g Q .normal ((3, t129)::E) D H2) ∧
 (∀ Q E D H, W M c (qg 70) true Q E D H =
  LK true (lk E 4) fun g t4 => LK g (lk E 5) fun g t5 => B3 g ((Op.indexSl 1) [t4, t5]) fun g t115 => B3 g (Op.load1 [t115] H) fun g t116 => IF3 g t116 (fun g => GO3 g (SEQ3 (W M c (qg 78)) Q) .ret ((2, (.bool false))::E) D H) (fun g => GO3 g (SEQ3 (W M c (qg 78)) Q) .normal E D H)) ∧
 (∀ Q E D H, W M c (qg 52) true Q E D H =
  LK true (lk E 72) fun g t72 => LK g (lk E 70) fun g t70 => B3 g ((Op.indexSl 1) [t70, t72]) fun g t75 => B3 g (Op.load1 [t75] H) fun g t76 => W M c (qg 56) g (BLK3 3 (SEQ3 (W M c (qg 65)) Q)) ((11, t76)::(10, t72)::E) D H) ∧
 (∀ Q E D H, W M c (qg 78) true Q E D H =
  LK true (lk E 4) fun g t4 => LK g (lk E 5) fun g t5 => B3 g ((Op.indexSl 1) [t4, t5]) fun g t119 => B32 g ((Op.store 1) [t119, (.bool true)] H) fun g u H1 => GO3 g Q .normal E D H1) ∧
 (∀ Q E D H, W M c (qg 65) true Q E D H =
  LK true (lk E 72) fun g t72 => B3 g ((Op.bin .add) [t72, (.int .i64 1)]) fun g t109 => GO3 g Q .normal ((72, t109)::E) D H) ∧
 (∀ Q E D H, W M c (qg 56) true Q E D H =
  LK true (lk E 9) fun g t9 => LK g (lk E 10) fun g t10 => B3 g ((Op.indexSl 1) [t9, t10]) fun g t79 => B3 g (Op.load1 [t79] H) fun g t80 => LK g (lk E 11) fun g t11 => B3 g ((Op.bin .neq) [t80, t11]) fun g t82 => JN (fun (k : Bool → AV → AV → AV → AV → AV → AV → AV → AV → AV → AV → AV → AHeap → Prop) => B3 g (wantV false (some t82)) fun g w => IG3 g w (fun g => LK g (lk E 0) fun g t0 => B3 g ((Op.indexSl 3) [t0, t11]) fun g t86 => B3 g ((Op.fieldAddr 0) [t86]) fun g t87 => B3 g (Op.load1 [t87] H) fun g t88 => LK g (lk E 7) fun g t7 => B3 g ((Op.indexSl 1) [t7, t10]) fun g t92 => B3 g (Op.load1 [t92] H) fun g t93 => C3 M g (.func vw) [t88] H fun g t89 H1 => CK3 g (Op.load1 [t92] H1) (some t93) fun g => B3 g ((Op.bin .neq) [t89, t93]) fun g t94 => k g t94 t89 t93 t92 t10 t7 t88 t87 t86 t11 t0 H1) (fun g => k g uu uu uu uu uu uu uu uu uu uu uu H)) (fun g t94_1 t89_1 t93_1 t92_1 t91_1 t90_1 t88_1 t87_1 t86_1 t85_1 t84_1 H2 => B3 g (Op.pick [t82, (.bool true), t94_1]) fun g t95 => IF3 g t95 (fun g => GO3 g (SEQ3 (W M c (qg 64)) Q) .ret ((2, (.bool false))::E) D H2) (fun g => GO3 g (SEQ3 (W M c (qg 64)) Q) .normal E D H2))) ∧
 (∀ Q E D H, W M c (qg 64) true Q E D H =
  LK true (lk E 4) fun g t4 => LK g (lk E 5) fun g t5 => B3 g ((Op.indexSl 1) [t4, t5]) fun g t100 => B3 g (Op.load1 [t100] H) fun g t101 => JN (fun (k : Bool → AV → AV → AV → AV → AHeap → Prop) => B3 g (wantV false (some t101)) fun g w => IG3 g w (fun g => LK g (lk E 11) fun g t11 => B3 g ((Op.indexSl 1) [t4, t11]) fun g t105 => B3 g (Op.load1 [t105] H) fun g t106 => k g t106 t105 t11 t4 H) (fun g => k g uu uu uu uu H)) (fun g t106_1 t105_1 t104_1 t103_1 H1 => B3 g (Op.pick [t101, (.bool true), t106_1]) fun g t107 => B3 g ((Op.indexSl 1) [t4, t5]) fun g t108 => B32 g ((Op.store 1) [t108, t107] H1) fun g u H2 => GO3 g Q .normal E D H2)) := by (repeat' apply And.intro) <;> (intro _ _ _ _; refine W_unf ?_; kernel_rfl)
theorem qna : (cProg Tryd.prog).func jp = some qfn ∧ qfn.results = [.tmp 2] := xd (by kernel_rfl)
theorem qrr {M : Mac} [MK M] : M.func jp = some qfn := MK.at (by decide) qna.1
theorem qub {M : Mac} [MK M] {a0 : AV} {H : AHeap} {Q : AEnd → AHeap → Prop} (h : W M ⟨none, jp⟩ (qg 0) true (FIN3 M [.tmp 2] Q) [(0, a0)] [] H) : CALLE M jp [a0] H Q :=
  calle qrr (ks := qmq) (by kernel_rfl) (by rw [qna.2]; exact h)
def vr : AFunc := funcAt Tryd.prog zt
def qde : Kp := ⟨[0, 1, 2, 7, 15, 16, 17], false, [0, 4, 10, 19]⟩
def zg (k : Nat) : Kp × ACode := (qde, part vr.body k)
theorem j0 (M : Mac) (c : Ctx) : (∀ Q E D H, W M c (zg 0) true Q E D H =
  LK true (lk E 0) fun g t0 => B3 g (Op.nilCheck [t0]) fun g t9 => B3 g ((Op.fieldAddr 2) [t9]) fun g t10 => B3 g (Op.load1 [t10] H) fun g t11 => LK g (lk E 1) fun g t1 => B3 g ((Op.indexSl 3) [t11, t1]) fun g t13 => B3 g ((Op.fieldAddr 2) [t13]) fun g t14 => B3 g (Op.load1 [t14] H) fun g t15 => B3 g (Op.lenSl [t15]) fun g t16 => LOOP3 (W M c (zg 4)) (BLK3 0 Q) ((17, (.int .i64 0))::(16, t16)::(15, t15)::E) D H) ∧
 (∀ Q E D H, W M c (zg 4) true Q E D H =
  LK true (lk E 17) fun g t17 => LK g (lk E 16) fun g t16 => B3 g ((Op.bin .lss) [t17, t16]) fun g t18 => IF3 g t18 (fun g => GO3 g (SEQ3 (W M c (zg 10)) Q) .normal E D H) (fun g => GO3 g (SEQ3 (W M c (zg 10)) Q) (.exit 0) E D H)) ∧
 (∀ Q E D H, W M c (zg 10) true Q E D H =
  LK true (lk E 15) fun g t15 => LK g (lk E 17) fun g t17 => B3 g ((Op.indexSl 1) [t15, t17]) fun g t19 => B3 g (Op.load1 [t19] H) fun g t20 => LK g (lk E 0) fun g t0 => LK g (lk E 2) fun g t2 => C3 M g (.func z6) [(.str [32, 32]), t2] H fun g t23 H1 => C3 M g (.func qd) [t0, t23] H1 fun g t24 H2 => LK g (lk E 0) fun g t0_1 => LK g (lk E 2) fun g t2_1 => C3 M g (.func qw) [t0_1, t20, t2_1] H2 fun g t28 H3 => LK g (lk E 0) fun g t0_2 => C3 M g (.func qd) [t0_2, (.str [10])] H3 fun g t30 H4 => GO3 g (BLK3 1 (SEQ3 (W M c (zg 19)) Q)) .normal ((7, t20)::E) D H4) ∧
 (∀ Q E D H, W M c (zg 19) true Q E D H =
  LK true (lk E 17) fun g t17 => B3 g ((Op.bin .add) [t17, (.int .i64 1)]) fun g t31 => GO3 g Q .normal ((17, t31)::E) D H) := by (repeat' apply And.intro) <;> (intro _ _ _ _; refine W_unf ?_; kernel_rfl)
theorem qdg : (cProg Tryd.prog).func zt = some vr ∧ vr.results = [] := xd (by kernel_rfl)
theorem qgi {M : Mac} [MK M] : M.func zt = some vr := MK.at (by decide) qdg.1
theorem qhj {M : Mac} [MK M] {a0 a1 a2 : AV} {H : AHeap} {Q : AEnd → AHeap → Prop} (h : W M ⟨none, zt⟩ (zg 0) true (FIN3 M [] Q) [(0, a0), (1, a1), (2, a2)] [] H) : CALLE M zt [a0, a1, a2] H Q :=
  calle qgi (ks := qde) (by kernel_rfl) (by rw [qdg.2]; exact h)
def qcx : AFunc := funcAt Tryd.prog vy
def qit : Kp := ⟨[0, 1, 2, 3, 4, 33, 43, 51, 75], false, [0, 4, 12, 24, 28, 34, 38, 44, 54, 60, 70, 77]⟩
def qo (k : Nat) : Kp × ACode := (qit, part qcx.body k)
theorem xz (M : Mac) (c : Ctx) : (∀ Q E D H, W M c (qo 0) true Q E D H =
  LK true (lk E 0) fun g t0 => A3 g qc (AV.cells t0) H fun g t1 H1 => B3 g ((Op.fieldAddr 0) [t1]) fun g t5 => B3 g (Op.load1 [t5] H1) fun g t6 => B3 g ((Op.bin .eql) [t6, (.int .i64 2)]) fun g t7 => JN (fun (k : Bool → AV → AV → AV → AHeap → Prop) => B3 g (wantV false (some t7)) fun g w => IG3 g w (fun g => B3 g ((Op.fieldAddr 0) [t1]) fun g t9 => B3 g (Op.load1 [t9] H1) fun g t10 => B3 g ((Op.bin .eql) [t10, (.int .i64 14)]) fun g t11 => k g t11 t10 t9 H1) (fun g => k g uu uu uu H1)) (fun g t11_1 t10_1 t9_1 H2 => B3 g (Op.pick [t7, (.bool true), t11_1]) fun g t12 => W M c (qo 4) g Q ((4, t12)::(3, (.bool false))::(2, .nils)::(1, t1)::E) D H2)) ∧
 (∀ Q E D H, W M c (qo 4) true Q E D H =
  LK true (lk E 4) fun g t4 => JN (fun (k : Bool → AV → AV → AV → AHeap → Prop) => B3 g (wantV true (some t4)) fun g w => IG3 g w (fun g => LK g (lk E 1) fun g t1 => B3 g ((Op.fieldAddr 1) [t1]) fun g t15 => B3 g (Op.load1 [t15] H) fun g t16 => B3 g ((Op.bin .gtr) [t16, (.int .u64 7)]) fun g t17 => k g t17 t16 t15 H) (fun g => k g uu uu uu H)) (fun g t17_1 t16_1 t15_1 H1 => B3 g (Op.pick [t4, t17_1, (.bool false)]) fun g t18 => JN (fun (k : Bool → AV → AV → AV → AHeap → Prop) => B3 g (wantV false (some t18)) fun g w => IG3 g w (fun g => B3 g ((Op.un .not) [t4]) fun g t21 => k g t21 t21 t4 H1) (fun g => k g uu uu uu H1)) (fun g t22_1 t21_1 t20_1 H2 => JN (fun (k : Bool → AV → AV → AV → AHeap → Prop) => B3 g (wantV true (some t22_1)) fun g w => IG3 g w (fun g => LK g (lk E 1) fun g t1_1 => B3 g ((Op.fieldAddr 0) [t1_1]) fun g t23 => B3 g (Op.load1 [t23] H2) fun g t24 => B3 g ((Op.bin .neq) [t24, (.int .i64 1)]) fun g t25 => k g t25 t24 t23 H2) (fun g => k g uu uu uu H2)) (fun g t25_1 t24_1 t23_1 H3 => JN (fun (k : Bool → AV → AV → AHeap → Prop) => B3 g (wantV false (some t18)) fun g w => IG3 g w (fun g => B3 g (Op.pick [t22_1, t25_1, (.bool false)]) fun g t26 => k g t26 t26 H3) (fun g => k g uu uu H3)) (fun g t27_1 t26_1 H4 => JN (fun (k : Bool → AV → AV → AV → AHeap → Prop) => B3 g (wantV true (some t27_1)) fun g w => IG3 g w (fun g => LK g (lk E 1) fun g t1_2 => B3 g ((Op.fieldAddr 1) [t1_2]) fun g t28 => B3 g (Op.load1 [t28] H4) fun g t29 => B3 g ((Op.bin .neq) [t29, (.int .u64 0)]) fun g t30 => k g t30 t29 t28 H4) (fun g => k g uu uu uu H4)) (fun g t30_1 t29_1 t28_1 H5 => JN (fun (k : Bool → AV → AHeap → Prop) => B3 g (wantV false (some t18)) fun g w => IG3 g w (fun g => B3 g (Op.pick [t27_1, t30_1, (.bool false)]) fun g t31 => k g t31 H5) (fun g => k g uu H5)) (fun g t31_1 H6 => B3 g (Op.pick [t18, (.bool true), t31_1]) fun g t32 => IF3 g t32 (fun g => GO3 g (SEQ3 (W M c (qo 12)) Q) .ret ((3, (.bool false))::(2, .nils)::E) D H6) (fun g => GO3 g (SEQ3 (W M c (qo 12)) Q) .normal E D H6)))))))) ∧
 (∀ Q E D H, W M c (qo 12) true Q E D H =
  LK true (lk E 1) fun g t1 => B3 g ((Op.fieldAddr 0) [t1]) fun g t34 => B3 g (Op.load1 [t34] H) fun g t35 => B3 g ((Op.bin .eql) [t35, (.int .i64 1)]) fun g t36 => IF3 g t36 (fun g => GO3 g (SEQ3 (W M c (qo 24)) (BLK3 0 (SEQ3 (W M c (qo 77)) Q))) .normal ((33, t36)::E) D H) (fun g => LK g (lk E 1) fun g t1_1 => B3 g ((Op.fieldAddr 0) [t1_1]) fun g t37 => B3 g (Op.load1 [t37] H) fun g t38 => B3 g ((Op.bin .eql) [t38, (.int .i64 2)]) fun g t39 => IF3 g t39 (fun g => GO3 g (SEQ3 (W M c (qo 24)) (BLK3 0 (SEQ3 (W M c (qo 77)) Q))) .normal ((33, t39)::(33, t36)::E) D H) (fun g => LK g (lk E 1) fun g t1_2 => B3 g ((Op.fieldAddr 0) [t1_2]) fun g t40 => B3 g (Op.load1 [t40] H) fun g t41 => B3 g ((Op.bin .eql) [t41, (.int .i64 19)]) fun g t42 => GO3 g (SEQ3 (W M c (qo 24)) (BLK3 0 (SEQ3 (W M c (qo 77)) Q))) .normal ((33, t42)::(33, t39)::(33, t36)::E) D H))) ∧
 (∀ Q E D H, W M c (qo 77) true Q E D H =
  GO3 true Q .ret ((3, (.bool false))::(2, .nils)::E) D H) ∧
 (∀ Q E D H, W M c (qo 24) true Q E D H =
  LK true (lk E 33) fun g t33 => IF3 g t33 (fun g => GO3 g Q .ret ((3, (.bool true))::(2, .nils)::E) D H) (fun g => W M c (qo 28) g Q E D H)) ∧
 (∀ Q E D H, W M c (qo 28) true Q E D H =
  LK true (lk E 1) fun g t1 => B3 g ((Op.fieldAddr 0) [t1]) fun g t44 => B3 g (Op.load1 [t44] H) fun g t45 => B3 g ((Op.bin .eql) [t45, (.int .i64 3)]) fun g t46 => IF3 g t46 (fun g => GO3 g (SEQ3 (W M c (qo 34)) Q) .normal ((43, t46)::E) D H) (fun g => LK g (lk E 1) fun g t1_1 => B3 g ((Op.fieldAddr 0) [t1_1]) fun g t47 => B3 g (Op.load1 [t47] H) fun g t48 => B3 g ((Op.bin .eql) [t48, (.int .i64 14)]) fun g t49 => GO3 g (SEQ3 (W M c (qo 34)) Q) .normal ((43, t49)::(43, t46)::E) D H)) ∧
 (∀ Q E D H, W M c (qo 34) true Q E D H =
  LK true (lk E 43) fun g t43 => IF3 g t43 (fun g => B32 g ((Op.buildSlice T_int 1 [(.int .i64 0)] [(0, 1)]) [(.int .i64 1)]) fun g o1 k1 => GO3 g Q .ret ((3, (.bool true))::(2, (k1 H.next))::E) D (H.alloc o1)) (fun g => W M c (qo 38) g Q E D H)) ∧
 (∀ Q E D H, W M c (qo 38) true Q E D H =
  LK true (lk E 1) fun g t1 => B3 g ((Op.fieldAddr 0) [t1]) fun g t52 => B3 g (Op.load1 [t52] H) fun g t53 => B3 g ((Op.bin .geq) [t53, (.int .i64 4)]) fun g t54 => JN (fun (k : Bool → AV → AV → AV → AHeap → Prop) => B3 g (wantV true (some t54)) fun g w => IG3 g w (fun g => B3 g ((Op.fieldAddr 0) [t1]) fun g t56 => B3 g (Op.load1 [t56] H) fun g t57 => B3 g ((Op.bin .leq) [t57, (.int .i64 13)]) fun g t58 => k g t58 t57 t56 H) (fun g => k g uu uu uu H)) (fun g t58_1 t57_1 t56_1 H1 => B3 g (Op.pick [t54, t58_1, (.bool false)]) fun g t59 => IF3 g t59 (fun g => GO3 g (SEQ3 (W M c (qo 44)) Q) .normal ((51, t59)::E) D H1) (fun g => LK g (lk E 1) fun g t1_1 => B3 g ((Op.fieldAddr 0) [t1_1]) fun g t60 => B3 g (Op.load1 [t60] H1) fun g t61 => B3 g ((Op.bin .eql) [t61, (.int .i64 15)]) fun g t62 => GO3 g (SEQ3 (W M c (qo 44)) Q) .normal ((51, t62)::(51, t59)::E) D H1))) ∧
 (∀ Q E D H, W M c (qo 44) true Q E D H =
  LK true (lk E 51) fun g t51 => IF3 g t51 (fun g => B32 g ((Op.buildSlice T_int 2 [(.int .i64 0)] [(0, 1), (1, 1)]) [(.int .i64 1), (.int .i64 1)]) fun g o1 k1 => GO3 g Q .ret ((3, (.bool true))::(2, (k1 H.next))::E) D (H.alloc o1)) (fun g => LK g (lk E 1) fun g t1 => B3 g ((Op.fieldAddr 0) [t1]) fun g t65 => B3 g (Op.load1 [t65] H) fun g t66 => B3 g ((Op.bin .eql) [t66, (.int .i64 16)]) fun g t67 => JN (fun (k : Bool → AV → AV → AV → AV → AHeap → Prop) => B3 g (wantV true (some t67)) fun g w => IG3 g w (fun g => B3 g ((Op.fieldAddr 2) [t1]) fun g t69 => B3 g (Op.load1 [t69] H) fun g t70 => B3 g (Op.lenSl [t70]) fun g t71 => B3 g ((Op.bin .eql) [t71, (.int .i64 3)]) fun g t72 => k g t72 t71 t70 t69 H) (fun g => k g uu uu uu uu H)) (fun g t72_1 t71_1 t70_1 t69_1 H1 => B3 g (Op.pick [t67, t72_1, (.bool false)]) fun g t73 => IF3 g t73 (fun g => B32 g ((Op.buildSlice T_int 3 [(.int .i64 0)] [(0, 1), (1, 1), (2, 1)]) [(.int .i64 2), (.int .i64 4), (.int .i64 4)]) fun g o2 k2 => GO3 g Q .ret ((3, (.bool true))::(2, (k2 H1.next))::E) D (H1.alloc o2)) (fun g => W M c (qo 54) g Q E D H1)))) ∧
 (∀ Q E D H, W M c (qo 54) true Q E D H =
  LK true (lk E 1) fun g t1 => B3 g ((Op.fieldAddr 0) [t1]) fun g t76 => B3 g (Op.load1 [t76] H) fun g t77 => B3 g ((Op.bin .eql) [t77, (.int .i64 16)]) fun g t78 => IF3 g t78 (fun g => GO3 g (SEQ3 (W M c (qo 60)) Q) .normal ((75, t78)::E) D H) (fun g => LK g (lk E 1) fun g t1_1 => B3 g ((Op.fieldAddr 0) [t1_1]) fun g t79 => B3 g (Op.load1 [t79] H) fun g t80 => B3 g ((Op.bin .eql) [t80, (.int .i64 17)]) fun g t81 => GO3 g (SEQ3 (W M c (qo 60)) Q) .normal ((75, t81)::(75, t78)::E) D H)) ∧
 (∀ Q E D H, W M c (qo 60) true Q E D H =
  LK true (lk E 75) fun g t75 => IF3 g t75 (fun g => B32 g ((Op.buildSlice T_int 2 [(.int .i64 0)] [(0, 1), (1, 1)]) [(.int .i64 2), (.int .i64 4)]) fun g o1 k1 => GO3 g Q .ret ((3, (.bool true))::(2, (k1 H.next))::E) D (H.alloc o1)) (fun g => LK g (lk E 1) fun g t1 => B3 g ((Op.fieldAddr 0) [t1]) fun g t84 => B3 g (Op.load1 [t84] H) fun g t85 => B3 g ((Op.bin .eql) [t85, (.int .i64 18)]) fun g t86 => IF3 g t86 (fun g => B32 g ((Op.buildSlice T_int 1 [(.int .i64 0)] [(0, 1)]) [(.int .i64 4)]) fun g o1 k1 => GO3 g Q .ret ((3, (.bool true))::(2, (k1 H.next))::E) D (H.alloc o1)) (fun g => W M c (qo 70) g Q E D H))) ∧
 (∀ Q E D H, W M c (qo 70) true Q E D H =
  LK true (lk E 1) fun g t1 => B3 g ((Op.fieldAddr 0) [t1]) fun g t89 => B3 g (Op.load1 [t89] H) fun g t90 => B3 g ((Op.bin .eql) [t90, (.int .i64 20)]) fun g t91 => IF3 g t91 (fun g => B32 g ((Op.buildSlice T_int 1 [(.int .i64 0)] [(0, 1)]) [(.int .i64 3)]) fun g o1 k1 => LK g (lk E 1) fun g t1_1 => B3 g ((Op.fieldAddr 2) [t1_1]) fun g t93 => B3 g (Op.load1 [t93] (H.alloc o1)) fun g t94 => B3 g (Op.lenSl [t94]) fun g t95 => C3 M g (.func zj) [(k1 H.next), t95] (H.alloc o1) fun g t96 H2 => GO3 g Q .ret ((3, (.bool true))::(2, t96)::E) D H2) (fun g => GO3 g Q .normal E D H)) := by (repeat' apply And.intro) <;> (intro _ _ _ _; refine W_unf ?_; kernel_rfl)
theorem qja : (cProg Tryd.prog).func vy = some qcx ∧ qcx.results = [.tmp 2, .tmp 3] := xd (by kernel_rfl)
theorem qoj {M : Mac} [MK M] : M.func vy = some qcx := MK.at (by decide) qja.1
theorem qp8 {M : Mac} [MK M] {a0 : AV} {H : AHeap} {Q : AEnd → AHeap → Prop} (h : W M ⟨none, vy⟩ (qo 0) true (FIN3 M [.tmp 2, .tmp 3] Q) [(0, a0)] [] H) : CALLE M vy [a0] H Q :=
  calle qoj (ks := qit) (by kernel_rfl) (by rw [qja.2]; exact h)
def qc3 : AFunc := funcAt Tryd.prog vw
def qjf : Kp := ⟨[0, 2], false, [0, 2, 16, 29]⟩
def j9 (k : Nat) : Kp × ACode := (qjf, part qc3.body k)
theorem qae (M : Mac) (c : Ctx) : (∀ Q E D H, W M c (j9 0) true Q E D H =
  W M c (j9 2) true Q ((2, (.int .i64 0))::E) D H) ∧
 (∀ Q E D H, W M c (j9 2) true Q E D H =
  LK true (lk E 0) fun g t0 => B3 g ((Op.bin .geq) [t0, (.int .i64 1)]) fun g t5 => JN (fun (k : Bool → AV → AV → AHeap → Prop) => B3 g (wantV true (some t5)) fun g w => IG3 g w (fun g => B3 g ((Op.bin .leq) [t0, (.int .i64 10)]) fun g t8 => k g t8 t0 H) (fun g => k g uu uu H)) (fun g t8_1 t7_1 H1 => B3 g (Op.pick [t5, t8_1, (.bool false)]) fun g t9 => IF3 g t9 (fun g => GO3 g (BLK3 0 (SEQ3 (W M c (j9 29)) Q)) .ret ((2, (.int .i64 1))::E) D H1) (fun g => LK g (lk E 0) fun g t0_1 => B3 g ((Op.bin .geq) [t0_1, (.int .i64 11)]) fun g t12 => JN (fun (k : Bool → AV → AV → AHeap → Prop) => B3 g (wantV true (some t12)) fun g w => IG3 g w (fun g => B3 g ((Op.bin .leq) [t0_1, (.int .i64 13)]) fun g t15 => k g t15 t0_1 H1) (fun g => k g uu uu H1)) (fun g t15_1 t14_1 H2 => B3 g (Op.pick [t12, t15_1, (.bool false)]) fun g t16 => IF3 g t16 (fun g => GO3 g (BLK3 0 (SEQ3 (W M c (j9 29)) Q)) .ret ((2, (.int .i64 2))::E) D H2) (fun g => W M c (j9 16) g (BLK3 0 (SEQ3 (W M c (j9 29)) Q)) E D H2))))) ∧
 (∀ Q E D H, W M c (j9 29) true Q E D H =
  GO3 true Q .ret ((2, (.int .i64 0))::E) D H) ∧
 (∀ Q E D H, W M c (j9 16) true Q E D H =
  LK true (lk E 0) fun g t0 => B3 g ((Op.bin .geq) [t0, (.int .i64 14)]) fun g t19 => JN (fun (k : Bool → AV → AV → AHeap → Prop) => B3 g (wantV true (some t19)) fun g w => IG3 g w (fun g => B3 g ((Op.bin .leq) [t0, (.int .i64 19)]) fun g t22 => k g t22 t0 H) (fun g => k g uu uu H)) (fun g t22_1 t21_1 H1 => B3 g (Op.pick [t19, t22_1, (.bool false)]) fun g t23 => IF3 g t23 (fun g => GO3 g Q .ret ((2, (.int .i64 3))::E) D H1) (fun g => LK g (lk E 0) fun g t0_1 => B3 g ((Op.bin .eql) [t0_1, (.int .i64 20)]) fun g t26 => IF3 g t26 (fun g => GO3 g Q .ret ((2, (.int .i64 4))::E) D H1) (fun g => GO3 g Q .normal E D H1)))) := by (repeat' apply And.intro) <;> (intro _ _ _ _; refine W_unf ?_; kernel_rfl)
theorem qir : (cProg Tryd.prog).func vw = some qc3 ∧ qc3.results = [.tmp 2] := xd (by kernel_rfl)
theorem qns {M : Mac} [MK M] : M.func vw = some qc3 := MK.at (by decide) qir.1
theorem qqh {M : Mac} [MK M] {a0 : AV} {H : AHeap} {Q : AEnd → AHeap → Prop} (h : W M ⟨none, vw⟩ (j9 0) true (FIN3 M [.tmp 2] Q) [(0, a0)] [] H) : CALLE M vw [a0] H Q :=
  calle qns (ks := qjf) (by kernel_rfl) (by rw [qir.2]; exact h)
def ve : AFunc := funcAt Tryd.prog qd
def qc0 : Kp := ⟨[0, 1, 5, 7, 8, 11, 12, 34], false, [0, 5, 11, 18, 23, 27, 33, 36]⟩
def qm (k : Nat) : Kp × ACode := (qc0, part ve.body k)
theorem qdk (M : Mac) (c : Ctx) : (∀ Q E D H, W M c (qm 0) true Q E D H =
  LK true (lk E 1) fun g t1 => B32 g (Op.rangeStr [t1]) fun g o1 k1 => LOOP3 (W M c (qm 5)) (BLK3 0 (SEQ3 (W M c (qm 36)) Q)) ((7, (k1 H.next))::E) D (H.alloc o1)) ∧
 (∀ Q E D H, W M c (qm 36) true Q E D H =
  LK true (lk E 0) fun g t0 => B3 g (Op.nilCheck [t0]) fun g t45 => B3 g ((Op.fieldAddr 0) [t45]) fun g t46 => LK g (lk E 1) fun g t1 => C3 M g (.func qv) [t46, t1] H fun g t48 H1 => GO3 g Q .normal E D H1) ∧
 (∀ Q E D H, W M c (qm 5) true Q E D H =
  LK true (lk E 7) fun g t7 => B32 g (Op.nextStr [t7] H) fun g t8 H1 => B3 g ((Op.extract 0) [t8]) fun g t9 => IF3 g t9 (fun g => GO3 g (SEQ3 (W M c (qm 11)) Q) .normal ((8, t8)::E) D H1) (fun g => GO3 g (SEQ3 (W M c (qm 11)) Q) (.exit 0) ((8, t8)::E) D H1)) ∧
 (∀ Q E D H, W M c (qm 11) true Q E D H =
  LK true (lk E 8) fun g t8 => B3 g ((Op.extract 2) [t8]) fun g t10 => W M c (qm 18) g (SEQ3 (W M c (qm 23)) (BLK3 2 (BLK3 1 Q))) ((11, t10)::(5, t10)::E) D H) ∧
 (∀ Q E D H, W M c (qm 23) true Q E D H =
  LK true (lk E 12) fun g t12 => IF3 g t12 (fun g => LK g (lk E 0) fun g t0 => B3 g (Op.nilCheck [t0]) fun g t16 => B3 g ((Op.fieldAddr 3) [t16]) fun g t17 => B3 g (Op.load1 [t17] H) fun g t18 => B3 g ((Op.bin .add) [t18, (.int .i64 1)]) fun g t19 => B3 g (Op.nilCheck [t0]) fun g t20 => B3 g ((Op.fieldAddr 3) [t20]) fun g t21 => B32 g ((Op.store 1) [t21, t19] H) fun g u H1 => LK g (lk E 0) fun g t0_1 => B3 g (Op.nilCheck [t0_1]) fun g t24 => B3 g ((Op.fieldAddr 4) [t24]) fun g t25 => B3 g (Op.load1 [t25] H1) fun g t26 => B3 g (Op.nilCheck [t0_1]) fun g t28 => B3 g ((Op.fieldAddr 3) [t28]) fun g t29 => B3 g (Op.load1 [t29] H1) fun g t30 => B3 g ((Op.minmax true) [t26, t30]) fun g t31 => B3 g (Op.nilCheck [t0_1]) fun g t32 => B3 g ((Op.fieldAddr 4) [t32]) fun g t33 => B32 g ((Op.store 1) [t33, t31] H1) fun g u_1 H2 => GO3 g Q .normal E D H2) (fun g => W M c (qm 27) g Q E D H)) ∧
 (∀ Q E D H, W M c (qm 18) true Q E D H =
  LK true (lk E 11) fun g t11 => B3 g ((Op.bin .eql) [t11, (.int .i32 40)]) fun g t13 => IF3 g t13 (fun g => GO3 g Q .normal ((12, t13)::E) D H) (fun g => LK g (lk E 11) fun g t11_1 => B3 g ((Op.bin .eql) [t11_1, (.int .i32 123)]) fun g t14 => GO3 g Q .normal ((12, t14)::(12, t13)::E) D H)) ∧
 (∀ Q E D H, W M c (qm 27) true Q E D H =
  LK true (lk E 11) fun g t11 => B3 g ((Op.bin .eql) [t11, (.int .i32 41)]) fun g t35 => IF3 g t35 (fun g => GO3 g (SEQ3 (W M c (qm 33)) Q) .normal ((34, t35)::E) D H) (fun g => LK g (lk E 11) fun g t11_1 => B3 g ((Op.bin .eql) [t11_1, (.int .i32 125)]) fun g t36 => GO3 g (SEQ3 (W M c (qm 33)) Q) .normal ((34, t36)::(34, t35)::E) D H)) ∧
 (∀ Q E D H, W M c (qm 33) true Q E D H =
  LK true (lk E 34) fun g t34 => IF3 g t34 (fun g => LK g (lk E 0) fun g t0 => B3 g (Op.nilCheck [t0]) fun g t38 => B3 g ((Op.fieldAddr 3) [t38]) fun g t39 => B3 g (Op.load1 [t39] H) fun g t40 => B3 g ((Op.bin .sub) [t40, (.int .i64 1)]) fun g t41 => B3 g (Op.nilCheck [t0]) fun g t42 => B3 g ((Op.fieldAddr 3) [t42]) fun g t43 => B32 g ((Op.store 1) [t43, t41] H) fun g u H1 => GO3 g Q .normal E D H1) (fun g => GO3 g Q .normal E D H)) := by (repeat' apply And.intro) <;> (intro _ _ _ _; refine W_unf ?_; kernel_rfl)
theorem qdi : (cProg Tryd.prog).func qd = some ve ∧ ve.results = [] := xd (by kernel_rfl)
theorem qgp {M : Mac} [MK M] : M.func qd = some ve := MK.at (by decide) qdi.1
theorem qht {M : Mac} [MK M] {a0 a1 : AV} {H : AHeap} {Q : AEnd → AHeap → Prop} (h : W M ⟨none, qd⟩ (qm 0) true (FIN3 M [] Q) [(0, a0), (1, a1)] [] H) : CALLE M qd [a0, a1] H Q :=
  calle qgp (ks := qc0) (by kernel_rfl) (by rw [qdi.2]; exact h)
def wu : AFunc := funcAt Tryd.prog z6
def qey : Kp := ⟨[0, 1, 4, 5, 6, 7, 8, 9, 10, 11, 42, 43], false, [0, 2, 19, 25, 27, 33, 35, 43, 52, 60, 65, 79, 91, 99, 101, 107, 113, 117, 119, 122, 128, 132]⟩
def qb (k : Nat) : Kp × ACode := (qey, part wu.body k)
theorem qjs (M : Mac) (c : Ctx) : (∀ Q E D H, W M c (qb 0) true Q E D H =
  W M c (qb 2) true Q ((4, (.str []))::E) D H) ∧
 (∀ Q E D H, W M c (qb 2) true Q E D H =
  LK true (lk E 1) fun g t1 => B3 g ((Op.bin .eql) [t1, (.int .i64 0)]) fun g t13 => IF3 g t13 (fun g => GO3 g (BLK3 0 (SEQ3 (W M c (qb 19)) Q)) .ret ((4, (.str []))::(11, t1)::E) D H) (fun g => B3 g ((Op.bin .eql) [t1, (.int .i64 1)]) fun g t15 => IF3 g t15 (fun g => LK g (lk E 0) fun g t0 => GO3 g (BLK3 0 (SEQ3 (W M c (qb 19)) Q)) .ret ((4, t0)::(11, t1)::E) D H) (fun g => GO3 g (BLK3 0 (SEQ3 (W M c (qb 19)) Q)) .normal ((11, t1)::E) D H))) ∧
 (∀ Q E D H, W M c (qb 19) true Q E D H =
  LK true (lk E 1) fun g t1 => B3 g ((Op.bin .lss) [t1, (.int .i64 0)]) fun g t18 => IF3 g t18 (fun g => B3 g ((Op.mkIface zh) [(.str qu9)]) fun g t19 => False) (fun g => GO3 g (SEQ3 (W M c (qb 25)) Q) .normal E D H)) ∧
 (∀ Q E D H, W M c (qb 25) true Q E D H =
  LK true (lk E 0) fun g t0 => B3 g (Op.lenStr [t0]) fun g t22 => B3 g ((Op.wrap .u64) [t22]) fun g t23 => LK g (lk E 1) fun g t1 => B3 g ((Op.wrap .u64) [t1]) fun g t25 => C3 M g (.func jx) [t23, t25] H fun g t26 H1 => B3 g ((Op.extract 0) [t26]) fun g t27 => B3 g ((Op.extract 1) [t26]) fun g t28 => W M c (qb 27) g Q ((6, t28)::(5, t27)::E) D H1) ∧
 (∀ Q E D H, W M c (qb 27) true Q E D H =
  LK true (lk E 5) fun g t5 => B3 g ((Op.bin .gtr) [t5, (.int .u64 0)]) fun g t30 => JN (fun (k : Bool → AV → AV → AHeap → Prop) => B3 g (wantV false (some t30)) fun g w => IG3 g w (fun g => LK g (lk E 6) fun g t6 => B3 g ((Op.bin .gtr) [t6, (.int .u64 9223372036854775807)]) fun g t33 => k g t33 t6 H) (fun g => k g uu uu H)) (fun g t33_1 t32_1 H1 => B3 g (Op.pick [t30, (.bool true), t33_1]) fun g t34 => IF3 g t34 (fun g => B3 g ((Op.mkIface zh) [(.str qvi)]) fun g t35 => False) (fun g => GO3 g (SEQ3 (W M c (qb 33)) Q) .normal E D H1))) ∧
 (∀ Q E D H, W M c (qb 33) true Q E D H =
  LK true (lk E 6) fun g t6 => B3 g ((Op.wrap .i64) [t6]) fun g t37 => W M c (qb 35) g Q ((7, t37)::E) D H) ∧
 (∀ Q E D H, W M c (qb 35) true Q E D H =
  LK true (lk E 0) fun g t0 => B3 g (Op.lenStr [t0]) fun g t39 => B3 g ((Op.bin .eql) [t39, (.int .i64 0)]) fun g t40 => IF3 g t40 (fun g => GO3 g (SEQ3 (W M c (qb 43)) Q) .ret ((4, (.str []))::E) D H) (fun g => GO3 g (SEQ3 (W M c (qb 43)) Q) .normal E D H)) ∧
 (∀ Q E D H, W M c (qb 43) true Q E D H =
  LK true (lk E 0) fun g t0 => B3 g (Op.indexStr [t0, (.int .i64 0)]) fun g t42 => B3 g ((Op.bin .eql) [t42, (.int .u8 32)]) fun g t44 => IF3 g t44 (fun g => GO3 g (SEQ3 (W M c (qb 65)) (BLK3 1 (SEQ3 (W M c (qb 99)) Q))) .normal ((43, t44)::(42, t42)::E) D H) (fun g => W M c (qb 52) g (SEQ3 (W M c (qb 65)) (BLK3 1 (SEQ3 (W M c (qb 99)) Q))) ((43, t44)::(42, t42)::E) D H)) ∧
 (∀ Q E D H, W M c (qb 99) true Q E D H =
  LK true (lk E 7) fun g t7 => W M c (qb 101) g Q ((8, t7)::E) D H) ∧
 (∀ Q E D H, W M c (qb 65) true Q E D H =
  LK true (lk E 43) fun g t43 => IF3 g t43 (fun g => LK g (lk E 7) fun g t7 => B3 g ((Op.bin .leq) [t7, (.int .i64 128)]) fun g t51 => JN (fun (k : Bool → AV → AV → AHeap → Prop) => B3 g (wantV true (some t51)) fun g w => IG3 g w (fun g => LK g (lk E 0) fun g t0 => C3 M g (.func xu) [(.str qa2), t0] H fun g t54 H1 => k g t54 t0 H1) (fun g => k g uu uu H)) (fun g t54_1 t53_1 H2 => B3 g (Op.pick [t51, t54_1, (.bool false)]) fun g t55 => IF3 g t55 (fun g => LK g (lk E 7) fun g t7_1 => B3 g ((Op.sliceStr [none, (some 0)]) [(.str qa2), t7_1]) fun g t57 => GO3 g (BLK3 2 Q) .ret ((4, t57)::E) D H2) (fun g => LK g (lk E 7) fun g t7_1 => B3 g ((Op.bin .leq) [t7_1, (.int .i64 128)]) fun g t60 => JN (fun (k : Bool → AV → AV → AHeap → Prop) => B3 g (wantV true (some t60)) fun g w => IG3 g w (fun g => LK g (lk E 0) fun g t0_1 => C3 M g (.func xu) [(.str qmr), t0_1] H2 fun g t63 H3 => k g t63 t0_1 H3) (fun g => k g uu uu H2)) (fun g t63_1 t62_1 H4 => B3 g (Op.pick [t60, t63_1, (.bool false)]) fun g t64 => IF3 g t64 (fun g => LK g (lk E 7) fun g t7_2 => B3 g ((Op.sliceStr [none, (some 0)]) [(.str qmr), t7_2]) fun g t66 => GO3 g (BLK3 2 Q) .ret ((4, t66)::E) D H4) (fun g => W M c (qb 79) g (BLK3 2 Q) E D H4))))) (fun g => GO3 g Q .normal E D H)) ∧
 (∀ Q E D H, W M c (qb 52) true Q E D H =
  LK true (lk E 42) fun g t42 => B3 g ((Op.bin .eql) [t42, (.int .u8 45)]) fun g t45 => IF3 g t45 (fun g => GO3 g Q .normal ((43, t45)::E) D H) (fun g => LK g (lk E 42) fun g t42_1 => B3 g ((Op.bin .eql) [t42_1, (.int .u8 48)]) fun g t46 => IF3 g t46 (fun g => GO3 g Q .normal ((43, t46)::(43, t45)::E) D H) (fun g => W M c (qb 60) g Q ((43, t46)::(43, t45)::E) D H))) ∧
 (∀ Q E D H, W M c (qb 101) true Q E D H =
  LK true (lk E 7) fun g t7 => B3 g ((Op.bin .gtr) [t7, (.int .i64 8192)]) fun g t96 => IF3 g t96 (fun g => LK g (lk E 0) fun g t0 => B3 g (Op.lenStr [t0]) fun g t98 => B3 g ((Op.bin .quo) [(.int .i64 8192), t98]) fun g t99 => B3 g (Op.lenStr [t0]) fun g t101 => B3 g ((Op.bin .mul) [t99, t101]) fun g t102 => W M c (qb 107) g (SEQ3 (W M c (qb 113)) Q) ((8, t102)::E) D H) (fun g => GO3 g (SEQ3 (W M c (qb 113)) Q) .normal E D H)) ∧
 (∀ Q E D H, W M c (qb 79) true Q E D H =
  LK true (lk E 7) fun g t7 => B3 g ((Op.bin .leq) [t7, (.int .i64 64)]) fun g t69 => JN (fun (k : Bool → AV → AV → AHeap → Prop) => B3 g (wantV true (some t69)) fun g w => IG3 g w (fun g => LK g (lk E 0) fun g t0 => C3 M g (.func xu) [(.str qm5), t0] H fun g t72 H1 => k g t72 t0 H1) (fun g => k g uu uu H)) (fun g t72_1 t71_1 H2 => B3 g (Op.pick [t69, t72_1, (.bool false)]) fun g t73 => IF3 g t73 (fun g => LK g (lk E 7) fun g t7_1 => B3 g ((Op.sliceStr [none, (some 0)]) [(.str qm5), t7_1]) fun g t75 => GO3 g Q .ret ((4, t75)::E) D H2) (fun g => LK g (lk E 7) fun g t7_1 => B3 g ((Op.bin .leq) [t7_1, (.int .i64 128)]) fun g t78 => JN (fun (k : Bool → AV → AV → AHeap → Prop) => B3 g (wantV true (some t78)) fun g w => IG3 g w (fun g => LK g (lk E 0) fun g t0_1 => C3 M g (.func xu) [(.str qm1), t0_1] H2 fun g t81 H3 => k g t81 t0_1 H3) (fun g => k g uu uu H2)) (fun g t81_1 t80_1 H4 => B3 g (Op.pick [t78, t81_1, (.bool false)]) fun g t82 => IF3 g t82 (fun g => LK g (lk E 7) fun g t7_2 => B3 g ((Op.sliceStr [none, (some 0)]) [(.str qm1), t7_2]) fun g t84 => GO3 g Q .ret ((4, t84)::E) D H4) (fun g => W M c (qb 91) g Q E D H4))))) ∧
 (∀ Q E D H, W M c (qb 60) true Q E D H =
  LK true (lk E 42) fun g t42 => B3 g ((Op.bin .eql) [t42, (.int .u8 61)]) fun g t47 => IF3 g t47 (fun g => GO3 g Q .normal ((43, t47)::E) D H) (fun g => LK g (lk E 42) fun g t42_1 => B3 g ((Op.bin .eql) [t42_1, (.int .u8 9)]) fun g t48 => GO3 g Q .normal ((43, t48)::(43, t47)::E) D H)) ∧
 (∀ Q E D H, W M c (qb 113) true Q E D H =
  A3 true yh [.nilp, .nils] H fun g t9 H1 => LK g (lk E 7) fun g t7 => C3 M g (.func zd) [t9, t7] H1 fun g t108 H2 => W M c (qb 117) g Q ((9, t9)::E) D H2) ∧
 (∀ Q E D H, W M c (qb 107) true Q E D H =
  LK true (lk E 8) fun g t8 => B3 g ((Op.bin .eql) [t8, (.int .i64 0)]) fun g t104 => IF3 g t104 (fun g => LK g (lk E 0) fun g t0 => B3 g (Op.lenStr [t0]) fun g t106 => GO3 g Q .normal ((8, t106)::E) D H) (fun g => GO3 g Q .normal E D H)) ∧
 (∀ Q E D H, W M c (qb 91) true Q E D H =
  LK true (lk E 7) fun g t7 => B3 g ((Op.bin .leq) [t7, (.int .i64 64)]) fun g t87 => JN (fun (k : Bool → AV → AV → AHeap → Prop) => B3 g (wantV true (some t87)) fun g w => IG3 g w (fun g => LK g (lk E 0) fun g t0 => C3 M g (.func xu) [(.str qnb), t0] H fun g t90 H1 => k g t90 t0 H1) (fun g => k g uu uu H)) (fun g t90_1 t89_1 H2 => B3 g (Op.pick [t87, t90_1, (.bool false)]) fun g t91 => IF3 g t91 (fun g => LK g (lk E 7) fun g t7_1 => B3 g ((Op.sliceStr [none, (some 0)]) [(.str qnb), t7_1]) fun g t93 => GO3 g Q .ret ((4, t93)::E) D H2) (fun g => GO3 g Q .normal E D H2))) ∧
 (∀ Q E D H, W M c (qb 117) true Q E D H =
  LK true (lk E 0) fun g t0 => LK g (lk E 9) fun g t9 => C3 M g (.func qv) [t9, t0] H fun g t110 H1 => W M c (qb 119) g Q E D H1) ∧
 (∀ Q E D H, W M c (qb 119) true Q E D H =
  LOOP3 (W M c (qb 122)) (BLK3 3 (SEQ3 (W M c (qb 132)) Q)) E D H) ∧
 (∀ Q E D H, W M c (qb 132) true Q E D H =
  LK true (lk E 9) fun g t9 => C3 M g (.func xk) [t9] H fun g t124 H1 => GO3 g Q .ret ((4, t124)::E) D H1) ∧
 (∀ Q E D H, W M c (qb 122) true Q E D H =
  LK true (lk E 9) fun g t9 => C3 M g (.func x1) [t9] H fun g t111 H1 => LK g (lk E 7) fun g t7 => B3 g ((Op.bin .lss) [t111, t7]) fun g t113 => IF3 g t113 (fun g => GO3 g (SEQ3 (W M c (qb 128)) Q) .normal E D H1) (fun g => GO3 g (SEQ3 (W M c (qb 128)) Q) (.exit 3) E D H1)) ∧
 (∀ Q E D H, W M c (qb 128) true Q E D H =
  LK true (lk E 7) fun g t7 => LK g (lk E 9) fun g t9 => C3 M g (.func x1) [t9] H fun g t115 H1 => B3 g ((Op.bin .sub) [t7, t115]) fun g t116 => C3 M g (.func x1) [t9] H1 fun g t117 H2 => LK g (lk E 8) fun g t8 => B3 g ((Op.minmax false) [t116, t117, t8]) fun g t119 => LK g (lk E 9) fun g t9_1 => C3 M g (.func xk) [t9_1] H2 fun g t120 H3 => B3 g ((Op.sliceStr [none, (some 0)]) [t120, t119]) fun g t122 => C3 M g (.func qv) [t9_1, t122] H3 fun g t123 H4 => GO3 g (BLK3 4 Q) .normal ((10, t119)::E) D H4) := by (repeat' apply And.intro) <;> (intro _ _ _ _; refine W_unf ?_; kernel_rfl)
theorem qez : (cProg Tryd.prog).func z6 = some wu ∧ wu.results = [.tmp 4] := xd (by kernel_rfl)
theorem qh4 {M : Mac} [MK M] : M.func z6 = some wu := MK.at (by decide) qez.1
theorem qjv {M : Mac} [MK M] {a0 a1 : AV} {H : AHeap} {Q : AEnd → AHeap → Prop} (h : W M ⟨none, z6⟩ (qb 0) true (FIN3 M [.tmp 4] Q) [(0, a0), (1, a1)] [] H) : CALLE M z6 [a0, a1] H Q :=
  calle qh4 (ks := qey) (by kernel_rfl) (by rw [qez.2]; exact h)
def j8 : AFunc := funcAt Tryd.prog qw
def qal : Kp := ⟨[0, 1, 2, 6, 15, 54], false, [0, 13, 25, 31, 34, 38, 53]⟩
def qj (k : Nat) : Kp × ACode := (qal, part j8.body k)
theorem qf (M : Mac) (c : Ctx) : (∀ Q E D H, W M c (qj 0) true Q E D H =
  LK true (lk E 0) fun g t0 => B3 g (Op.nilCheck [t0]) fun g t8 => B3 g ((Op.fieldAddr 2) [t8]) fun g t9 => B3 g (Op.load1 [t9] H) fun g t10 => LK g (lk E 1) fun g t1 => B3 g ((Op.indexSl 3) [t10, t1]) fun g t12 => B3 g ((Op.loadN 3) [t12] H) fun g t13 => A3 g qc [(.int .i64 0), (.int .u64 0), .nils] H fun g t6 H1 => B32 g ((Op.store 3) [t6, t13] H1) fun g u H2 => B3 g ((Op.fieldAddr 0) [t6]) fun g t14 => B3 g (Op.load1 [t14] H2) fun g t15 => B3 g ((Op.bin .eql) [t15, (.int .i64 14)]) fun g t17 => IF3 g t17 (fun g => LK g (lk E 0) fun g t0_1 => B3 g ((Op.fieldAddr 1) [t6]) fun g t19 => B3 g (Op.load1 [t19] H2) fun g t20 => B3 g ((Op.bin .add) [(.int .u64 97), t20]) fun g t21 => B3 g ((Op.wrap .i32) [t21]) fun g t22 => B3 g (Op.strOfInt [t22]) fun g t23 => B3 g ((Op.bin .add) [t23, (.str [32, 61, 32])]) fun g t24 => C3 M g (.func qd) [t0_1, t24] H2 fun g t25 H3 => LK g (lk E 0) fun g t0_2 => B3 g ((Op.fieldAddr 2) [t6]) fun g t27 => B3 g (Op.load1 [t27] H3) fun g t28 => B3 g ((Op.indexSl 1) [t28, (.int .i64 0)]) fun g t29 => B3 g (Op.load1 [t29] H3) fun g t30 => C3 M g (.func qx) [t0_2, t30, (.int .i64 0)] H3 fun g t31 H4 => LK g (lk E 0) fun g t0_3 => C3 M g (.func qd) [t0_3, (.str [59])] H4 fun g t33 H5 => GO3 g (BLK3 0 Q) .normal ((15, t15)::(6, t6)::E) D H5) (fun g => W M c (qj 13) g (BLK3 0 Q) ((15, t15)::(6, t6)::E) D H2)) ∧
 (∀ Q E D H, W M c (qj 13) true Q E D H =
  LK true (lk E 15) fun g t15 => B3 g ((Op.bin .eql) [t15, (.int .i64 15)]) fun g t35 => IF3 g t35 (fun g => LK g (lk E 0) fun g t0 => C3 M g (.func qd) [t0, (.str [115, 116, 111, 114, 101, 40])] H fun g t37 H1 => LK g (lk E 0) fun g t0_1 => LK g (lk E 6) fun g t6 => B3 g ((Op.fieldAddr 2) [t6]) fun g t39 => B3 g (Op.load1 [t39] H1) fun g t40 => B3 g ((Op.indexSl 1) [t40, (.int .i64 0)]) fun g t41 => B3 g (Op.load1 [t41] H1) fun g t42 => C3 M g (.func qx) [t0_1, t42, (.int .i64 0)] H1 fun g t43 H2 => LK g (lk E 0) fun g t0_2 => C3 M g (.func qd) [t0_2, (.str [44, 32])] H2 fun g t45 H3 => LK g (lk E 0) fun g t0_3 => LK g (lk E 6) fun g t6_1 => B3 g ((Op.fieldAddr 2) [t6_1]) fun g t47 => B3 g (Op.load1 [t47] H3) fun g t48 => B3 g ((Op.indexSl 1) [t48, (.int .i64 1)]) fun g t49 => B3 g (Op.load1 [t49] H3) fun g t50 => C3 M g (.func qx) [t0_3, t50, (.int .i64 0)] H3 fun g t51 H4 => LK g (lk E 0) fun g t0_4 => C3 M g (.func qd) [t0_4, (.str [41, 59])] H4 fun g t53 H5 => GO3 g Q .normal E D H5) (fun g => W M c (qj 25) g Q E D H)) ∧
 (∀ Q E D H, W M c (qj 25) true Q E D H =
  LK true (lk E 15) fun g t15 => B3 g ((Op.bin .eql) [t15, (.int .i64 16)]) fun g t55 => IF3 g t55 (fun g => GO3 g (SEQ3 (W M c (qj 31)) Q) .normal ((54, t55)::E) D H) (fun g => LK g (lk E 15) fun g t15_1 => B3 g ((Op.bin .eql) [t15_1, (.int .i64 17)]) fun g t56 => GO3 g (SEQ3 (W M c (qj 31)) Q) .normal ((54, t56)::(54, t55)::E) D H)) ∧
 (∀ Q E D H, W M c (qj 31) true Q E D H =
  LK true (lk E 54) fun g t54 => IF3 g t54 (fun g => LK g (lk E 0) fun g t0 => B32 g ((Op.buildSlice zh 2 [(.str [])] [(0, 1), (1, 1)]) [(.str [105, 102, 32, 40]), (.str [119, 104, 105, 108, 101, 32, 40])]) fun g o1 k1 => LK g (lk E 6) fun g t6 => B3 g ((Op.fieldAddr 0) [t6]) fun g t59 => B3 g (Op.load1 [t59] (H.alloc o1)) fun g t60 => B3 g ((Op.bin .sub) [t60, (.int .i64 16)]) fun g t61 => B3 g ((Op.indexSl 1) [(k1 H.next), t61]) fun g t62 => B3 g (Op.load1 [t62] (H.alloc o1)) fun g t63 => C3 M g (.func qd) [t0, t63] (H.alloc o1) fun g t64 H2 => W M c (qj 34) g Q E D H2) (fun g => LK g (lk E 15) fun g t15 => B3 g ((Op.bin .eql) [t15, (.int .i64 18)]) fun g t94 => IF3 g t94 (fun g => LK g (lk E 0) fun g t0 => C3 M g (.func qd) [t0, (.str [97, 116, 111, 109, 105, 99, 32])] H fun g t96 H1 => LK g (lk E 0) fun g t0_1 => LK g (lk E 6) fun g t6 => B3 g ((Op.fieldAddr 2) [t6]) fun g t98 => B3 g (Op.load1 [t98] H1) fun g t99 => B3 g ((Op.indexSl 1) [t99, (.int .i64 0)]) fun g t100 => B3 g (Op.load1 [t100] H1) fun g t101 => LK g (lk E 2) fun g t2 => C3 M g (.func x5) [t0_1, t101, t2] H1 fun g t103 H2 => GO3 g Q .normal E D H2) (fun g => W M c (qj 53) g Q E D H))) ∧
 (∀ Q E D H, W M c (qj 34) true Q E D H =
  LK true (lk E 0) fun g t0 => LK g (lk E 6) fun g t6 => B3 g ((Op.fieldAddr 2) [t6]) fun g t66 => B3 g (Op.load1 [t66] H) fun g t67 => B3 g ((Op.indexSl 1) [t67, (.int .i64 0)]) fun g t68 => B3 g (Op.load1 [t68] H) fun g t69 => C3 M g (.func ji) [t0, t69] H fun g t70 H1 => LK g (lk E 0) fun g t0_1 => C3 M g (.func qd) [t0_1, (.str [41, 32])] H1 fun g t72 H2 => W M c (qj 38) g Q E D H2) ∧
 (∀ Q E D H, W M c (qj 53) true Q E D H =
  LK true (lk E 15) fun g t15 => B3 g ((Op.bin .eql) [t15, (.int .i64 19)]) fun g t105 => IF3 g t105 (fun g => LK g (lk E 0) fun g t0 => C3 M g (.func qd) [t0, (.str [104, 97, 108, 116, 59])] H fun g t107 H1 => GO3 g Q .normal E D H1) (fun g => GO3 g Q .normal E D H)) ∧
 (∀ Q E D H, W M c (qj 38) true Q E D H =
  LK true (lk E 0) fun g t0 => LK g (lk E 6) fun g t6 => B3 g ((Op.fieldAddr 2) [t6]) fun g t74 => B3 g (Op.load1 [t74] H) fun g t75 => B3 g ((Op.indexSl 1) [t75, (.int .i64 1)]) fun g t76 => B3 g (Op.load1 [t76] H) fun g t77 => LK g (lk E 2) fun g t2 => C3 M g (.func x5) [t0, t77, t2] H fun g t79 H1 => LK g (lk E 6) fun g t6_1 => B3 g ((Op.fieldAddr 2) [t6_1]) fun g t80 => B3 g (Op.load1 [t80] H1) fun g t81 => B3 g (Op.lenSl [t81]) fun g t82 => B3 g ((Op.bin .eql) [t82, (.int .i64 3)]) fun g t83 => IF3 g t83 (fun g => LK g (lk E 0) fun g t0_1 => C3 M g (.func qd) [t0_1, (.str [32, 101, 108, 115, 101, 32])] H1 fun g t85 H2 => LK g (lk E 0) fun g t0_2 => LK g (lk E 6) fun g t6_2 => B3 g ((Op.fieldAddr 2) [t6_2]) fun g t87 => B3 g (Op.load1 [t87] H2) fun g t88 => B3 g ((Op.indexSl 1) [t88, (.int .i64 2)]) fun g t89 => B3 g (Op.load1 [t89] H2) fun g t90 => LK g (lk E 2) fun g t2_1 => C3 M g (.func x5) [t0_2, t90, t2_1] H2 fun g t92 H3 => GO3 g Q .normal E D H3) (fun g => GO3 g Q .normal E D H1)) := by (repeat' apply And.intro) <;> (intro _ _ _ _; refine W_unf ?_; kernel_rfl)
theorem qap : (cProg Tryd.prog).func qw = some j8 ∧ j8.results = [] := xd (by kernel_rfl)
theorem qd0 {M : Mac} [MK M] : M.func qw = some j8 := MK.at (by decide) qap.1
theorem x9 {M : Mac} [MK M] {a0 a1 a2 : AV} {H : AHeap} {Q : AEnd → AHeap → Prop} (h : W M ⟨none, qw⟩ (qj 0) true (FIN3 M [] Q) [(0, a0), (1, a1), (2, a2)] [] H) : CALLE M qw [a0, a1, a2] H Q :=
  calle qd0 (ks := qal) (by kernel_rfl) (by rw [qap.2]; exact h)
def yt : AFunc := funcAt Tryd.prog zj
def qci : Kp := ⟨[0, 1, 4, 5, 6, 7, 8], false, [0, 2, 8, 10, 16, 20, 23, 29, 31]⟩
def ql (k : Nat) : Kp × ACode := (qci, part yt.body k)
theorem qgz (M : Mac) (c : Ctx) : (∀ Q E D H, W M c (ql 0) true Q E D H =
  W M c (ql 2) true Q ((4, .nils)::E) D H) ∧
 (∀ Q E D H, W M c (ql 2) true Q E D H =
  LK true (lk E 1) fun g t1 => B3 g ((Op.bin .lss) [t1, (.int .i64 0)]) fun g t10 => IF3 g t10 (fun g => B3 g ((Op.mkIface zh) [(.str [99, 97, 110, 110, 111, 116, 32, 98, 101, 32, 110, 101, 103, 97, 116, 105, 118, 101])]) fun g t11 => False) (fun g => GO3 g (SEQ3 (W M c (ql 8)) Q) .normal E D H)) ∧
 (∀ Q E D H, W M c (ql 8) true Q E D H =
  LK true (lk E 0) fun g t0 => B3 g (Op.lenSl [t0]) fun g t14 => B3 g ((Op.wrap .u64) [t14]) fun g t15 => LK g (lk E 1) fun g t1 => B3 g ((Op.wrap .u64) [t1]) fun g t17 => C3 M g (.func jx) [t15, t17] H fun g t18 H1 => B3 g ((Op.extract 0) [t18]) fun g t19 => B3 g ((Op.extract 1) [t18]) fun g t20 => W M c (ql 10) g Q ((6, t20)::(5, t19)::E) D H1) ∧
 (∀ Q E D H, W M c (ql 10) true Q E D H =
  LK true (lk E 5) fun g t5 => B3 g ((Op.bin .gtr) [t5, (.int .u64 0)]) fun g t22 => JN (fun (k : Bool → AV → AV → AHeap → Prop) => B3 g (wantV false (some t22)) fun g w => IG3 g w (fun g => LK g (lk E 6) fun g t6 => B3 g ((Op.bin .gtr) [t6, (.int .u64 9223372036854775807)]) fun g t25 => k g t25 t6 H) (fun g => k g uu uu H)) (fun g t25_1 t24_1 H1 => B3 g (Op.pick [t22, (.bool true), t25_1]) fun g t26 => IF3 g t26 (fun g => B3 g ((Op.mkIface zh) [(.str qus)]) fun g t27 => False) (fun g => GO3 g (SEQ3 (W M c (ql 16)) Q) .normal E D H1))) ∧
 (∀ Q E D H, W M c (ql 16) true Q E D H =
  LK true (lk E 6) fun g t6 => B3 g ((Op.wrap .i64) [t6]) fun g t29 => B32 g ((Op.mkSlice T_int 8 [(.int .i64 0)]) [t29, t29]) fun g o1 k1 => LK g (lk E 0) fun g t0 => B32 g ((Op.copy 1) [(k1 H.next), t0] (H.alloc o1)) fun g t33 H2 => W M c (ql 20) g Q ((8, t33)::(7, (k1 H.next))::E) D H2) ∧
 (∀ Q E D H, W M c (ql 20) true Q E D H =
  LOOP3 (W M c (ql 23)) (BLK3 0 (SEQ3 (W M c (ql 31)) Q)) E D H) ∧
 (∀ Q E D H, W M c (ql 31) true Q E D H =
  LK true (lk E 7) fun g t7 => GO3 g Q .ret ((4, t7)::E) D H) ∧
 (∀ Q E D H, W M c (ql 23) true Q E D H =
  LK true (lk E 8) fun g t8 => LK g (lk E 7) fun g t7 => B3 g (Op.lenSl [t7]) fun g t36 => B3 g ((Op.bin .lss) [t8, t36]) fun g t37 => IF3 g t37 (fun g => GO3 g (SEQ3 (W M c (ql 29)) Q) .normal E D H) (fun g => GO3 g (SEQ3 (W M c (ql 29)) Q) (.exit 0) E D H)) ∧
 (∀ Q E D H, W M c (ql 29) true Q E D H =
  LK true (lk E 8) fun g t8 => LK g (lk E 7) fun g t7 => B3 g ((Op.sliceSl 1 [(some 0), none, none]) [t7, t8]) fun g t41 => B3 g ((Op.sliceSl 1 [none, (some 0), none]) [t7, t8]) fun g t44 => B32 g ((Op.copy 1) [t41, t44] H) fun g t45 H1 => B3 g ((Op.bin .add) [t8, t45]) fun g t46 => GO3 g (BLK3 1 Q) .normal ((8, t46)::E) D H1) := by (repeat' apply And.intro) <;> (intro _ _ _ _; refine W_unf ?_; kernel_rfl)
theorem qct : (cProg Tryd.prog).func zj = some yt ∧ yt.results = [.tmp 4] := xd (by kernel_rfl)
theorem qf1 {M : Mac} [MK M] : M.func zj = some yt := MK.at (by decide) qct.1
theorem qgl {M : Mac} [MK M] {a0 a1 : AV} {H : AHeap} {Q : AEnd → AHeap → Prop} (h : W M ⟨none, zj⟩ (ql 0) true (FIN3 M [.tmp 4] Q) [(0, a0), (1, a1)] [] H) : CALLE M zj [a0, a1] H Q :=
  calle qf1 (ks := qci) (by kernel_rfl) (by rw [qct.2]; exact h)
def qai : AFunc := funcAt Tryd.prog jx
def qfi : Kp := ⟨[0, 1, 4, 5, 6, 7, 8, 9], false, [0, 10]⟩
def v7 (k : Nat) : Kp × ACode := (qfi, part qai.body k)
theorem qfe (M : Mac) (c : Ctx) : (∀ Q E D H, W M c (v7 0) true Q E D H =
  IF3 true (.bool false) (fun g => LK g (lk E 0) fun g t0 => B3 g ((Op.wrap .u32) [t0]) fun g t12 => LK g (lk E 1) fun g t1 => B3 g ((Op.wrap .u32) [t1]) fun g t14 => C3 M g (.func qif) [t12, t14] H fun g t15 H1 => B3 g ((Op.extract 0) [t15]) fun g t16 => B3 g ((Op.extract 1) [t15]) fun g t17 => B3 g ((Op.wrap .u64) [t16]) fun g t19 => B3 g ((Op.wrap .u64) [t17]) fun g t21 => GO3 g (SEQ3 (W M c (v7 10)) Q) .ret ((5, t21)::(4, t19)::(7, t17)::(6, t16)::(5, (.int .u64 0))::(4, (.int .u64 0))::E) D H1) (fun g => GO3 g (SEQ3 (W M c (v7 10)) Q) .normal ((5, (.int .u64 0))::(4, (.int .u64 0))::E) D H)) ∧
 (∀ Q E D H, W M c (v7 10) true Q E D H =
  LK true (lk E 0) fun g t0 => LK g (lk E 1) fun g t1 => C3 M g (.func jr) [t0, t1] H fun g t25 H1 => B3 g ((Op.extract 0) [t25]) fun g t26 => B3 g ((Op.extract 1) [t25]) fun g t27 => GO3 g Q .ret ((5, t27)::(4, t26)::(9, t27)::(8, t26)::E) D H1) := by (repeat' apply And.intro) <;> (intro _ _ _ _; refine W_unf ?_; kernel_rfl)
theorem qfb : (cProg Tryd.prog).func jx = some qai ∧ qai.results = [.tmp 4, .tmp 5] := xd (by kernel_rfl)
theorem qjr {M : Mac} [MK M] : M.func jx = some qai := MK.at (by decide) qfb.1
theorem qla {M : Mac} [MK M] {a0 a1 : AV} {H : AHeap} {Q : AEnd → AHeap → Prop} (h : W M ⟨none, jx⟩ (v7 0) true (FIN3 M [.tmp 4, .tmp 5] Q) [(0, a0), (1, a1)] [] H) : CALLE M jx [a0, a1] H Q :=
  calle qjr (ks := qfi) (by kernel_rfl) (by rw [qfb.2]; exact h)
def yp : AFunc := funcAt Tryd.prog xu
def qcs : Kp := ⟨[0, 1, 4], false, [0]⟩
def qco (k : Nat) : Kp × ACode := (qcs, part yp.body k)
theorem qcq (M : Mac) (c : Ctx) : (∀ Q E D H, W M c (qco 0) true Q E D H =
  LK true (lk E 0) fun g t0 => LK g (lk E 1) fun g t1 => C3 M g (.func xm) [t0, t1] H fun g t7 H1 => GO3 g Q .ret ((4, t7)::(4, (.bool false))::E) D H1) := by intro _ _ _ _; refine W_unf ?_; kernel_rfl
theorem qck : (cProg Tryd.prog).func xu = some yp ∧ yp.results = [.tmp 4] := xd (by kernel_rfl)
theorem qfz {M : Mac} [MK M] : M.func xu = some yp := MK.at (by decide) qck.1
theorem qgv {M : Mac} [MK M] {a0 a1 : AV} {H : AHeap} {Q : AEnd → AHeap → Prop} (h : W M ⟨none, xu⟩ (qco 0) true (FIN3 M [.tmp 4] Q) [(0, a0), (1, a1)] [] H) : CALLE M xu [a0, a1] H Q :=
  calle qfz (ks := qcs) (by kernel_rfl) (by rw [qck.2]; exact h)
def vh : AFunc := funcAt Tryd.prog qx
def qdd : Kp := ⟨[0, 1, 2, 6, 7, 9, 18], false, [0, 9, 21, 25, 31, 35]⟩
def xg (k : Nat) : Kp × ACode := (qdd, part vh.body k)
theorem ze (M : Mac) (c : Ctx) : (∀ Q E D H, W M c (xg 0) true Q E D H =
  LK true (lk E 0) fun g t0 => B3 g (Op.nilCheck [t0]) fun g t11 => B3 g ((Op.fieldAddr 2) [t11]) fun g t12 => B3 g (Op.load1 [t12] H) fun g t13 => LK g (lk E 1) fun g t1 => B3 g ((Op.indexSl 3) [t13, t1]) fun g t15 => B3 g ((Op.loadN 3) [t15] H) fun g t16 => A3 g qc [(.int .i64 0), (.int .u64 0), .nils] H fun g t6 H1 => B32 g ((Op.store 3) [t6, t16] H1) fun g u H2 => B3 g ((Op.fieldAddr 0) [t6]) fun g t17 => B3 g (Op.load1 [t17] H2) fun g t18 => B3 g ((Op.bin .eql) [t18, (.int .i64 1)]) fun g t58 => IF3 g t58 (fun g => LK g (lk E 0) fun g t0_1 => B3 g ((Op.fieldAddr 1) [t6]) fun g t60 => B3 g (Op.load1 [t60] H2) fun g t61 => C3 M g (.func zp) [t61, (.int .i64 10)] H2 fun g t62 H3 => C3 M g (.func qd) [t0_1, t62] H3 fun g t63 H4 => GO3 g (BLK3 0 Q) .normal ((18, t18)::(6, t6)::E) D H4) (fun g => W M c (xg 9) g (BLK3 0 Q) ((18, t18)::(6, t6)::E) D H2)) ∧
 (∀ Q E D H, W M c (xg 9) true Q E D H =
  LK true (lk E 18) fun g t18 => B3 g ((Op.bin .eql) [t18, (.int .i64 2)]) fun g t65 => IF3 g t65 (fun g => LK g (lk E 0) fun g t0 => LK g (lk E 6) fun g t6 => B3 g ((Op.fieldAddr 1) [t6]) fun g t67 => B3 g (Op.load1 [t67] H) fun g t68 => B3 g ((Op.bin .add) [(.int .u64 97), t68]) fun g t69 => B3 g ((Op.wrap .i32) [t69]) fun g t70 => B3 g (Op.strOfInt [t70]) fun g t71 => C3 M g (.func qd) [t0, t71] H fun g t72 H1 => GO3 g Q .normal E D H1) (fun g => LK g (lk E 18) fun g t18_1 => B3 g ((Op.bin .eql) [t18_1, (.int .i64 3)]) fun g t74 => IF3 g t74 (fun g => LK g (lk E 0) fun g t0 => C3 M g (.func qd) [t0, (.str [108, 111, 97, 100, 40])] H fun g t76 H1 => LK g (lk E 0) fun g t0_1 => LK g (lk E 6) fun g t6 => B3 g ((Op.fieldAddr 2) [t6]) fun g t78 => B3 g (Op.load1 [t78] H1) fun g t79 => B3 g ((Op.indexSl 1) [t79, (.int .i64 0)]) fun g t80 => B3 g (Op.load1 [t80] H1) fun g t81 => C3 M g (.func qx) [t0_1, t81, (.int .i64 0)] H1 fun g t82 H2 => LK g (lk E 0) fun g t0_2 => C3 M g (.func qd) [t0_2, (.str [41])] H2 fun g t84 H3 => GO3 g Q .normal E D H3) (fun g => W M c (xg 21) g Q E D H))) ∧
 (∀ Q E D H, W M c (xg 21) true Q E D H =
  LK true (lk E 6) fun g t6 => B3 g ((Op.fieldAddr 0) [t6]) fun g t19 => B3 g (Op.load1 [t19] H) fun g t20 => C3 M g (.func vv) [t20] H fun g t21 H1 => C3 M g (.func wx) [t21] H1 fun g t24 H2 => B3 g ((Op.extract 0) [t24]) fun g t25 => B3 g ((Op.extract 1) [t24]) fun g t26 => W M c (xg 25) g Q ((9, t26)::(7, t21)::E) D H2) ∧
 (∀ Q E D H, W M c (xg 25) true Q E D H =
  LK true (lk E 9) fun g t9 => LK g (lk E 2) fun g t2 => B3 g ((Op.bin .lss) [t9, t2]) fun g t29 => IF3 g t29 (fun g => LK g (lk E 0) fun g t0 => C3 M g (.func qd) [t0, (.str [40])] H fun g t31 H1 => GO3 g (SEQ3 (W M c (xg 31)) Q) .normal E D H1) (fun g => GO3 g (SEQ3 (W M c (xg 31)) Q) .normal E D H)) ∧
 (∀ Q E D H, W M c (xg 31) true Q E D H =
  LK true (lk E 0) fun g t0 => LK g (lk E 6) fun g t6 => B3 g ((Op.fieldAddr 2) [t6]) fun g t33 => B3 g (Op.load1 [t33] H) fun g t34 => B3 g ((Op.indexSl 1) [t34, (.int .i64 0)]) fun g t35 => B3 g (Op.load1 [t35] H) fun g t36 => LK g (lk E 9) fun g t9 => C3 M g (.func qx) [t0, t36, t9] H fun g t38 H1 => LK g (lk E 0) fun g t0_1 => LK g (lk E 7) fun g t7 => B3 g ((Op.bin .add) [(.str [32]), t7]) fun g t41 => B3 g ((Op.bin .add) [t41, (.str [32])]) fun g t42 => C3 M g (.func qd) [t0_1, t42] H1 fun g t43 H2 => W M c (xg 35) g Q E D H2) ∧
 (∀ Q E D H, W M c (xg 35) true Q E D H =
  LK true (lk E 0) fun g t0 => LK g (lk E 6) fun g t6 => B3 g ((Op.fieldAddr 2) [t6]) fun g t45 => B3 g (Op.load1 [t45] H) fun g t46 => B3 g ((Op.indexSl 1) [t46, (.int .i64 1)]) fun g t47 => B3 g (Op.load1 [t47] H) fun g t48 => LK g (lk E 9) fun g t9 => B3 g ((Op.bin .add) [t9, (.int .i64 1)]) fun g t50 => C3 M g (.func qx) [t0, t48, t50] H fun g t51 H1 => LK g (lk E 9) fun g t9_1 => LK g (lk E 2) fun g t2 => B3 g ((Op.bin .lss) [t9_1, t2]) fun g t54 => IF3 g t54 (fun g => LK g (lk E 0) fun g t0_1 => C3 M g (.func qd) [t0_1, (.str [41])] H1 fun g t56 H2 => GO3 g Q .normal E D H2) (fun g => GO3 g Q .normal E D H1)) := by (repeat' apply And.intro) <;> (intro _ _ _ _; refine W_unf ?_; kernel_rfl)
theorem qcw : (cProg Tryd.prog).func qx = some vh ∧ vh.results = [] := xd (by kernel_rfl)
theorem qgx {M : Mac} [MK M] : M.func qx = some vh := MK.at (by decide) qcw.1
theorem vg {M : Mac} [MK M] {a0 a1 a2 : AV} {H : AHeap} {Q : AEnd → AHeap → Prop} (h : W M ⟨none, qx⟩ (xg 0) true (FIN3 M [] Q) [(0, a0), (1, a1), (2, a2)] [] H) : CALLE M qx [a0, a1, a2] H Q :=
  calle qgx (ks := qdd) (by kernel_rfl) (by rw [qcw.2]; exact h)
def vm : AFunc := funcAt Tryd.prog ji
def qdb : Kp := ⟨[0, 1, 4], false, [0]⟩
def qc2 (k : Nat) : Kp × ACode := (qdb, part vm.body k)
theorem vo (M : Mac) (c : Ctx) : (∀ Q E D H, W M c (qc2 0) true Q E D H =
  LK true (lk E 0) fun g t0 => B3 g (Op.nilCheck [t0]) fun g t6 => B3 g ((Op.fieldAddr 2) [t6]) fun g t7 => B3 g (Op.load1 [t7] H) fun g t8 => LK g (lk E 1) fun g t1 => B3 g ((Op.indexSl 3) [t8, t1]) fun g t10 => B3 g ((Op.loadN 3) [t10] H) fun g t11 => A3 g qc [(.int .i64 0), (.int .u64 0), .nils] H fun g t4 H1 => B32 g ((Op.store 3) [t4, t11] H1) fun g u H2 => LK g (lk E 0) fun g t0_1 => B3 g ((Op.fieldAddr 2) [t4]) fun g t13 => B3 g (Op.load1 [t13] H2) fun g t14 => B3 g ((Op.indexSl 1) [t14, (.int .i64 0)]) fun g t15 => B3 g (Op.load1 [t15] H2) fun g t16 => C3 M g (.func qx) [t0_1, t16, (.int .i64 0)] H2 fun g t17 H3 => LK g (lk E 0) fun g t0_2 => B32 g ((Op.buildSlice zh 3 [(.str [])] [(0, 1), (1, 1), (2, 1)]) [(.str [32, 61, 61, 32]), (.str [32, 33, 61, 32]), (.str [32, 60, 32])]) fun g o4 k4 => B3 g ((Op.fieldAddr 0) [t4]) fun g t20 => B3 g (Op.load1 [t20] (H3.alloc o4)) fun g t21 => B3 g ((Op.bin .sub) [t21, (.int .i64 11)]) fun g t22 => B3 g ((Op.indexSl 1) [(k4 H3.next), t22]) fun g t23 => B3 g (Op.load1 [t23] (H3.alloc o4)) fun g t24 => C3 M g (.func qd) [t0_2, t24] (H3.alloc o4) fun g t25 H5 => LK g (lk E 0) fun g t0_3 => B3 g ((Op.fieldAddr 2) [t4]) fun g t27 => B3 g (Op.load1 [t27] H5) fun g t28 => B3 g ((Op.indexSl 1) [t28, (.int .i64 1)]) fun g t29 => B3 g (Op.load1 [t29] H5) fun g t30 => C3 M g (.func qx) [t0_3, t30, (.int .i64 0)] H5 fun g t31 H6 => GO3 g Q .normal ((4, t4)::E) D H6) := by intro _ _ _ _; refine W_unf ?_; kernel_rfl
theorem qc4 : (cProg Tryd.prog).func ji = some vm ∧ vm.results = [] := xd (by kernel_rfl)
theorem qgs {M : Mac} [MK M] : M.func ji = some vm := MK.at (by decide) qc4.1
theorem qhx {M : Mac} [MK M] {a0 a1 : AV} {H : AHeap} {Q : AEnd → AHeap → Prop} (h : W M ⟨none, ji⟩ (qc2 0) true (FIN3 M [] Q) [(0, a0), (1, a1)] [] H) : CALLE M ji [a0, a1] H Q :=
  calle qgs (ks := qdb) (by kernel_rfl) (by rw [qc4.2]; exact h)
def yu : AFunc := funcAt Tryd.prog x5
def qcp : Kp := ⟨[0, 1, 2], false, [0]⟩
def qcv (k : Nat) : Kp × ACode := (qcp, part yu.body k)
theorem kh (M : Mac) (c : Ctx) : (∀ Q E D H, W M c (qcv 0) true Q E D H =
  LK true (lk E 0) fun g t0 => C3 M g (.func qd) [t0, (.str [123, 10])] H fun g t7 H1 => LK g (lk E 0) fun g t0_1 => LK g (lk E 1) fun g t1 => LK g (lk E 2) fun g t2 => B3 g ((Op.bin .add) [t2, (.int .i64 1)]) fun g t11 => C3 M g (.func zt) [t0_1, t1, t11] H1 fun g t12 H2 => LK g (lk E 0) fun g t0_2 => LK g (lk E 2) fun g t2_1 => C3 M g (.func z6) [(.str [32, 32]), t2_1] H2 fun g t15 H3 => B3 g ((Op.bin .add) [t15, (.str [125])]) fun g t16 => C3 M g (.func qd) [t0_2, t16] H3 fun g t17 H4 => GO3 g Q .normal E D H4) := by intro _ _ _ _; refine W_unf ?_; kernel_rfl
theorem qcn : (cProg Tryd.prog).func x5 = some yu ∧ yu.results = [] := xd (by kernel_rfl)
theorem qf2 {M : Mac} [MK M] : M.func x5 = some yu := MK.at (by decide) qcn.1
theorem qgt {M : Mac} [MK M] {a0 a1 a2 : AV} {H : AHeap} {Q : AEnd → AHeap → Prop} (h : W M ⟨none, x5⟩ (qcv 0) true (FIN3 M [] Q) [(0, a0), (1, a1), (2, a2)] [] H) : CALLE M x5 [a0, a1, a2] H Q :=
  calle qf2 (ks := qcp) (by kernel_rfl) (by rw [qcn.2]; exact h)
def v9 : AFunc := funcAt Tryd.prog jr
def qd7 : Kp := ⟨[0, 1, 4, 5, 6, 7, 8, 9, 10, 11, 12, 13], false, [0, 4, 8, 12]⟩
def z9 (k : Nat) : Kp × ACode := (qd7, part v9.body k)
theorem qic (M : Mac) (c : Ctx) : (∀ Q E D H, W M c (z9 0) true Q E D H =
  LK true (lk E 0) fun g t0 => B3 g ((Op.bin .and) [t0, (.int .u64 4294967295)]) fun g t15 => W M c (z9 4) g Q ((6, t15)::(5, (.int .u64 0))::(4, (.int .u64 0))::E) D H) ∧
 (∀ Q E D H, W M c (z9 4) true Q E D H =
  LK true (lk E 0) fun g t0 => B3 g ((Op.bin .shr) [t0, (.int .u64 32)]) fun g t17 => LK g (lk E 1) fun g t1 => B3 g ((Op.bin .and) [t1, (.int .u64 4294967295)]) fun g t19 => W M c (z9 8) g Q ((8, t19)::(7, t17)::E) D H) ∧
 (∀ Q E D H, W M c (z9 8) true Q E D H =
  LK true (lk E 1) fun g t1 => B3 g ((Op.bin .shr) [t1, (.int .u64 32)]) fun g t21 => LK g (lk E 6) fun g t6 => LK g (lk E 8) fun g t8 => B3 g ((Op.bin .mul) [t6, t8]) fun g t24 => W M c (z9 12) g Q ((10, t24)::(9, t21)::E) D H) ∧
 (∀ Q E D H, W M c (z9 12) true Q E D H =
  LK true (lk E 7) fun g t7 => LK g (lk E 8) fun g t8 => B3 g ((Op.bin .mul) [t7, t8]) fun g t27 => LK g (lk E 10) fun g t10 => B3 g ((Op.bin .shr) [t10, (.int .u64 32)]) fun g t29 => B3 g ((Op.bin .add) [t27, t29]) fun g t30 => B3 g ((Op.bin .and) [t30, (.int .u64 4294967295)]) fun g t32 => B3 g ((Op.bin .shr) [t30, (.int .u64 32)]) fun g t34 => LK g (lk E 6) fun g t6 => LK g (lk E 9) fun g t9 => B3 g ((Op.bin .mul) [t6, t9]) fun g t38 => B3 g ((Op.bin .add) [t32, t38]) fun g t39 => LK g (lk E 7) fun g t7_1 => LK g (lk E 9) fun g t9_1 => B3 g ((Op.bin .mul) [t7_1, t9_1]) fun g t42 => B3 g ((Op.bin .add) [t42, t34]) fun g t44 => B3 g ((Op.bin .shr) [t39, (.int .u64 32)]) fun g t46 => B3 g ((Op.bin .add) [t44, t46]) fun g t47 => LK g (lk E 0) fun g t0 => LK g (lk E 1) fun g t1 => B3 g ((Op.bin .mul) [t0, t1]) fun g t50 => GO3 g Q .ret ((5, t50)::(4, t47)::(12, t39)::(13, t34)::(12, t32)::(11, t30)::E) D H) := by (repeat' apply And.intro) <;> (intro _ _ _ _; refine W_unf ?_; kernel_rfl)
theorem qd2 : (cProg Tryd.prog).func jr = some v9 ∧ v9.results = [.tmp 4, .tmp 5] := xd (by kernel_rfl)
theorem qhl {M : Mac} [MK M] : M.func jr = some v9 := MK.at (by decide) qd2.1
theorem qh2 {M : Mac} [MK M] {a0 a1 : AV} {H : AHeap} {Q : AEnd → AHeap → Prop} (h : W M ⟨none, jr⟩ (z9 0) true (FIN3 M [.tmp 4, .tmp 5] Q) [(0, a0), (1, a1)] [] H) : CALLE M jr [a0, a1] H Q :=
  calle qhl (ks := qd7) (by kernel_rfl) (by rw [qd2.2]; exact h)
def zi : AFunc := funcAt Tryd.prog xm
def ye : Kp := ⟨[0, 1, 4], false, [0]⟩
def yc (k : Nat) : Kp × ACode := (ye, part zi.body k)
theorem qas (M : Mac) (c : Ctx) : (∀ Q E D H, W M c (yc 0) true Q E D H =
  LK true (lk E 0) fun g t0 => B3 g (Op.lenStr [t0]) fun g t6 => LK g (lk E 1) fun g t1 => B3 g (Op.lenStr [t1]) fun g t8 => B3 g ((Op.bin .geq) [t6, t8]) fun g t9 => JN (fun (k : Bool → AV → AV → AV → AV → AV → AV → AHeap → Prop) => B3 g (wantV true (some t9)) fun g w => IG3 g w (fun g => B3 g (Op.lenStr [t1]) fun g t13 => B3 g ((Op.sliceStr [none, (some 0)]) [t0, t13]) fun g t14 => B3 g ((Op.bin .eql) [t14, t1]) fun g t16 => k g t16 t1 t14 t13 t1 t0 H) (fun g => k g uu uu uu uu uu uu H)) (fun g t16_1 t15_1 t14_1 t13_1 t12_1 t11_1 H1 => B3 g (Op.pick [t9, t16_1, (.bool false)]) fun g t17 => GO3 g Q .ret ((4, t17)::(4, (.bool false))::E) D H1)) := by intro _ _ _ _; refine W_unf ?_; kernel_rfl
theorem yd : (cProg Tryd.prog).func xm = some zi ∧ zi.results = [.tmp 4] := xd (by kernel_rfl)
theorem qaq {M : Mac} [MK M] : M.func xm = some zi := MK.at (by decide) yd.1
theorem qat {M : Mac} [MK M] {a0 a1 : AV} {H : AHeap} {Q : AEnd → AHeap → Prop} (h : W M ⟨none, xm⟩ (yc 0) true (FIN3 M [.tmp 4] Q) [(0, a0), (1, a1)] [] H) : CALLE M xm [a0, a1] H Q :=
  calle qaq (ks := ye) (by kernel_rfl) (by rw [yd.2]; exact h)
def qdn : AFunc := funcAt Tryd.prog vv
def qi5 : Kp := ⟨[0, 2], false, [0]⟩
def qjl (k : Nat) : Kp × ACode := (qi5, part qdn.body k)
theorem qq0 (M : Mac) (c : Ctx) : (∀ Q E D H, W M c (qjl 0) true Q E D H =
  B32 true ((Op.buildSlice zh 7 [(.str [])] [(0, 1), (1, 1), (2, 1), (3, 1), (4, 1), (5, 1), (6, 1)]) [(.str [43]), (.str [45]), (.str [42]), (.str [38]), (.str [94]), (.str [60, 60]), (.str [62, 62])]) fun g o1 k1 => LK g (lk E 0) fun g t0 => B3 g ((Op.bin .sub) [t0, (.int .i64 4)]) fun g t5 => B3 g ((Op.indexSl 1) [(k1 H.next), t5]) fun g t6 => B3 g (Op.load1 [t6] (H.alloc o1)) fun g t7 => GO3 g Q .ret ((2, t7)::(2, (.str []))::E) D (H.alloc o1)) := by intro _ _ _ _; refine W_unf ?_; kernel_rfl
theorem qji : (cProg Tryd.prog).func vv = some qdn ∧ qdn.results = [.tmp 2] := xd (by kernel_rfl)
theorem qnk {M : Mac} [MK M] : M.func vv = some qdn := MK.at (by decide) qji.1
theorem qq6 {M : Mac} [MK M] {a0 : AV} {H : AHeap} {Q : AEnd → AHeap → Prop} (h : W M ⟨none, vv⟩ (qjl 0) true (FIN3 M [.tmp 2] Q) [(0, a0)] [] H) : CALLE M vv [a0] H Q :=
  calle qnk (ks := qi5) (by kernel_rfl) (by rw [qji.2]; exact h)
def qes : AFunc := funcAt Tryd.prog wx
def qlu : Kp := ⟨[0, 2, 3, 4], false, [0, 2, 18, 30, 42, 49]⟩
def jk (k : Nat) : Kp × ACode := (qlu, part qes.body k)
theorem qr5 (M : Mac) (c : Ctx) : (∀ Q E D H, W M c (jk 0) true Q E D H =
  W M c (jk 2) true Q ((3, (.int .i64 0))::(2, (.int .i64 0))::E) D H) ∧
 (∀ Q E D H, W M c (jk 2) true Q E D H =
  LK true (lk E 0) fun g t0 => B3 g ((Op.bin .eql) [t0, (.str [43])]) fun g t6 => IF3 g t6 (fun g => GO3 g (BLK3 0 (SEQ3 (W M c (jk 49)) Q)) .ret ((3, (.int .i64 1))::(2, (.int .i64 4))::(4, t0)::E) D H) (fun g => B3 g ((Op.bin .eql) [t0, (.str [45])]) fun g t8 => IF3 g t8 (fun g => GO3 g (BLK3 0 (SEQ3 (W M c (jk 49)) Q)) .ret ((3, (.int .i64 1))::(2, (.int .i64 5))::(4, t0)::E) D H) (fun g => W M c (jk 18) g (BLK3 0 (SEQ3 (W M c (jk 49)) Q)) ((4, t0)::E) D H))) ∧
 (∀ Q E D H, W M c (jk 49) true Q E D H =
  GO3 true Q .ret ((3, (.int .i64 0))::(2, (.int .i64 0))::E) D H) ∧
 (∀ Q E D H, W M c (jk 18) true Q E D H =
  LK true (lk E 4) fun g t4 => B3 g ((Op.bin .eql) [t4, (.str [94])]) fun g t10 => IF3 g t10 (fun g => GO3 g Q .ret ((3, (.int .i64 1))::(2, (.int .i64 8))::E) D H) (fun g => LK g (lk E 4) fun g t4_1 => B3 g ((Op.bin .eql) [t4_1, (.str [42])]) fun g t12 => IF3 g t12 (fun g => GO3 g Q .ret ((3, (.int .i64 2))::(2, (.int .i64 6))::E) D H) (fun g => W M c (jk 30) g Q E D H))) ∧
 (∀ Q E D H, W M c (jk 30) true Q E D H =
  LK true (lk E 4) fun g t4 => B3 g ((Op.bin .eql) [t4, (.str [38])]) fun g t14 => IF3 g t14 (fun g => GO3 g Q .ret ((3, (.int .i64 2))::(2, (.int .i64 7))::E) D H) (fun g => LK g (lk E 4) fun g t4_1 => B3 g ((Op.bin .eql) [t4_1, (.str [60, 60])]) fun g t16 => IF3 g t16 (fun g => GO3 g Q .ret ((3, (.int .i64 2))::(2, (.int .i64 9))::E) D H) (fun g => W M c (jk 42) g Q E D H))) ∧
 (∀ Q E D H, W M c (jk 42) true Q E D H =
  LK true (lk E 4) fun g t4 => B3 g ((Op.bin .eql) [t4, (.str [62, 62])]) fun g t18 => IF3 g t18 (fun g => GO3 g Q .ret ((3, (.int .i64 2))::(2, (.int .i64 10))::E) D H) (fun g => GO3 g Q .normal E D H)) := by (repeat' apply And.intro) <;> (intro _ _ _ _; refine W_unf ?_; kernel_rfl)
theorem qk7 : (cProg Tryd.prog).func wx = some qes ∧ qes.results = [.tmp 2, .tmp 3] := xd (by kernel_rfl)
theorem qra {M : Mac} [MK M] : M.func wx = some qes := MK.at (by decide) qk7.1
theorem qr8 {M : Mac} [MK M] {a0 : AV} {H : AHeap} {Q : AEnd → AHeap → Prop} (h : W M ⟨none, wx⟩ (jk 0) true (FIN3 M [.tmp 2, .tmp 3] Q) [(0, a0)] [] H) : CALLE M wx [a0] H Q :=
  calle qra (ks := qlu) (by kernel_rfl) (by rw [qk7.2]; exact h)
end
end Go.Am
namespace Go.Am
abbrev j5 : Nat := 43
abbrev x4 : Nat := 16
abbrev ya : Nat := 17
abbrev kz : Nat := 67
abbrev ym : Nat := 71
abbrev ke : Nat := 102
abbrev zr : Nat := 70
abbrev zu : Nat := 68
abbrev kc : Nat := 69
abbrev zk : Nat := 44
abbrev yb : Nat := 103
noncomputable section
open Go.Proofs Go.Proofs.YtbimikjajohflaaDoor
def qb9 : AFunc := funcAt Tryd.prog x4
def qg9 : Kp := ⟨[0, 2, 3, 4, 5, 6, 7], false, [0, 4, 12, 16, 21, 27, 35, 41, 48, 49]⟩
def qn (k : Nat) : Kp × ACode := (qg9, part qb9.body k)
theorem qeg (M : Mac) (c : Ctx) : (∀ Q E D H, W M c (qn 0) true Q E D H =
  LK true (lk E 0) fun g t0 => C3 M g (.func j5) [t0] H fun g t9 H1 => W M c (qn 4) g Q ((4, t9)::(3, (.int .i64 0))::(2, (.str []))::E) D H1) ∧
 (∀ Q E D H, W M c (qn 4) true Q E D H =
  LK true (lk E 4) fun g t4 => B3 g ((Op.un .not) [t4]) fun g t11 => IF3 g t11 (fun g => GO3 g (SEQ3 (W M c (qn 12)) Q) .ret ((3, (.int .i64 2))::(2, (.str []))::E) D H) (fun g => GO3 g (SEQ3 (W M c (qn 12)) Q) .normal E D H)) ∧
 (∀ Q E D H, W M c (qn 12) true Q E D H =
  LK true (lk E 0) fun g t0 => B3 g (Op.lenSl [t0]) fun g t14 => B3 g ((Op.bin .sub) [t14, (.int .i64 1)]) fun g t15 => C3 M g (.func zk) [t0, t15, (.str [])] H fun g t16 H1 => W M c (qn 16) g Q ((6, (.int .i64 0))::(5, t16)::E) D H1) ∧
 (∀ Q E D H, W M c (qn 16) true Q E D H =
  LOOP3 (W M c (qn 21)) (BLK3 0 (SEQ3 (W M c (qn 49)) Q)) ((7, (.int .i64 0))::E) D H) ∧
 (∀ Q E D H, W M c (qn 49) true Q E D H =
  LK true (lk E 5) fun g t5 => GO3 g Q .ret ((3, (.int .i64 0))::(2, t5)::E) D H) ∧
 (∀ Q E D H, W M c (qn 21) true Q E D H =
  LK true (lk E 7) fun g t7 => LK g (lk E 5) fun g t5 => B3 g (Op.lenStr [t5]) fun g t19 => B3 g ((Op.bin .lss) [t7, t19]) fun g t20 => IF3 g t20 (fun g => GO3 g (SEQ3 (W M c (qn 27)) Q) .normal E D H) (fun g => GO3 g (SEQ3 (W M c (qn 27)) Q) (.exit 0) E D H)) ∧
 (∀ Q E D H, W M c (qn 27) true Q E D H =
  LK true (lk E 5) fun g t5 => LK g (lk E 7) fun g t7 => B3 g (Op.indexStr [t5, t7]) fun g t25 => B3 g ((Op.bin .eql) [t25, (.int .u8 40)]) fun g t26 => JN (fun (k : Bool → AV → AV → AV → AV → AHeap → Prop) => B3 g (wantV false (some t26)) fun g w => IG3 g w (fun g => B3 g (Op.indexStr [t5, t7]) fun g t30 => B3 g ((Op.bin .eql) [t30, (.int .u8 123)]) fun g t31 => k g t31 t30 t7 t5 H) (fun g => k g uu uu uu uu H)) (fun g t31_1 t30_1 t29_1 t28_1 H1 => B3 g (Op.pick [t26, (.bool true), t31_1]) fun g t32 => IF3 g t32 (fun g => LK g (lk E 6) fun g t6 => B3 g ((Op.bin .add) [t6, (.int .i64 1)]) fun g t34 => GO3 g (SEQ3 (W M c (qn 35)) (BLK3 1 (SEQ3 (W M c (qn 48)) Q))) .normal ((6, t34)::E) D H1) (fun g => GO3 g (SEQ3 (W M c (qn 35)) (BLK3 1 (SEQ3 (W M c (qn 48)) Q))) .normal E D H1))) ∧
 (∀ Q E D H, W M c (qn 48) true Q E D H =
  LK true (lk E 7) fun g t7 => B3 g ((Op.bin .add) [t7, (.int .i64 1)]) fun g t22 => GO3 g Q .normal ((7, t22)::E) D H) ∧
 (∀ Q E D H, W M c (qn 35) true Q E D H =
  LK true (lk E 5) fun g t5 => LK g (lk E 7) fun g t7 => B3 g (Op.indexStr [t5, t7]) fun g t37 => B3 g ((Op.bin .eql) [t37, (.int .u8 41)]) fun g t38 => JN (fun (k : Bool → AV → AV → AV → AV → AHeap → Prop) => B3 g (wantV false (some t38)) fun g w => IG3 g w (fun g => B3 g (Op.indexStr [t5, t7]) fun g t42 => B3 g ((Op.bin .eql) [t42, (.int .u8 125)]) fun g t43 => k g t43 t42 t7 t5 H) (fun g => k g uu uu uu uu H)) (fun g t43_1 t42_1 t41_1 t40_1 H1 => B3 g (Op.pick [t38, (.bool true), t43_1]) fun g t44 => IF3 g t44 (fun g => LK g (lk E 6) fun g t6 => B3 g ((Op.bin .sub) [t6, (.int .i64 1)]) fun g t46 => GO3 g (SEQ3 (W M c (qn 41)) Q) .normal ((6, t46)::E) D H1) (fun g => GO3 g (SEQ3 (W M c (qn 41)) Q) .normal E D H1))) ∧
 (∀ Q E D H, W M c (qn 41) true Q E D H =
  LK true (lk E 6) fun g t6 => B3 g ((Op.bin .gtr) [t6, (.int .i64 50)]) fun g t48 => IF3 g t48 (fun g => GO3 g Q .ret ((3, (.int .i64 2))::(2, (.str []))::E) D H) (fun g => GO3 g Q .normal E D H)) := by (repeat' apply And.intro) <;> (intro _ _ _ _; refine W_unf ?_; kernel_rfl)
theorem qhs : (cProg Tryd.prog).func x4 = some qb9 ∧ qb9.results = [.tmp 2, .tmp 3] := xd (by kernel_rfl)
theorem qmp {M : Mac} [MK M] : M.func x4 = some qb9 := MK.at (by decide) qhs.1
theorem qhu {M : Mac} [MK M] {a0 : AV} {H : AHeap} {Q : AEnd → AHeap → Prop} (h : W M ⟨none, x4⟩ (qn 0) true (FIN3 M [.tmp 2, .tmp 3] Q) [(0, a0)] [] H) : CALLE M x4 [a0] H Q :=
  calle qmp (ks := qg9) (by kernel_rfl) (by rw [qhs.2]; exact h)
def qc5 : AFunc := funcAt Tryd.prog ya
def qjc : Kp := ⟨[0, 1, 4, 5, 6], false, [0, 2, 10, 15, 21, 31, 35, 41, 50, 51, 52]⟩
def qu (k : Nat) : Kp × ACode := (qjc, part qc5.body k)
theorem qpg (M : Mac) (c : Ctx) : (∀ Q E D H, W M c (qu 0) true Q E D H =
  W M c (qu 2) true Q ((4, (.bool false))::E) D H) ∧
 (∀ Q E D H, W M c (qu 2) true Q E D H =
  LK true (lk E 0) fun g t0 => B3 g (Op.lenSl [t0]) fun g t8 => LK g (lk E 1) fun g t1 => B3 g (Op.lenSl [t1]) fun g t10 => B3 g ((Op.bin .neq) [t8, t10]) fun g t11 => IF3 g t11 (fun g => GO3 g (SEQ3 (W M c (qu 10)) Q) .ret ((4, (.bool false))::E) D H) (fun g => GO3 g (SEQ3 (W M c (qu 10)) Q) .normal E D H)) ∧
 (∀ Q E D H, W M c (qu 10) true Q E D H =
  LOOP3 (W M c (qu 15)) (BLK3 0 (SEQ3 (W M c (qu 52)) Q)) ((5, (.int .i64 0))::E) D H) ∧
 (∀ Q E D H, W M c (qu 52) true Q E D H =
  GO3 true Q .ret ((4, (.bool true))::E) D H) ∧
 (∀ Q E D H, W M c (qu 15) true Q E D H =
  LK true (lk E 5) fun g t5 => LK g (lk E 0) fun g t0 => B3 g (Op.lenSl [t0]) fun g t14 => B3 g ((Op.bin .lss) [t5, t14]) fun g t15 => IF3 g t15 (fun g => GO3 g (SEQ3 (W M c (qu 21)) Q) .normal E D H) (fun g => GO3 g (SEQ3 (W M c (qu 21)) Q) (.exit 0) E D H)) ∧
 (∀ Q E D H, W M c (qu 21) true Q E D H =
  LK true (lk E 0) fun g t0 => LK g (lk E 5) fun g t5 => B3 g ((Op.indexSl 3) [t0, t5]) fun g t20 => B3 g ((Op.fieldAddr 0) [t20]) fun g t21 => B3 g (Op.load1 [t21] H) fun g t22 => LK g (lk E 1) fun g t1 => B3 g ((Op.indexSl 3) [t1, t5]) fun g t25 => B3 g ((Op.fieldAddr 0) [t25]) fun g t26 => B3 g (Op.load1 [t26] H) fun g t27 => B3 g ((Op.bin .neq) [t22, t27]) fun g t28 => JN (fun (k : Bool → AV → AV → AV → AV → AV → AV → AV → AV → AV → AV → AV → AHeap → Prop) => B3 g (wantV false (some t28)) fun g w => IG3 g w (fun g => B3 g ((Op.indexSl 3) [t0, t5]) fun g t32 => B3 g ((Op.fieldAddr 1) [t32]) fun g t33 => B3 g (Op.load1 [t33] H) fun g t34 => B3 g ((Op.indexSl 3) [t1, t5]) fun g t37 => B3 g ((Op.fieldAddr 1) [t37]) fun g t38 => B3 g (Op.load1 [t38] H) fun g t39 => B3 g ((Op.bin .neq) [t34, t39]) fun g t40 => k g t40 t39 t38 t37 t5 t1 t34 t33 t32 t5 t0 H) (fun g => k g uu uu uu uu uu uu uu uu uu uu uu H)) (fun g t40_1 t39_1 t38_1 t37_1 t36_1 t35_1 t34_1 t33_1 t32_1 t31_1 t30_1 H1 => B3 g (Op.pick [t28, (.bool true), t40_1]) fun g t41 => JN (fun (k : Bool → AV → AV → AV → AV → AV → AV → AV → AV → AV → AV → AV → AV → AV → AHeap → Prop) => B3 g (wantV false (some t41)) fun g w => IG3 g w (fun g => B3 g ((Op.indexSl 3) [t0, t5]) fun g t45 => B3 g ((Op.fieldAddr 2) [t45]) fun g t46 => B3 g (Op.load1 [t46] H1) fun g t47 => B3 g (Op.lenSl [t47]) fun g t48 => B3 g ((Op.indexSl 3) [t1, t5]) fun g t51 => B3 g ((Op.fieldAddr 2) [t51]) fun g t52 => B3 g (Op.load1 [t52] H1) fun g t53 => B3 g (Op.lenSl [t53]) fun g t54 => B3 g ((Op.bin .neq) [t48, t54]) fun g t55 => k g t55 t54 t53 t52 t51 t5 t1 t48 t47 t46 t45 t5 t0 H1) (fun g => k g uu uu uu uu uu uu uu uu uu uu uu uu uu H1)) (fun g t55_1 t54_1 t53_1 t52_1 t51_1 t50_1 t49_1 t48_1 t47_1 t46_1 t45_1 t44_1 t43_1 H2 => B3 g (Op.pick [t41, (.bool true), t55_1]) fun g t56 => IF3 g t56 (fun g => GO3 g (SEQ3 (W M c (qu 31)) (BLK3 1 (SEQ3 (W M c (qu 51)) Q))) .ret ((4, (.bool false))::E) D H2) (fun g => GO3 g (SEQ3 (W M c (qu 31)) (BLK3 1 (SEQ3 (W M c (qu 51)) Q))) .normal E D H2)))) ∧
 (∀ Q E D H, W M c (qu 51) true Q E D H =
  LK true (lk E 5) fun g t5 => B3 g ((Op.bin .add) [t5, (.int .i64 1)]) fun g t17 => GO3 g Q .normal ((5, t17)::E) D H) ∧
 (∀ Q E D H, W M c (qu 31) true Q E D H =
  LOOP3 (W M c (qu 35)) (BLK3 2 Q) ((6, (.int .i64 0))::E) D H) ∧
 (∀ Q E D H, W M c (qu 35) true Q E D H =
  LK true (lk E 6) fun g t6 => LK g (lk E 0) fun g t0 => LK g (lk E 5) fun g t5 => B3 g ((Op.indexSl 3) [t0, t5]) fun g t60 => B3 g ((Op.fieldAddr 2) [t60]) fun g t61 => B3 g (Op.load1 [t61] H) fun g t62 => B3 g (Op.lenSl [t62]) fun g t63 => B3 g ((Op.bin .lss) [t6, t63]) fun g t64 => IF3 g t64 (fun g => GO3 g (SEQ3 (W M c (qu 41)) Q) .normal E D H) (fun g => GO3 g (SEQ3 (W M c (qu 41)) Q) (.exit 2) E D H)) ∧
 (∀ Q E D H, W M c (qu 41) true Q E D H =
  LK true (lk E 0) fun g t0 => LK g (lk E 5) fun g t5 => B3 g ((Op.indexSl 3) [t0, t5]) fun g t69 => B3 g ((Op.fieldAddr 2) [t69]) fun g t70 => B3 g (Op.load1 [t70] H) fun g t71 => LK g (lk E 6) fun g t6 => B3 g ((Op.indexSl 1) [t71, t6]) fun g t73 => B3 g (Op.load1 [t73] H) fun g t74 => LK g (lk E 1) fun g t1 => B3 g ((Op.indexSl 3) [t1, t5]) fun g t77 => B3 g ((Op.fieldAddr 2) [t77]) fun g t78 => B3 g (Op.load1 [t78] H) fun g t79 => B3 g ((Op.indexSl 1) [t79, t6]) fun g t81 => B3 g (Op.load1 [t81] H) fun g t82 => B3 g ((Op.bin .neq) [t74, t82]) fun g t83 => IF3 g t83 (fun g => GO3 g (BLK3 3 (SEQ3 (W M c (qu 50)) Q)) .ret ((4, (.bool false))::E) D H) (fun g => GO3 g (BLK3 3 (SEQ3 (W M c (qu 50)) Q)) .normal E D H)) ∧
 (∀ Q E D H, W M c (qu 50) true Q E D H =
  LK true (lk E 6) fun g t6 => B3 g ((Op.bin .add) [t6, (.int .i64 1)]) fun g t66 => GO3 g Q .normal ((6, t66)::E) D H) := by (repeat' apply And.intro) <;> (intro _ _ _ _; refine W_unf ?_; kernel_rfl)
theorem qjp : (cProg Tryd.prog).func ya = some qc5 ∧ qc5.results = [.tmp 4] := xd (by kernel_rfl)
theorem qnr {M : Mac} [MK M] : M.func ya = some qc5 := MK.at (by decide) qjp.1
theorem qq1 {M : Mac} [MK M] {a0 a1 : AV} {H : AHeap} {Q : AEnd → AHeap → Prop} (h : W M ⟨none, ya⟩ (qu 0) true (FIN3 M [.tmp 4] Q) [(0, a0), (1, a1)] [] H) : CALLE M ya [a0, a1] H Q :=
  calle qnr (ks := qjc) (by kernel_rfl) (by rw [qjp.2]; exact h)
def qej : AFunc := funcAt Tryd.prog j5
def qks : Kp := ⟨[0, 2, 3, 4, 5, 6, 7, 8, 9], false, [0, 2, 10, 14, 19, 25, 31, 39, 44, 50, 60, 61, 62, 64, 72, 75, 76]⟩
def qh (k : Nat) : Kp × ACode := (qks, part qej.body k)
theorem qlt (M : Mac) (c : Ctx) : (∀ Q E D H, W M c (qh 0) true Q E D H =
  W M c (qh 2) true Q ((2, (.bool false))::E) D H) ∧
 (∀ Q E D H, W M c (qh 2) true Q E D H =
  LK true (lk E 0) fun g t0 => B3 g (Op.lenSl [t0]) fun g t11 => B3 g ((Op.bin .lss) [t11, (.int .i64 1)]) fun g t12 => JN (fun (k : Bool → AV → AV → AV → AHeap → Prop) => B3 g (wantV false (some t12)) fun g w => IG3 g w (fun g => B3 g (Op.lenSl [t0]) fun g t15 => B3 g ((Op.bin .gtr) [t15, (.int .i64 2000)]) fun g t16 => k g t16 t15 t0 H) (fun g => k g uu uu uu H)) (fun g t16_1 t15_1 t14_1 H1 => B3 g (Op.pick [t12, (.bool true), t16_1]) fun g t17 => JN (fun (k : Bool → AV → AV → AV → AV → AV → AV → AV → AV → AHeap → Prop) => B3 g (wantV false (some t17)) fun g w => IG3 g w (fun g => B3 g (Op.lenSl [t0]) fun g t21 => B3 g ((Op.bin .sub) [t21, (.int .i64 1)]) fun g t22 => B3 g ((Op.indexSl 3) [t0, t22]) fun g t23 => B3 g ((Op.fieldAddr 0) [t23]) fun g t24 => B3 g (Op.load1 [t24] H1) fun g t25 => B3 g ((Op.bin .neq) [t25, (.int .i64 20)]) fun g t26 => k g t26 t25 t24 t23 t22 t21 t0 t0 H1) (fun g => k g uu uu uu uu uu uu uu uu H1)) (fun g t26_1 t25_1 t24_1 t23_1 t22_1 t21_1 t20_1 t19_1 H2 => B3 g (Op.pick [t17, (.bool true), t26_1]) fun g t27 => IF3 g t27 (fun g => GO3 g (SEQ3 (W M c (qh 10)) Q) .ret ((2, (.bool false))::E) D H2) (fun g => GO3 g (SEQ3 (W M c (qh 10)) Q) .normal E D H2)))) ∧
 (∀ Q E D H, W M c (qh 10) true Q E D H =
  LK true (lk E 0) fun g t0 => B3 g (Op.lenSl [t0]) fun g t29 => B32 g ((Op.mkSlice qjh 1 [(.bool false)]) [t29, t29]) fun g o1 k1 => W M c (qh 14) g Q ((4, (k1 H.next))::(3, .nils)::E) D (H.alloc o1)) ∧
 (∀ Q E D H, W M c (qh 14) true Q E D H =
  LOOP3 (W M c (qh 19)) (BLK3 0 (SEQ3 (W M c (qh 76)) Q)) ((5, (.int .i64 0))::E) D H) ∧
 (∀ Q E D H, W M c (qh 76) true Q E D H =
  LK true (lk E 3) fun g t3 => B3 g (Op.lenSl [t3]) fun g t129 => B3 g ((Op.bin .eql) [t129, (.int .i64 1)]) fun g t130 => GO3 g Q .ret ((2, t130)::E) D H) ∧
 (∀ Q E D H, W M c (qh 19) true Q E D H =
  LK true (lk E 5) fun g t5 => LK g (lk E 0) fun g t0 => B3 g (Op.lenSl [t0]) fun g t33 => B3 g ((Op.bin .lss) [t5, t33]) fun g t34 => IF3 g t34 (fun g => GO3 g (SEQ3 (W M c (qh 25)) Q) .normal E D H) (fun g => GO3 g (SEQ3 (W M c (qh 25)) Q) (.exit 0) E D H)) ∧
 (∀ Q E D H, W M c (qh 25) true Q E D H =
  LK true (lk E 0) fun g t0 => LK g (lk E 5) fun g t5 => B3 g ((Op.indexSl 3) [t0, t5]) fun g t39 => B3 g ((Op.loadN 3) [t39] H) fun g t40 => A3 g qc [(.int .i64 0), (.int .u64 0), .nils] H fun g t6 H1 => B32 g ((Op.store 3) [t6, t40] H1) fun g u H2 => B3 g ((Op.fieldAddr 2) [t6]) fun g t41 => B3 g (Op.load1 [t41] H2) fun g t42 => B3 g (Op.lenSl [t42]) fun g t43 => W M c (qh 31) g (BLK3 1 (SEQ3 (W M c (qh 75)) Q)) ((7, t43)::(6, t6)::E) D H2) ∧
 (∀ Q E D H, W M c (qh 75) true Q E D H =
  LK true (lk E 5) fun g t5 => B3 g ((Op.bin .add) [t5, (.int .i64 1)]) fun g t36 => GO3 g Q .normal ((5, t36)::E) D H) ∧
 (∀ Q E D H, W M c (qh 31) true Q E D H =
  LK true (lk E 6) fun g t6 => B3 g ((Op.fieldAddr 0) [t6]) fun g t44 => B3 g (Op.load1 [t44] H) fun g t45 => C3 M g (.func kz) [t45] H fun g t46 H1 => B3 g ((Op.bin .eql) [t46, (.int .i64 0)]) fun g t47 => JN (fun (k : Bool → AV → AV → AV → AV → AHeap → Prop) => B3 g (wantV false (some t47)) fun g w => IG3 g w (fun g => LK g (lk E 7) fun g t7 => LK g (lk E 3) fun g t3 => B3 g (Op.lenSl [t3]) fun g t51 => B3 g ((Op.bin .gtr) [t7, t51]) fun g t52 => k g t52 t51 t3 t7 H1) (fun g => k g uu uu uu uu H1)) (fun g t52_1 t51_1 t50_1 t49_1 H2 => B3 g (Op.pick [t47, (.bool true), t52_1]) fun g t53 => IF3 g t53 (fun g => GO3 g (SEQ3 (W M c (qh 39)) Q) .ret ((2, (.bool false))::E) D H2) (fun g => GO3 g (SEQ3 (W M c (qh 39)) Q) .normal E D H2))) ∧
 (∀ Q E D H, W M c (qh 39) true Q E D H =
  LOOP3 (W M c (qh 44)) (BLK3 2 (SEQ3 (W M c (qh 62)) Q)) ((8, (.int .i64 0))::E) D H) ∧
 (∀ Q E D H, W M c (qh 62) true Q E D H =
  LK true (lk E 0) fun g t0 => LK g (lk E 6) fun g t6 => B3 g ((Op.loadN 3) [t6] H) fun g t92 => C3 M g (.func zu) [t0, t92] H fun g t93 H1 => W M c (qh 64) g Q ((9, t93)::E) D H1) ∧
 (∀ Q E D H, W M c (qh 44) true Q E D H =
  LK true (lk E 8) fun g t8 => LK g (lk E 7) fun g t7 => B3 g ((Op.bin .lss) [t8, t7]) fun g t56 => IF3 g t56 (fun g => GO3 g (SEQ3 (W M c (qh 50)) Q) .normal E D H) (fun g => GO3 g (SEQ3 (W M c (qh 50)) Q) (.exit 2) E D H)) ∧
 (∀ Q E D H, W M c (qh 64) true Q E D H =
  LK true (lk E 9) fun g t9 => B3 g ((Op.un .not) [t9]) fun g t95 => JN (fun (k : Bool → AV → AV → AV → AV → AHeap → Prop) => B3 g (wantV false (some t95)) fun g w => IG3 g w (fun g => LK g (lk E 6) fun g t6 => B3 g ((Op.fieldAddr 0) [t6]) fun g t97 => B3 g (Op.load1 [t97] H) fun g t98 => B3 g ((Op.bin .eql) [t98, (.int .i64 18)]) fun g t99 => k g t99 t99 t98 t97 H) (fun g => k g uu uu uu uu H)) (fun g t100_1 t99_1 t98_1 t97_1 H1 => JN (fun (k : Bool → AV → AV → AV → AV → AHeap → Prop) => B3 g (wantV true (some t100_1)) fun g w => IG3 g w (fun g => LK g (lk E 4) fun g t4 => LK g (lk E 5) fun g t5 => B3 g ((Op.indexSl 1) [t4, t5]) fun g t103 => B3 g (Op.load1 [t103] H1) fun g t104 => k g t104 t103 t5 t4 H1) (fun g => k g uu uu uu uu H1)) (fun g t104_1 t103_1 t102_1 t101_1 H2 => JN (fun (k : Bool → AV → AHeap → Prop) => B3 g (wantV false (some t95)) fun g w => IG3 g w (fun g => B3 g (Op.pick [t100_1, t104_1, (.bool false)]) fun g t105 => k g t105 H2) (fun g => k g uu H2)) (fun g t105_1 H3 => B3 g (Op.pick [t95, (.bool true), t105_1]) fun g t106 => IF3 g t106 (fun g => GO3 g (SEQ3 (W M c (qh 72)) Q) .ret ((2, (.bool false))::E) D H3) (fun g => GO3 g (SEQ3 (W M c (qh 72)) Q) .normal E D H3))))) ∧
 (∀ Q E D H, W M c (qh 50) true Q E D H =
  LK true (lk E 6) fun g t6 => B3 g ((Op.fieldAddr 2) [t6]) fun g t59 => B3 g (Op.load1 [t59] H) fun g t60 => LK g (lk E 8) fun g t8 => B3 g ((Op.indexSl 1) [t60, t8]) fun g t62 => B3 g (Op.load1 [t62] H) fun g t63 => LK g (lk E 3) fun g t3 => B3 g (Op.lenSl [t3]) fun g t66 => LK g (lk E 7) fun g t7 => B3 g ((Op.bin .sub) [t66, t7]) fun g t68 => B3 g ((Op.bin .add) [t68, t8]) fun g t70 => B3 g ((Op.indexSl 1) [t3, t70]) fun g t71 => B3 g (Op.load1 [t71] H) fun g t72 => B3 g ((Op.bin .neq) [t63, t72]) fun g t73 => IF3 g t73 (fun g => GO3 g (SEQ3 (W M c (qh 60)) (BLK3 3 (SEQ3 (W M c (qh 61)) Q))) .ret ((2, (.bool false))::E) D H) (fun g => GO3 g (SEQ3 (W M c (qh 60)) (BLK3 3 (SEQ3 (W M c (qh 61)) Q))) .normal E D H)) ∧
 (∀ Q E D H, W M c (qh 72) true Q E D H =
  LK true (lk E 4) fun g t4 => LK g (lk E 5) fun g t5 => B3 g ((Op.indexSl 1) [t4, t5]) fun g t111 => B3 g (Op.load1 [t111] H) fun g t112 => JN (fun (k : Bool → AV → AV → AV → AHeap → Prop) => B3 g (wantV false (some t112)) fun g w => IG3 g w (fun g => LK g (lk E 6) fun g t6 => B3 g ((Op.fieldAddr 0) [t6]) fun g t114 => B3 g (Op.load1 [t114] H) fun g t115 => B3 g ((Op.bin .eql) [t115, (.int .i64 18)]) fun g t116 => k g t116 t115 t114 H) (fun g => k g uu uu uu H)) (fun g t116_1 t115_1 t114_1 H1 => B3 g (Op.pick [t112, (.bool true), t116_1]) fun g t117 => B3 g ((Op.indexSl 1) [t4, t5]) fun g t118 => B32 g ((Op.store 1) [t118, t117] H1) fun g u H2 => LK g (lk E 3) fun g t3 => B3 g (Op.lenSl [t3]) fun g t121 => LK g (lk E 7) fun g t7 => B3 g ((Op.bin .sub) [t121, t7]) fun g t123 => B3 g ((Op.sliceSl 1 [none, (some 0), none]) [t3, t123]) fun g t124 => LK g (lk E 5) fun g t5_1 => B32 g ((Op.buildSlice T_int 1 [(.int .i64 0)] [(0, 1)]) [t5_1]) fun g o3 k3 => B32 g ((Op.append T_int 1 8) [t124, (k3 H2.next)] (H2.alloc o3)) fun g t127 H4 => GO3 g Q .normal ((3, t127)::E) D H4)) ∧
 (∀ Q E D H, W M c (qh 61) true Q E D H =
  LK true (lk E 8) fun g t8 => B3 g ((Op.bin .add) [t8, (.int .i64 1)]) fun g t58 => GO3 g Q .normal ((8, t58)::E) D H) ∧
 (∀ Q E D H, W M c (qh 60) true Q E D H =
  LK true (lk E 4) fun g t4 => LK g (lk E 5) fun g t5 => B3 g ((Op.indexSl 1) [t4, t5]) fun g t78 => B3 g (Op.load1 [t78] H) fun g t79 => JN (fun (k : Bool → AV → AV → AV → AV → AV → AV → AV → AV → AHeap → Prop) => B3 g (wantV false (some t79)) fun g w => IG3 g w (fun g => LK g (lk E 6) fun g t6 => B3 g ((Op.fieldAddr 2) [t6]) fun g t82 => B3 g (Op.load1 [t82] H) fun g t83 => LK g (lk E 8) fun g t8 => B3 g ((Op.indexSl 1) [t83, t8]) fun g t85 => B3 g (Op.load1 [t85] H) fun g t86 => B3 g ((Op.indexSl 1) [t4, t86]) fun g t87 => B3 g (Op.load1 [t87] H) fun g t88 => k g t88 t87 t86 t85 t8 t83 t82 t4 H) (fun g => k g uu uu uu uu uu uu uu uu H)) (fun g t88_1 t87_1 t86_1 t85_1 t84_1 t83_1 t82_1 t81_1 H1 => B3 g (Op.pick [t79, (.bool true), t88_1]) fun g t89 => B3 g ((Op.indexSl 1) [t4, t5]) fun g t90 => B32 g ((Op.store 1) [t90, t89] H1) fun g u H2 => GO3 g Q .normal E D H2)) := by (repeat' apply And.intro) <;> (intro _ _ _ _; refine W_unf ?_; kernel_rfl)
theorem qko : (cProg Tryd.prog).func j5 = some qej ∧ qej.results = [.tmp 2] := xd (by kernel_rfl)
theorem qpw {M : Mac} [MK M] : M.func j5 = some qej := MK.at (by decide) qko.1
theorem qsk {M : Mac} [MK M] {a0 : AV} {H : AHeap} {Q : AEnd → AHeap → Prop} (h : W M ⟨none, j5⟩ (qh 0) true (FIN3 M [.tmp 2] Q) [(0, a0)] [] H) : CALLE M j5 [a0] H Q :=
  calle qpw (ks := qks) (by kernel_rfl) (by rw [qko.2]; exact h)
def qdo : AFunc := funcAt Tryd.prog zk
def qip : Kp := ⟨[0, 1, 2, 6, 7, 8, 9, 35], false, [0, 4, 9, 15, 21, 33, 38, 46, 47, 56, 57, 58]⟩
def qt (k : Nat) : Kp × ACode := (qip, part qdo.body k)
theorem qi3 (M : Mac) (c : Ctx) : (∀ Q E D H, W M c (qt 0) true Q E D H =
  W M c (qt 4) true Q ((7, (.str []))::(6, (.str []))::E) D H) ∧
 (∀ Q E D H, W M c (qt 4) true Q E D H =
  LOOP3 (W M c (qt 9)) (BLK3 0 (SEQ3 (W M c (qt 58)) Q)) ((8, (.int .i64 0))::E) D H) ∧
 (∀ Q E D H, W M c (qt 58) true Q E D H =
  LK true (lk E 7) fun g t7 => GO3 g Q .ret ((6, t7)::E) D H) ∧
 (∀ Q E D H, W M c (qt 9) true Q E D H =
  LK true (lk E 8) fun g t8 => LK g (lk E 0) fun g t0 => LK g (lk E 1) fun g t1 => B3 g ((Op.indexSl 3) [t0, t1]) fun g t13 => B3 g ((Op.fieldAddr 2) [t13]) fun g t14 => B3 g (Op.load1 [t14] H) fun g t15 => B3 g (Op.lenSl [t15]) fun g t16 => B3 g ((Op.bin .lss) [t8, t16]) fun g t17 => IF3 g t17 (fun g => GO3 g (SEQ3 (W M c (qt 15)) Q) .normal E D H) (fun g => GO3 g (SEQ3 (W M c (qt 15)) Q) (.exit 0) E D H)) ∧
 (∀ Q E D H, W M c (qt 15) true Q E D H =
  LK true (lk E 0) fun g t0 => LK g (lk E 1) fun g t1 => B3 g ((Op.indexSl 3) [t0, t1]) fun g t23 => B3 g ((Op.fieldAddr 2) [t23]) fun g t24 => B3 g (Op.load1 [t24] H) fun g t25 => LK g (lk E 8) fun g t8 => B3 g ((Op.indexSl 1) [t25, t8]) fun g t27 => B3 g (Op.load1 [t27] H) fun g t28 => B3 g ((Op.indexSl 3) [t0, t28]) fun g t29 => B3 g ((Op.loadN 3) [t29] H) fun g t30 => A3 g qc [(.int .i64 0), (.int .u64 0), .nils] H fun g t9 H1 => B32 g ((Op.store 3) [t9, t30] H1) fun g u H2 => LK g (lk E 7) fun g t7 => LK g (lk E 2) fun g t2 => B3 g ((Op.bin .add) [t7, t2]) fun g t33 => W M c (qt 21) g (BLK3 1 (SEQ3 (W M c (qt 57)) Q)) ((7, t33)::(9, t9)::E) D H2) ∧
 (∀ Q E D H, W M c (qt 57) true Q E D H =
  LK true (lk E 8) fun g t8 => B3 g ((Op.bin .add) [t8, (.int .i64 1)]) fun g t19 => GO3 g Q .normal ((8, t19)::E) D H) ∧
 (∀ Q E D H, W M c (qt 21) true Q E D H =
  LK true (lk E 9) fun g t9 => B3 g ((Op.fieldAddr 0) [t9]) fun g t34 => B3 g (Op.load1 [t34] H) fun g t35 => B3 g ((Op.bin .eql) [t35, (.int .i64 14)]) fun g t37 => IF3 g t37 (fun g => LK g (lk E 7) fun g t7 => LK g (lk E 9) fun g t9_1 => B3 g ((Op.fieldAddr 1) [t9_1]) fun g t39 => B3 g (Op.load1 [t39] H) fun g t40 => LK g (lk E 0) fun g t0 => B3 g ((Op.fieldAddr 2) [t9_1]) fun g t45 => B3 g (Op.load1 [t45] H) fun g t46 => B3 g ((Op.indexSl 1) [t46, (.int .i64 0)]) fun g t47 => B3 g (Op.load1 [t47] H) fun g t48 => C3 M g (.func kc) [t40] H fun g t41 H1 => CK3 g (Op.load1 [t45] H1) (some t46) fun g => CK3 g (Op.load1 [t47] H1) (some t48) fun g => B3 g ((Op.bin .add) [t7, t41]) fun g t42 => B3 g ((Op.bin .add) [t42, (.str [32, 61, 32])]) fun g t43 => C3 M g (.func zr) [t0, t48, (.int .i64 0)] H1 fun g t49 H2 => B3 g ((Op.bin .add) [t43, t49]) fun g t50 => B3 g ((Op.bin .add) [t50, (.str [59])]) fun g t51 => GO3 g (BLK3 2 (SEQ3 (W M c (qt 56)) Q)) .normal ((7, t51)::(35, t35)::E) D H2) (fun g => B3 g ((Op.bin .eql) [t35, (.int .i64 15)]) fun g t53 => IF3 g t53 (fun g => LK g (lk E 7) fun g t7 => B3 g ((Op.bin .add) [t7, (.str [115, 116, 111, 114, 101, 40])]) fun g t55 => LK g (lk E 0) fun g t0 => LK g (lk E 9) fun g t9_1 => B3 g ((Op.fieldAddr 2) [t9_1]) fun g t57 => B3 g (Op.load1 [t57] H) fun g t58 => B3 g ((Op.indexSl 1) [t58, (.int .i64 0)]) fun g t59 => B3 g (Op.load1 [t59] H) fun g t60 => B3 g ((Op.fieldAddr 2) [t9_1]) fun g t65 => B3 g (Op.load1 [t65] H) fun g t66 => B3 g ((Op.indexSl 1) [t66, (.int .i64 1)]) fun g t67 => B3 g (Op.load1 [t67] H) fun g t68 => C3 M g (.func zr) [t0, t60, (.int .i64 0)] H fun g t61 H1 => CK3 g (Op.load1 [t65] H1) (some t66) fun g => CK3 g (Op.load1 [t67] H1) (some t68) fun g => B3 g ((Op.bin .add) [t55, t61]) fun g t62 => B3 g ((Op.bin .add) [t62, (.str [44, 32])]) fun g t63 => C3 M g (.func zr) [t0, t68, (.int .i64 0)] H1 fun g t69 H2 => B3 g ((Op.bin .add) [t63, t69]) fun g t70 => B3 g ((Op.bin .add) [t70, (.str [41, 59])]) fun g t71 => GO3 g (BLK3 2 (SEQ3 (W M c (qt 56)) Q)) .normal ((7, t71)::(35, t35)::E) D H2) (fun g => W M c (qt 33) g (BLK3 2 (SEQ3 (W M c (qt 56)) Q)) ((35, t35)::E) D H))) ∧
 (∀ Q E D H, W M c (qt 56) true Q E D H =
  LK true (lk E 7) fun g t7 => B3 g ((Op.bin .add) [t7, (.str [10])]) fun g t159 => GO3 g Q .normal ((7, t159)::E) D H) ∧
 (∀ Q E D H, W M c (qt 33) true Q E D H =
  LK true (lk E 35) fun g t35 => B3 g ((Op.bin .eql) [t35, (.int .i64 16)]) fun g t73 => IF3 g t73 (fun g => LK g (lk E 7) fun g t7 => B3 g ((Op.bin .add) [t7, (.str [105, 102, 32, 40])]) fun g t75 => LK g (lk E 0) fun g t0 => LK g (lk E 9) fun g t9 => B3 g ((Op.fieldAddr 2) [t9]) fun g t77 => B3 g (Op.load1 [t77] H) fun g t78 => B3 g ((Op.indexSl 1) [t78, (.int .i64 0)]) fun g t79 => B3 g (Op.load1 [t79] H) fun g t80 => B3 g ((Op.fieldAddr 2) [t9]) fun g t85 => B3 g (Op.load1 [t85] H) fun g t86 => B3 g ((Op.indexSl 1) [t86, (.int .i64 1)]) fun g t87 => B3 g (Op.load1 [t87] H) fun g t88 => LK g (lk E 2) fun g t2 => B3 g ((Op.bin .add) [t2, (.str [32, 32])]) fun g t90 => C3 M g (.func ym) [t0, t80] H fun g t81 H1 => CK3 g (Op.load1 [t85] H1) (some t86) fun g => CK3 g (Op.load1 [t87] H1) (some t88) fun g => B3 g ((Op.bin .add) [t75, t81]) fun g t82 => B3 g ((Op.bin .add) [t82, (.str [41, 32, 123, 10])]) fun g t83 => C3 M g (.func zk) [t0, t88, t90] H1 fun g t91 H2 => B3 g ((Op.bin .add) [t83, t91]) fun g t92 => B3 g ((Op.bin .add) [t92, t2]) fun g t94 => B3 g ((Op.bin .add) [t94, (.str [125])]) fun g t95 => W M c (qt 38) g Q ((7, t95)::E) D H2) (fun g => LK g (lk E 35) fun g t35_1 => B3 g ((Op.bin .eql) [t35_1, (.int .i64 17)]) fun g t115 => IF3 g t115 (fun g => W M c (qt 46) g Q E D H) (fun g => W M c (qt 47) g Q E D H))) ∧
 (∀ Q E D H, W M c (qt 38) true Q E D H =
  LK true (lk E 9) fun g t9 => B3 g ((Op.fieldAddr 2) [t9]) fun g t96 => B3 g (Op.load1 [t96] H) fun g t97 => B3 g (Op.lenSl [t97]) fun g t98 => B3 g ((Op.bin .eql) [t98, (.int .i64 3)]) fun g t99 => IF3 g t99 (fun g => LK g (lk E 7) fun g t7 => B3 g ((Op.bin .add) [t7, (.str [32, 101, 108, 115, 101, 32, 123, 10])]) fun g t101 => LK g (lk E 0) fun g t0 => LK g (lk E 9) fun g t9_1 => B3 g ((Op.fieldAddr 2) [t9_1]) fun g t103 => B3 g (Op.load1 [t103] H) fun g t104 => B3 g ((Op.indexSl 1) [t104, (.int .i64 2)]) fun g t105 => B3 g (Op.load1 [t105] H) fun g t106 => LK g (lk E 2) fun g t2 => B3 g ((Op.bin .add) [t2, (.str [32, 32])]) fun g t108 => C3 M g (.func zk) [t0, t106, t108] H fun g t109 H1 => B3 g ((Op.bin .add) [t101, t109]) fun g t110 => B3 g ((Op.bin .add) [t110, t2]) fun g t112 => B3 g ((Op.bin .add) [t112, (.str [125])]) fun g t113 => GO3 g Q .normal ((7, t113)::E) D H1) (fun g => GO3 g Q .normal E D H)) ∧
 (∀ Q E D H, W M c (qt 46) true Q E D H =
  LK true (lk E 7) fun g t7 => B3 g ((Op.bin .add) [t7, (.str [119, 104, 105, 108, 101, 32, 40])]) fun g t117 => LK g (lk E 0) fun g t0 => LK g (lk E 9) fun g t9 => B3 g ((Op.fieldAddr 2) [t9]) fun g t119 => B3 g (Op.load1 [t119] H) fun g t120 => B3 g ((Op.indexSl 1) [t120, (.int .i64 0)]) fun g t121 => B3 g (Op.load1 [t121] H) fun g t122 => B3 g ((Op.fieldAddr 2) [t9]) fun g t127 => B3 g (Op.load1 [t127] H) fun g t128 => B3 g ((Op.indexSl 1) [t128, (.int .i64 1)]) fun g t129 => B3 g (Op.load1 [t129] H) fun g t130 => LK g (lk E 2) fun g t2 => B3 g ((Op.bin .add) [t2, (.str [32, 32])]) fun g t132 => C3 M g (.func ym) [t0, t122] H fun g t123 H1 => CK3 g (Op.load1 [t127] H1) (some t128) fun g => CK3 g (Op.load1 [t129] H1) (some t130) fun g => B3 g ((Op.bin .add) [t117, t123]) fun g t124 => B3 g ((Op.bin .add) [t124, (.str [41, 32, 123, 10])]) fun g t125 => C3 M g (.func zk) [t0, t130, t132] H1 fun g t133 H2 => B3 g ((Op.bin .add) [t125, t133]) fun g t134 => B3 g ((Op.bin .add) [t134, t2]) fun g t136 => B3 g ((Op.bin .add) [t136, (.str [125])]) fun g t137 => GO3 g Q .normal ((7, t137)::E) D H2) ∧
 (∀ Q E D H, W M c (qt 47) true Q E D H =
  LK true (lk E 35) fun g t35 => B3 g ((Op.bin .eql) [t35, (.int .i64 18)]) fun g t139 => IF3 g t139 (fun g => LK g (lk E 7) fun g t7 => B3 g ((Op.bin .add) [t7, (.str [97, 116, 111, 109, 105, 99, 32, 123, 10])]) fun g t141 => LK g (lk E 0) fun g t0 => LK g (lk E 9) fun g t9 => B3 g ((Op.fieldAddr 2) [t9]) fun g t143 => B3 g (Op.load1 [t143] H) fun g t144 => B3 g ((Op.indexSl 1) [t144, (.int .i64 0)]) fun g t145 => B3 g (Op.load1 [t145] H) fun g t146 => LK g (lk E 2) fun g t2 => B3 g ((Op.bin .add) [t2, (.str [32, 32])]) fun g t148 => C3 M g (.func zk) [t0, t146, t148] H fun g t149 H1 => B3 g ((Op.bin .add) [t141, t149]) fun g t150 => B3 g ((Op.bin .add) [t150, t2]) fun g t152 => B3 g ((Op.bin .add) [t152, (.str [125])]) fun g t153 => GO3 g Q .normal ((7, t153)::E) D H1) (fun g => LK g (lk E 35) fun g t35_1 => B3 g ((Op.bin .eql) [t35_1, (.int .i64 19)]) fun g t155 => IF3 g t155 (fun g => LK g (lk E 7) fun g t7 => B3 g ((Op.bin .add) [t7, (.str [104, 97, 108, 116, 59])]) fun g t157 => GO3 g Q .normal ((7, t157)::E) D H) (fun g => GO3 g Q .normal E D H))) := by (repeat' apply And.intro) <;> (intro _ _ _ _; refine W_unf ?_; kernel_rfl)
theorem qjm : (cProg Tryd.prog).func zk = some qdo ∧ qdo.results = [.tmp 6] := xd (by kernel_rfl)
theorem qoa {M : Mac} [MK M] : M.func zk = some qdo := MK.at (by decide) qjm.1
theorem qp9 {M : Mac} [MK M] {a0 a1 a2 : AV} {H : AHeap} {Q : AEnd → AHeap → Prop} (h : W M ⟨none, zk⟩ (qt 0) true (FIN3 M [.tmp 6] Q) [(0, a0), (1, a1), (2, a2)] [] H) : CALLE M zk [a0, a1, a2] H Q :=
  calle qoa (ks := qip) (by kernel_rfl) (by rw [qjm.2]; exact h)
def qb5 : AFunc := funcAt Tryd.prog kz
def qg8 : Kp := ⟨[0, 2], false, [0, 2, 10, 18, 26, 34]⟩
def x6 (k : Nat) : Kp × ACode := (qg8, part qb5.body k)
theorem wb (M : Mac) (c : Ctx) : (∀ Q E D H, W M c (x6 0) true Q E D H =
  W M c (x6 2) true Q ((2, (.int .i64 0))::E) D H) ∧
 (∀ Q E D H, W M c (x6 2) true Q E D H =
  LK true (lk E 0) fun g t0 => B3 g ((Op.bin .lss) [t0, (.int .i64 1)]) fun g t4 => JN (fun (k : Bool → AV → AV → AHeap → Prop) => B3 g (wantV false (some t4)) fun g w => IG3 g w (fun g => B3 g ((Op.bin .gtr) [t0, (.int .i64 20)]) fun g t7 => k g t7 t0 H) (fun g => k g uu uu H)) (fun g t7_1 t6_1 H1 => B3 g (Op.pick [t4, (.bool true), t7_1]) fun g t8 => IF3 g t8 (fun g => GO3 g (SEQ3 (W M c (x6 10)) Q) .ret ((2, (.int .i64 0))::E) D H1) (fun g => GO3 g (SEQ3 (W M c (x6 10)) Q) .normal E D H1))) ∧
 (∀ Q E D H, W M c (x6 10) true Q E D H =
  LK true (lk E 0) fun g t0 => B3 g ((Op.bin .leq) [t0, (.int .i64 10)]) fun g t10 => IF3 g t10 (fun g => GO3 g (SEQ3 (W M c (x6 18)) Q) .ret ((2, (.int .i64 1))::E) D H) (fun g => GO3 g (SEQ3 (W M c (x6 18)) Q) .normal E D H)) ∧
 (∀ Q E D H, W M c (x6 18) true Q E D H =
  LK true (lk E 0) fun g t0 => B3 g ((Op.bin .leq) [t0, (.int .i64 13)]) fun g t12 => IF3 g t12 (fun g => GO3 g (SEQ3 (W M c (x6 26)) Q) .ret ((2, (.int .i64 2))::E) D H) (fun g => GO3 g (SEQ3 (W M c (x6 26)) Q) .normal E D H)) ∧
 (∀ Q E D H, W M c (x6 26) true Q E D H =
  LK true (lk E 0) fun g t0 => B3 g ((Op.bin .leq) [t0, (.int .i64 19)]) fun g t14 => IF3 g t14 (fun g => GO3 g (SEQ3 (W M c (x6 34)) Q) .ret ((2, (.int .i64 3))::E) D H) (fun g => GO3 g (SEQ3 (W M c (x6 34)) Q) .normal E D H)) ∧
 (∀ Q E D H, W M c (x6 34) true Q E D H =
  GO3 true Q .ret ((2, (.int .i64 4))::E) D H) := by (repeat' apply And.intro) <;> (intro _ _ _ _; refine W_unf ?_; kernel_rfl)
theorem qhe : (cProg Tryd.prog).func kz = some qb5 ∧ qb5.results = [.tmp 2] := xd (by kernel_rfl)
theorem qmc {M : Mac} [MK M] : M.func kz = some qb5 := MK.at (by decide) qhe.1
theorem qnt {M : Mac} [MK M] {a0 : AV} {H : AHeap} {Q : AEnd → AHeap → Prop} (h : W M ⟨none, kz⟩ (x6 0) true (FIN3 M [.tmp 2] Q) [(0, a0)] [] H) : CALLE M kz [a0] H Q :=
  calle qmc (ks := qg8) (by kernel_rfl) (by rw [qhe.2]; exact h)
def qc8 : AFunc := funcAt Tryd.prog zu
def qix : Kp := ⟨[0, 1, 3, 4, 5, 6, 7, 8, 9], false, [0, 4, 12, 14, 20, 26, 32, 40, 45, 51, 57, 63, 69, 75, 81, 88, 89]⟩
def qe (k : Nat) : Kp × ACode := (qix, part qc8.body k)
theorem qjd (M : Mac) (c : Ctx) : (∀ Q E D H, W M c (qe 0) true Q E D H =
  LK true (lk E 1) fun g t1 => A3 g qc (AV.cells t1) H fun g t3 H1 => B3 g ((Op.fieldAddr 0) [t3]) fun g t10 => B3 g (Op.load1 [t10] H1) fun g t11 => B3 g ((Op.bin .eql) [t11, (.int .i64 2)]) fun g t12 => JN (fun (k : Bool → AV → AV → AV → AHeap → Prop) => B3 g (wantV false (some t12)) fun g w => IG3 g w (fun g => B3 g ((Op.fieldAddr 0) [t3]) fun g t14 => B3 g (Op.load1 [t14] H1) fun g t15 => B3 g ((Op.bin .eql) [t15, (.int .i64 14)]) fun g t16 => k g t16 t15 t14 H1) (fun g => k g uu uu uu H1)) (fun g t16_1 t15_1 t14_1 H2 => B3 g (Op.pick [t12, (.bool true), t16_1]) fun g t17 => W M c (qe 4) g Q ((5, t17)::(4, (.bool false))::(3, t3)::E) D H2)) ∧
 (∀ Q E D H, W M c (qe 4) true Q E D H =
  LK true (lk E 5) fun g t5 => JN (fun (k : Bool → AV → AV → AV → AHeap → Prop) => B3 g (wantV true (some t5)) fun g w => IG3 g w (fun g => LK g (lk E 3) fun g t3 => B3 g ((Op.fieldAddr 1) [t3]) fun g t20 => B3 g (Op.load1 [t20] H) fun g t21 => B3 g ((Op.bin .gtr) [t21, (.int .u64 7)]) fun g t22 => k g t22 t21 t20 H) (fun g => k g uu uu uu H)) (fun g t22_1 t21_1 t20_1 H1 => B3 g (Op.pick [t5, t22_1, (.bool false)]) fun g t23 => JN (fun (k : Bool → AV → AV → AV → AHeap → Prop) => B3 g (wantV false (some t23)) fun g w => IG3 g w (fun g => B3 g ((Op.un .not) [t5]) fun g t26 => k g t26 t26 t5 H1) (fun g => k g uu uu uu H1)) (fun g t27_1 t26_1 t25_1 H2 => JN (fun (k : Bool → AV → AV → AV → AHeap → Prop) => B3 g (wantV true (some t27_1)) fun g w => IG3 g w (fun g => LK g (lk E 3) fun g t3_1 => B3 g ((Op.fieldAddr 0) [t3_1]) fun g t28 => B3 g (Op.load1 [t28] H2) fun g t29 => B3 g ((Op.bin .neq) [t29, (.int .i64 1)]) fun g t30 => k g t30 t29 t28 H2) (fun g => k g uu uu uu H2)) (fun g t30_1 t29_1 t28_1 H3 => JN (fun (k : Bool → AV → AV → AHeap → Prop) => B3 g (wantV false (some t23)) fun g w => IG3 g w (fun g => B3 g (Op.pick [t27_1, t30_1, (.bool false)]) fun g t31 => k g t31 t31 H3) (fun g => k g uu uu H3)) (fun g t32_1 t31_1 H4 => JN (fun (k : Bool → AV → AV → AV → AHeap → Prop) => B3 g (wantV true (some t32_1)) fun g w => IG3 g w (fun g => LK g (lk E 3) fun g t3_2 => B3 g ((Op.fieldAddr 1) [t3_2]) fun g t33 => B3 g (Op.load1 [t33] H4) fun g t34 => B3 g ((Op.bin .neq) [t34, (.int .u64 0)]) fun g t35 => k g t35 t34 t33 H4) (fun g => k g uu uu uu H4)) (fun g t35_1 t34_1 t33_1 H5 => JN (fun (k : Bool → AV → AHeap → Prop) => B3 g (wantV false (some t23)) fun g w => IG3 g w (fun g => B3 g (Op.pick [t32_1, t35_1, (.bool false)]) fun g t36 => k g t36 H5) (fun g => k g uu H5)) (fun g t36_1 H6 => B3 g (Op.pick [t23, (.bool true), t36_1]) fun g t37 => IF3 g t37 (fun g => GO3 g (SEQ3 (W M c (qe 12)) Q) .ret ((4, (.bool false))::E) D H6) (fun g => GO3 g (SEQ3 (W M c (qe 12)) Q) .normal E D H6)))))))) ∧
 (∀ Q E D H, W M c (qe 12) true Q E D H =
  W M c (qe 14) true Q ((6, (.int .i64 2))::E) D H) ∧
 (∀ Q E D H, W M c (qe 14) true Q E D H =
  LK true (lk E 3) fun g t3 => B3 g ((Op.fieldAddr 0) [t3]) fun g t38 => B3 g (Op.load1 [t38] H) fun g t39 => B3 g ((Op.bin .leq) [t39, (.int .i64 2)]) fun g t40 => JN (fun (k : Bool → AV → AV → AV → AHeap → Prop) => B3 g (wantV false (some t40)) fun g w => IG3 g w (fun g => B3 g ((Op.fieldAddr 0) [t3]) fun g t42 => B3 g (Op.load1 [t42] H) fun g t43 => B3 g ((Op.bin .eql) [t43, (.int .i64 19)]) fun g t44 => k g t44 t43 t42 H) (fun g => k g uu uu uu H)) (fun g t44_1 t43_1 t42_1 H1 => B3 g (Op.pick [t40, (.bool true), t44_1]) fun g t45 => IF3 g t45 (fun g => GO3 g (SEQ3 (W M c (qe 20)) Q) .normal ((6, (.int .i64 0))::E) D H1) (fun g => GO3 g (SEQ3 (W M c (qe 20)) Q) .normal E D H1))) ∧
 (∀ Q E D H, W M c (qe 20) true Q E D H =
  LK true (lk E 3) fun g t3 => B3 g ((Op.fieldAddr 0) [t3]) fun g t46 => B3 g (Op.load1 [t46] H) fun g t47 => B3 g ((Op.bin .eql) [t47, (.int .i64 3)]) fun g t48 => JN (fun (k : Bool → AV → AV → AV → AHeap → Prop) => B3 g (wantV false (some t48)) fun g w => IG3 g w (fun g => B3 g ((Op.fieldAddr 0) [t3]) fun g t50 => B3 g (Op.load1 [t50] H) fun g t51 => B3 g ((Op.bin .eql) [t51, (.int .i64 14)]) fun g t52 => k g t52 t51 t50 H) (fun g => k g uu uu uu H)) (fun g t52_1 t51_1 t50_1 H1 => B3 g (Op.pick [t48, (.bool true), t52_1]) fun g t53 => JN (fun (k : Bool → AV → AV → AV → AHeap → Prop) => B3 g (wantV false (some t53)) fun g w => IG3 g w (fun g => B3 g ((Op.fieldAddr 0) [t3]) fun g t55 => B3 g (Op.load1 [t55] H1) fun g t56 => B3 g ((Op.bin .eql) [t56, (.int .i64 18)]) fun g t57 => k g t57 t56 t55 H1) (fun g => k g uu uu uu H1)) (fun g t57_1 t56_1 t55_1 H2 => B3 g (Op.pick [t53, (.bool true), t57_1]) fun g t58 => IF3 g t58 (fun g => GO3 g (SEQ3 (W M c (qe 26)) Q) .normal ((6, (.int .i64 1))::E) D H2) (fun g => GO3 g (SEQ3 (W M c (qe 26)) Q) .normal E D H2)))) ∧
 (∀ Q E D H, W M c (qe 26) true Q E D H =
  LK true (lk E 3) fun g t3 => B3 g ((Op.fieldAddr 0) [t3]) fun g t59 => B3 g (Op.load1 [t59] H) fun g t60 => B3 g ((Op.bin .eql) [t60, (.int .i64 16)]) fun g t61 => JN (fun (k : Bool → AV → AV → AV → AV → AHeap → Prop) => B3 g (wantV true (some t61)) fun g w => IG3 g w (fun g => B3 g ((Op.fieldAddr 2) [t3]) fun g t63 => B3 g (Op.load1 [t63] H) fun g t64 => B3 g (Op.lenSl [t64]) fun g t65 => B3 g ((Op.bin .eql) [t65, (.int .i64 3)]) fun g t66 => k g t66 t65 t64 t63 H) (fun g => k g uu uu uu uu H)) (fun g t66_1 t65_1 t64_1 t63_1 H1 => B3 g (Op.pick [t61, t66_1, (.bool false)]) fun g t67 => IF3 g t67 (fun g => GO3 g (SEQ3 (W M c (qe 32)) Q) .normal ((6, (.int .i64 3))::E) D H1) (fun g => GO3 g (SEQ3 (W M c (qe 32)) Q) .normal E D H1))) ∧
 (∀ Q E D H, W M c (qe 32) true Q E D H =
  LK true (lk E 3) fun g t3 => B3 g ((Op.fieldAddr 0) [t3]) fun g t68 => B3 g (Op.load1 [t68] H) fun g t69 => B3 g ((Op.bin .neq) [t69, (.int .i64 20)]) fun g t70 => JN (fun (k : Bool → AV → AV → AV → AV → AV → AHeap → Prop) => B3 g (wantV true (some t70)) fun g w => IG3 g w (fun g => B3 g ((Op.fieldAddr 2) [t3]) fun g t72 => B3 g (Op.load1 [t72] H) fun g t73 => B3 g (Op.lenSl [t73]) fun g t74 => LK g (lk E 6) fun g t6 => B3 g ((Op.bin .neq) [t74, t6]) fun g t76 => k g t76 t6 t74 t73 t72 H) (fun g => k g uu uu uu uu uu H)) (fun g t76_1 t75_1 t74_1 t73_1 t72_1 H1 => B3 g (Op.pick [t70, t76_1, (.bool false)]) fun g t77 => IF3 g t77 (fun g => GO3 g (SEQ3 (W M c (qe 40)) Q) .ret ((4, (.bool false))::E) D H1) (fun g => GO3 g (SEQ3 (W M c (qe 40)) Q) .normal E D H1))) ∧
 (∀ Q E D H, W M c (qe 40) true Q E D H =
  LOOP3 (W M c (qe 45)) (BLK3 0 (SEQ3 (W M c (qe 89)) Q)) ((7, (.int .i64 0))::E) D H) ∧
 (∀ Q E D H, W M c (qe 89) true Q E D H =
  GO3 true Q .ret ((4, (.bool true))::E) D H) ∧
 (∀ Q E D H, W M c (qe 45) true Q E D H =
  LK true (lk E 7) fun g t7 => LK g (lk E 3) fun g t3 => B3 g ((Op.fieldAddr 2) [t3]) fun g t79 => B3 g (Op.load1 [t79] H) fun g t80 => B3 g (Op.lenSl [t80]) fun g t81 => B3 g ((Op.bin .lss) [t7, t81]) fun g t82 => IF3 g t82 (fun g => GO3 g (SEQ3 (W M c (qe 51)) Q) .normal E D H) (fun g => GO3 g (SEQ3 (W M c (qe 51)) Q) (.exit 0) E D H)) ∧
 (∀ Q E D H, W M c (qe 51) true Q E D H =
  LK true (lk E 0) fun g t0 => LK g (lk E 3) fun g t3 => B3 g ((Op.fieldAddr 2) [t3]) fun g t86 => B3 g (Op.load1 [t86] H) fun g t87 => LK g (lk E 7) fun g t7 => B3 g ((Op.indexSl 1) [t87, t7]) fun g t89 => B3 g (Op.load1 [t89] H) fun g t90 => B3 g ((Op.indexSl 3) [t0, t90]) fun g t91 => B3 g ((Op.fieldAddr 0) [t91]) fun g t92 => B3 g (Op.load1 [t92] H) fun g t93 => C3 M g (.func kz) [t93] H fun g t94 H1 => W M c (qe 57) g (BLK3 1 (SEQ3 (W M c (qe 88)) Q)) ((9, (.int .i64 1))::(8, t94)::E) D H1) ∧
 (∀ Q E D H, W M c (qe 88) true Q E D H =
  LK true (lk E 7) fun g t7 => B3 g ((Op.bin .add) [t7, (.int .i64 1)]) fun g t84 => GO3 g Q .normal ((7, t84)::E) D H) ∧
 (∀ Q E D H, W M c (qe 57) true Q E D H =
  LK true (lk E 3) fun g t3 => B3 g ((Op.fieldAddr 0) [t3]) fun g t95 => B3 g (Op.load1 [t95] H) fun g t96 => B3 g ((Op.bin .eql) [t96, (.int .i64 16)]) fun g t97 => JN (fun (k : Bool → AV → AV → AV → AHeap → Prop) => B3 g (wantV false (some t97)) fun g w => IG3 g w (fun g => B3 g ((Op.fieldAddr 0) [t3]) fun g t99 => B3 g (Op.load1 [t99] H) fun g t100 => B3 g ((Op.bin .eql) [t100, (.int .i64 17)]) fun g t101 => k g t101 t100 t99 H) (fun g => k g uu uu uu H)) (fun g t101_1 t100_1 t99_1 H1 => B3 g (Op.pick [t97, (.bool true), t101_1]) fun g t102 => IF3 g t102 (fun g => W M c (qe 63) g (SEQ3 (W M c (qe 69)) Q) ((9, (.int .i64 4))::E) D H1) (fun g => GO3 g (SEQ3 (W M c (qe 69)) Q) .normal E D H1))) ∧
 (∀ Q E D H, W M c (qe 69) true Q E D H =
  LK true (lk E 3) fun g t3 => B3 g ((Op.fieldAddr 0) [t3]) fun g t105 => B3 g (Op.load1 [t105] H) fun g t106 => B3 g ((Op.bin .eql) [t106, (.int .i64 18)]) fun g t107 => IF3 g t107 (fun g => GO3 g (SEQ3 (W M c (qe 75)) Q) .normal ((9, (.int .i64 4))::E) D H) (fun g => GO3 g (SEQ3 (W M c (qe 75)) Q) .normal E D H)) ∧
 (∀ Q E D H, W M c (qe 63) true Q E D H =
  LK true (lk E 7) fun g t7 => B3 g ((Op.bin .eql) [t7, (.int .i64 0)]) fun g t104 => IF3 g t104 (fun g => GO3 g Q .normal ((9, (.int .i64 2))::E) D H) (fun g => GO3 g Q .normal E D H)) ∧
 (∀ Q E D H, W M c (qe 75) true Q E D H =
  LK true (lk E 3) fun g t3 => B3 g ((Op.fieldAddr 0) [t3]) fun g t108 => B3 g (Op.load1 [t108] H) fun g t109 => B3 g ((Op.bin .eql) [t109, (.int .i64 20)]) fun g t110 => IF3 g t110 (fun g => GO3 g (SEQ3 (W M c (qe 81)) Q) .normal ((9, (.int .i64 3))::E) D H) (fun g => GO3 g (SEQ3 (W M c (qe 81)) Q) .normal E D H)) ∧
 (∀ Q E D H, W M c (qe 81) true Q E D H =
  LK true (lk E 8) fun g t8 => LK g (lk E 9) fun g t9 => B3 g ((Op.bin .neq) [t8, t9]) fun g t113 => IF3 g t113 (fun g => GO3 g Q .ret ((4, (.bool false))::E) D H) (fun g => GO3 g Q .normal E D H)) := by (repeat' apply And.intro) <;> (intro _ _ _ _; refine W_unf ?_; kernel_rfl)
theorem qiv : (cProg Tryd.prog).func zu = some qc8 ∧ qc8.results = [.tmp 4] := xd (by kernel_rfl)
theorem qo7 {M : Mac} [MK M] : M.func zu = some qc8 := MK.at (by decide) qiv.1
theorem qqg {M : Mac} [MK M] {a0 a1 : AV} {H : AHeap} {Q : AEnd → AHeap → Prop} (h : W M ⟨none, zu⟩ (qe 0) true (FIN3 M [.tmp 4] Q) [(0, a0), (1, a1)] [] H) : CALLE M zu [a0, a1] H Q :=
  calle qo7 (ks := qix) (by kernel_rfl) (by rw [qiv.2]; exact h)
def qa4 : AFunc := funcAt Tryd.prog kc
def qf5 : Kp := ⟨[0, 2], false, [0]⟩
def qf3 (k : Nat) : Kp × ACode := (qf5, part qa4.body k)
theorem ql6 (M : Mac) (c : Ctx) : (∀ Q E D H, W M c (qf3 0) true Q E D H =
  LK true (lk E 0) fun g t0 => B3 g ((Op.bin .add) [(.int .u64 97), t0]) fun g t4 => B3 g ((Op.wrap .u8) [t4]) fun g t5 => B32 g ((Op.buildSlice j4 1 [(.int .u8 0)] [(0, 1)]) [t5]) fun g o1 k1 => B3 g (Op.strOfBytes [(k1 H.next)] (H.alloc o1)) fun g t7 => GO3 g Q .ret ((2, t7)::(2, (.str []))::E) D (H.alloc o1)) := by intro _ _ _ _; refine W_unf ?_; kernel_rfl
theorem qf6 : (cProg Tryd.prog).func kc = some qa4 ∧ qa4.results = [.tmp 2] := xd (by kernel_rfl)
theorem qku {M : Mac} [MK M] : M.func kc = some qa4 := MK.at (by decide) qf6.1
theorem qmj {M : Mac} [MK M] {a0 : AV} {H : AHeap} {Q : AEnd → AHeap → Prop} (h : W M ⟨none, kc⟩ (qf3 0) true (FIN3 M [.tmp 2] Q) [(0, a0)] [] H) : CALLE M kc [a0] H Q :=
  calle qku (ks := qf5) (by kernel_rfl) (by rw [qf6.2]; exact h)
def qcy : AFunc := funcAt Tryd.prog zr
def qi4 : Kp := ⟨[0, 1, 2, 6, 7, 8, 9, 10, 11], false, [0, 4, 12, 20, 28, 32, 34, 42]⟩
def xw (k : Nat) : Kp × ACode := (qi4, part qcy.body k)
theorem jw (M : Mac) (c : Ctx) : (∀ Q E D H, W M c (xw 0) true Q E D H =
  LK true (lk E 0) fun g t0 => LK g (lk E 1) fun g t1 => B3 g ((Op.indexSl 3) [t0, t1]) fun g t14 => B3 g ((Op.loadN 3) [t14] H) fun g t15 => A3 g qc [(.int .i64 0), (.int .u64 0), .nils] H fun g t7 H1 => B32 g ((Op.store 3) [t7, t15] H1) fun g u H2 => W M c (xw 4) g Q ((7, t7)::(6, (.str []))::E) D H2) ∧
 (∀ Q E D H, W M c (xw 4) true Q E D H =
  LK true (lk E 7) fun g t7 => B3 g ((Op.fieldAddr 0) [t7]) fun g t16 => B3 g (Op.load1 [t16] H) fun g t17 => B3 g ((Op.bin .eql) [t17, (.int .i64 1)]) fun g t18 => IF3 g t18 (fun g => LK g (lk E 7) fun g t7_1 => B3 g ((Op.fieldAddr 1) [t7_1]) fun g t19 => B3 g (Op.load1 [t19] H) fun g t20 => C3 M g (.func ke) [t20] H fun g t21 H1 => GO3 g (SEQ3 (W M c (xw 12)) Q) .ret ((6, t21)::E) D H1) (fun g => GO3 g (SEQ3 (W M c (xw 12)) Q) .normal E D H)) ∧
 (∀ Q E D H, W M c (xw 12) true Q E D H =
  LK true (lk E 7) fun g t7 => B3 g ((Op.fieldAddr 0) [t7]) fun g t22 => B3 g (Op.load1 [t22] H) fun g t23 => B3 g ((Op.bin .eql) [t23, (.int .i64 2)]) fun g t24 => IF3 g t24 (fun g => LK g (lk E 7) fun g t7_1 => B3 g ((Op.fieldAddr 1) [t7_1]) fun g t25 => B3 g (Op.load1 [t25] H) fun g t26 => C3 M g (.func kc) [t26] H fun g t27 H1 => GO3 g (SEQ3 (W M c (xw 20)) Q) .ret ((6, t27)::E) D H1) (fun g => GO3 g (SEQ3 (W M c (xw 20)) Q) .normal E D H)) ∧
 (∀ Q E D H, W M c (xw 20) true Q E D H =
  LK true (lk E 7) fun g t7 => B3 g ((Op.fieldAddr 0) [t7]) fun g t28 => B3 g (Op.load1 [t28] H) fun g t29 => B3 g ((Op.bin .eql) [t29, (.int .i64 3)]) fun g t30 => IF3 g t30 (fun g => LK g (lk E 0) fun g t0 => LK g (lk E 7) fun g t7_1 => B3 g ((Op.fieldAddr 2) [t7_1]) fun g t32 => B3 g (Op.load1 [t32] H) fun g t33 => B3 g ((Op.indexSl 1) [t33, (.int .i64 0)]) fun g t34 => B3 g (Op.load1 [t34] H) fun g t35 => C3 M g (.func zr) [t0, t35, (.int .i64 0)] H fun g t36 H1 => B3 g ((Op.bin .add) [(.str [108, 111, 97, 100, 40]), t36]) fun g t37 => B3 g ((Op.bin .add) [t37, (.str [41])]) fun g t38 => GO3 g (SEQ3 (W M c (xw 28)) Q) .ret ((6, t38)::E) D H1) (fun g => GO3 g (SEQ3 (W M c (xw 28)) Q) .normal E D H)) ∧
 (∀ Q E D H, W M c (xw 28) true Q E D H =
  LK true (lk E 7) fun g t7 => B3 g ((Op.fieldAddr 0) [t7]) fun g t40 => B3 g (Op.load1 [t40] H) fun g t41 => C3 M g (.func yb) [t41] H fun g t42 H1 => B3 g ((Op.extract 0) [t42]) fun g t43 => B3 g ((Op.extract 1) [t42]) fun g t44 => LK g (lk E 0) fun g t0 => LK g (lk E 7) fun g t7_1 => B3 g ((Op.fieldAddr 2) [t7_1]) fun g t46 => B3 g (Op.load1 [t46] H1) fun g t47 => B3 g ((Op.indexSl 1) [t47, (.int .i64 0)]) fun g t48 => B3 g (Op.load1 [t48] H1) fun g t49 => C3 M g (.func zr) [t0, t49, t44] H1 fun g t51 H2 => W M c (xw 32) g Q ((10, t51)::(9, t44)::(8, t43)::E) D H2) ∧
 (∀ Q E D H, W M c (xw 32) true Q E D H =
  LK true (lk E 0) fun g t0 => LK g (lk E 7) fun g t7 => B3 g ((Op.fieldAddr 2) [t7]) fun g t53 => B3 g (Op.load1 [t53] H) fun g t54 => B3 g ((Op.indexSl 1) [t54, (.int .i64 1)]) fun g t55 => B3 g (Op.load1 [t55] H) fun g t56 => LK g (lk E 9) fun g t9 => B3 g ((Op.bin .add) [t9, (.int .i64 1)]) fun g t58 => C3 M g (.func zr) [t0, t56, t58] H fun g t59 H1 => W M c (xw 34) g Q ((11, t59)::E) D H1) ∧
 (∀ Q E D H, W M c (xw 34) true Q E D H =
  LK true (lk E 9) fun g t9 => LK g (lk E 2) fun g t2 => B3 g ((Op.bin .lss) [t9, t2]) fun g t62 => IF3 g t62 (fun g => LK g (lk E 10) fun g t10 => B3 g ((Op.bin .add) [(.str [40]), t10]) fun g t64 => B3 g ((Op.bin .add) [t64, (.str [32])]) fun g t65 => LK g (lk E 8) fun g t8 => B3 g ((Op.bin .add) [t65, t8]) fun g t67 => B3 g ((Op.bin .add) [t67, (.str [32])]) fun g t68 => LK g (lk E 11) fun g t11 => B3 g ((Op.bin .add) [t68, t11]) fun g t70 => B3 g ((Op.bin .add) [t70, (.str [41])]) fun g t71 => GO3 g (SEQ3 (W M c (xw 42)) Q) .ret ((6, t71)::E) D H) (fun g => GO3 g (SEQ3 (W M c (xw 42)) Q) .normal E D H)) ∧
 (∀ Q E D H, W M c (xw 42) true Q E D H =
  LK true (lk E 10) fun g t10 => B3 g ((Op.bin .add) [t10, (.str [32])]) fun g t73 => LK g (lk E 8) fun g t8 => B3 g ((Op.bin .add) [t73, t8]) fun g t75 => B3 g ((Op.bin .add) [t75, (.str [32])]) fun g t76 => LK g (lk E 11) fun g t11 => B3 g ((Op.bin .add) [t76, t11]) fun g t78 => GO3 g Q .ret ((6, t78)::E) D H) := by (repeat' apply And.intro) <;> (intro _ _ _ _; refine W_unf ?_; kernel_rfl)
theorem qi6 : (cProg Tryd.prog).func zr = some qcy ∧ qcy.results = [.tmp 6] := xd (by kernel_rfl)
theorem qnw {M : Mac} [MK M] : M.func zr = some qcy := MK.at (by decide) qi6.1
theorem qdp {M : Mac} [MK M] {a0 a1 a2 : AV} {H : AHeap} {Q : AEnd → AHeap → Prop} (h : W M ⟨none, zr⟩ (xw 0) true (FIN3 M [.tmp 6] Q) [(0, a0), (1, a1), (2, a2)] [] H) : CALLE M zr [a0, a1, a2] H Q :=
  calle qnw (ks := qi4) (by kernel_rfl) (by rw [qi6.2]; exact h)
def qda : AFunc := funcAt Tryd.prog ym
def qjo : Kp := ⟨[0, 1, 4, 5], false, [0, 4]⟩
def qc7 (k : Nat) : Kp × ACode := (qjo, part qda.body k)
theorem qfc (M : Mac) (c : Ctx) : (∀ Q E D H, W M c (qc7 0) true Q E D H =
  B32 true ((Op.buildSlice zh 3 [(.str [])] [(0, 1), (1, 1), (2, 1)]) [(.str [32, 61, 61, 32]), (.str [32, 33, 61, 32]), (.str [32, 60, 32])]) fun g o1 k1 => W M c (qc7 4) g Q ((5, (k1 H.next))::(4, (.str []))::E) D (H.alloc o1)) ∧
 (∀ Q E D H, W M c (qc7 4) true Q E D H =
  LK true (lk E 0) fun g t0 => LK g (lk E 1) fun g t1 => B3 g ((Op.indexSl 3) [t0, t1]) fun g t10 => B3 g ((Op.fieldAddr 2) [t10]) fun g t11 => B3 g (Op.load1 [t11] H) fun g t12 => B3 g ((Op.indexSl 1) [t12, (.int .i64 0)]) fun g t13 => B3 g (Op.load1 [t13] H) fun g t14 => LK g (lk E 5) fun g t5 => B3 g ((Op.indexSl 3) [t0, t1]) fun g t19 => B3 g ((Op.fieldAddr 0) [t19]) fun g t20 => B3 g (Op.load1 [t20] H) fun g t21 => B3 g ((Op.bin .sub) [t21, (.int .i64 11)]) fun g t22 => B3 g ((Op.indexSl 1) [t5, t22]) fun g t23 => B3 g (Op.load1 [t23] H) fun g t24 => B3 g ((Op.indexSl 3) [t0, t1]) fun g t29 => B3 g ((Op.fieldAddr 2) [t29]) fun g t30 => B3 g (Op.load1 [t30] H) fun g t31 => B3 g ((Op.indexSl 1) [t31, (.int .i64 1)]) fun g t32 => B3 g (Op.load1 [t32] H) fun g t33 => C3 M g (.func zr) [t0, t14, (.int .i64 0)] H fun g t15 H1 => CK3 g (Op.load1 [t20] H1) (some t21) fun g => CK3 g (Op.load1 [t23] H1) (some t24) fun g => CK3 g (Op.load1 [t30] H1) (some t31) fun g => CK3 g (Op.load1 [t32] H1) (some t33) fun g => B3 g ((Op.bin .add) [t15, t24]) fun g t25 => C3 M g (.func zr) [t0, t33, (.int .i64 0)] H1 fun g t34 H2 => CK3 g (Op.load1 [t20] H2) (some t21) fun g => CK3 g (Op.load1 [t23] H2) (some t24) fun g => B3 g ((Op.bin .add) [t25, t34]) fun g t35 => GO3 g Q .ret ((4, t35)::E) D H2) := by (repeat' apply And.intro) <;> (intro _ _ _ _; refine W_unf ?_; kernel_rfl)
theorem qin : (cProg Tryd.prog).func ym = some qda ∧ qda.results = [.tmp 4] := xd (by kernel_rfl)
theorem qnx {M : Mac} [MK M] : M.func ym = some qda := MK.at (by decide) qin.1
theorem qqr {M : Mac} [MK M] {a0 a1 : AV} {H : AHeap} {Q : AEnd → AHeap → Prop} (h : W M ⟨none, ym⟩ (qc7 0) true (FIN3 M [.tmp 4] Q) [(0, a0), (1, a1)] [] H) : CALLE M ym [a0, a1] H Q :=
  calle qnx (ks := qjo) (by kernel_rfl) (by rw [qin.2]; exact h)
def qa7 : AFunc := funcAt Tryd.prog ke
def qf4 : Kp := ⟨[0, 2, 3], false, [0, 4, 7, 13, 18, 25]⟩
def za (k : Nat) : Kp × ACode := (qf4, part qa7.body k)
theorem qmn (M : Mac) (c : Ctx) : (∀ Q E D H, W M c (za 0) true Q E D H =
  W M c (za 4) true Q ((3, (.str []))::(2, (.str []))::E) D H) ∧
 (∀ Q E D H, W M c (za 4) true Q E D H =
  LOOP3 (W M c (za 7)) (BLK3 0 (SEQ3 (W M c (za 25)) Q)) E D H) ∧
 (∀ Q E D H, W M c (za 25) true Q E D H =
  LK true (lk E 0) fun g t0 => B3 g ((Op.bin .add) [(.int .u64 48), t0]) fun g t24 => B3 g ((Op.wrap .u8) [t24]) fun g t25 => B32 g ((Op.buildSlice j4 1 [(.int .u8 0)] [(0, 1)]) [t25]) fun g o1 k1 => B3 g (Op.strOfBytes [(k1 H.next)] (H.alloc o1)) fun g t27 => LK g (lk E 3) fun g t3 => B3 g ((Op.bin .add) [t27, t3]) fun g t29 => GO3 g Q .ret ((2, t29)::E) D (H.alloc o1)) ∧
 (∀ Q E D H, W M c (za 7) true Q E D H =
  LK true (lk E 0) fun g t0 => B3 g ((Op.bin .gtr) [t0, (.int .u64 9)]) fun g t5 => JN (fun (k : Bool → AV → AV → AHeap → Prop) => B3 g (wantV false (some t5)) fun g w => IG3 g w (fun g => LK g (lk E 3) fun g t3 => B3 g ((Op.bin .eql) [t3, (.str [])]) fun g t8 => k g t8 t3 H) (fun g => k g uu uu H)) (fun g t8_1 t7_1 H1 => B3 g (Op.pick [t5, (.bool true), t8_1]) fun g t9 => IF3 g t9 (fun g => GO3 g (SEQ3 (W M c (za 13)) Q) .normal E D H1) (fun g => GO3 g (SEQ3 (W M c (za 13)) Q) (.exit 0) E D H1))) ∧
 (∀ Q E D H, W M c (za 13) true Q E D H =
  LK true (lk E 0) fun g t0 => B3 g ((Op.bin .rem) [t0, (.int .u64 10)]) fun g t11 => B3 g ((Op.bin .add) [(.int .u64 48), t11]) fun g t12 => B3 g ((Op.wrap .u8) [t12]) fun g t13 => B32 g ((Op.buildSlice j4 1 [(.int .u8 0)] [(0, 1)]) [t13]) fun g o1 k1 => B3 g (Op.strOfBytes [(k1 H.next)] (H.alloc o1)) fun g t15 => LK g (lk E 3) fun g t3 => B3 g ((Op.bin .add) [t15, t3]) fun g t17 => LK g (lk E 0) fun g t0_1 => B3 g ((Op.bin .quo) [t0_1, (.int .u64 10)]) fun g t19 => W M c (za 18) g (BLK3 1 Q) ((0, t19)::(3, t17)::E) D (H.alloc o1)) ∧
 (∀ Q E D H, W M c (za 18) true Q E D H =
  LK true (lk E 0) fun g t0 => B3 g ((Op.bin .eql) [t0, (.int .u64 0)]) fun g t21 => IF3 g t21 (fun g => LK g (lk E 3) fun g t3 => GO3 g Q .ret ((2, t3)::E) D H) (fun g => GO3 g Q .normal E D H)) := by (repeat' apply And.intro) <;> (intro _ _ _ _; refine W_unf ?_; kernel_rfl)
theorem qgf : (cProg Tryd.prog).func ke = some qa7 ∧ qa7.results = [.tmp 2] := xd (by kernel_rfl)
theorem qlh {M : Mac} [MK M] : M.func ke = some qa7 := MK.at (by decide) qgf.1
theorem qmd {M : Mac} [MK M] {a0 : AV} {H : AHeap} {Q : AEnd → AHeap → Prop} (h : W M ⟨none, ke⟩ (za 0) true (FIN3 M [.tmp 2] Q) [(0, a0)] [] H) : CALLE M ke [a0] H Q :=
  calle qlh (ks := qf4) (by kernel_rfl) (by rw [qgf.2]; exact h)
def qa9 : AFunc := funcAt Tryd.prog yb
def qge : Kp := ⟨[0, 2, 3, 4, 5], false, [0, 4, 6, 12]⟩
def jv (k : Nat) : Kp × ACode := (qge, part qa9.body k)
theorem qa5 (M : Mac) (c : Ctx) : (∀ Q E D H, W M c (jv 0) true Q E D H =
  B32 true ((Op.buildSlice zh 7 [(.str [])] [(0, 1), (1, 1), (2, 1), (3, 1), (4, 1), (5, 1), (6, 1)]) [(.str [43]), (.str [45]), (.str [42]), (.str [38]), (.str [94]), (.str [60, 60]), (.str [62, 62])]) fun g o1 k1 => W M c (jv 4) g Q ((4, (k1 H.next))::(3, (.int .i64 0))::(2, (.str []))::E) D (H.alloc o1)) ∧
 (∀ Q E D H, W M c (jv 4) true Q E D H =
  W M c (jv 6) true Q ((5, (.int .i64 2))::E) D H) ∧
 (∀ Q E D H, W M c (jv 6) true Q E D H =
  LK true (lk E 0) fun g t0 => B3 g ((Op.bin .eql) [t0, (.int .i64 4)]) fun g t8 => JN (fun (k : Bool → AV → AV → AHeap → Prop) => B3 g (wantV false (some t8)) fun g w => IG3 g w (fun g => B3 g ((Op.bin .eql) [t0, (.int .i64 5)]) fun g t11 => k g t11 t0 H) (fun g => k g uu uu H)) (fun g t11_1 t10_1 H1 => B3 g (Op.pick [t8, (.bool true), t11_1]) fun g t12 => JN (fun (k : Bool → AV → AV → AHeap → Prop) => B3 g (wantV false (some t12)) fun g w => IG3 g w (fun g => B3 g ((Op.bin .eql) [t0, (.int .i64 8)]) fun g t15 => k g t15 t0 H1) (fun g => k g uu uu H1)) (fun g t15_1 t14_1 H2 => B3 g (Op.pick [t12, (.bool true), t15_1]) fun g t16 => IF3 g t16 (fun g => GO3 g (SEQ3 (W M c (jv 12)) Q) .normal ((5, (.int .i64 1))::E) D H2) (fun g => GO3 g (SEQ3 (W M c (jv 12)) Q) .normal E D H2)))) ∧
 (∀ Q E D H, W M c (jv 12) true Q E D H =
  LK true (lk E 4) fun g t4 => LK g (lk E 0) fun g t0 => B3 g ((Op.bin .sub) [t0, (.int .i64 4)]) fun g t19 => B3 g ((Op.indexSl 1) [t4, t19]) fun g t20 => B3 g (Op.load1 [t20] H) fun g t21 => LK g (lk E 5) fun g t5 => GO3 g Q .ret ((3, t5)::(2, t21)::E) D H) := by (repeat' apply And.intro) <;> (intro _ _ _ _; refine W_unf ?_; kernel_rfl)
theorem qgb : (cProg Tryd.prog).func yb = some qa9 ∧ qa9.results = [.tmp 2, .tmp 3] := xd (by kernel_rfl)
theorem qlj {M : Mac} [MK M] : M.func yb = some qa9 := MK.at (by decide) qgb.1
theorem ql7 {M : Mac} [MK M] {a0 : AV} {H : AHeap} {Q : AEnd → AHeap → Prop} (h : W M ⟨none, yb⟩ (jv 0) true (FIN3 M [.tmp 2, .tmp 3] Q) [(0, a0)] [] H) : CALLE M yb [a0] H Q :=
  calle qlj (ks := qge) (by kernel_rfl) (by rw [qgb.2]; exact h)
end
end Go.Am
namespace Go.Am
abbrev jh : Nat := 3
abbrev ky : Nat := 13
abbrev yn : Nat := 14
noncomputable section
open Go.Proofs Go.Proofs.YtbimikjajohflaaDoor
def vq : AFunc := funcAt Tryd.prog jh
def qdm : Kp := ⟨[0, 2, 3, 4, 5, 6, 7], false, [0, 2, 10]⟩
def jj (k : Nat) : Kp × ACode := (qdm, part vq.body k)
theorem qg1 (M : Mac) (c : Ctx) : (∀ Q E D H, W M c (jj 0) true Q E D H =
  W M c (jj 2) true Q ((2, (.bool false))::E) D H) ∧
 (∀ Q E D H, W M c (jj 2) true Q E D H =
  LK true (lk E 0) fun g t0 => C3 M g (.func ky) [t0] H fun g t9 H1 => IF3 g t9 (fun g => GO3 g (SEQ3 (W M c (jj 10)) Q) .ret ((2, (.bool true))::E) D H1) (fun g => GO3 g (SEQ3 (W M c (jj 10)) Q) .normal E D H1)) ∧
 (∀ Q E D H, W M c (jj 10) true Q E D H =
  LK true (lk E 0) fun g t0 => C3 M g (.func yn) [t0] H fun g t11 H1 => C3 M g (.func jn) [t11] H1 fun g t14 H2 => B3 g ((Op.extract 0) [t14]) fun g t15 => B3 g ((Op.extract 1) [t14]) fun g t16 => LK g (lk E 0) fun g t0_1 => C3 M g (.func x4) [t0_1] H2 fun g t19 H3 => B3 g ((Op.extract 0) [t19]) fun g t20 => B3 g ((Op.extract 1) [t19]) fun g t21 => B3 g ((Op.bin .eql) [t15, t20]) fun g t24 => JN (fun (k : Bool → AV → AV → AV → AHeap → Prop) => B3 g (wantV true (some t24)) fun g w => IG3 g w (fun g => B3 g ((Op.bin .eql) [t16, t21]) fun g t28 => k g t28 t21 t16 H3) (fun g => k g uu uu uu H3)) (fun g t28_1 t27_1 t26_1 H4 => B3 g (Op.pick [t24, t28_1, (.bool false)]) fun g t29 => JN (fun (k : Bool → AV → AV → AV → AHeap → Prop) => B3 g (wantV true (some t29)) fun g w => IG3 g w (fun g => LK g (lk E 0) fun g t0_2 => C3 M g (.func ya) [t11, t0_2] H4 fun g t33 H5 => k g t33 t0_2 t11 H5) (fun g => k g uu uu uu H4)) (fun g t33_1 t32_1 t31_1 H6 => B3 g (Op.pick [t29, t33_1, (.bool false)]) fun g t34 => GO3 g Q .ret ((2, t34)::(7, t21)::(6, t20)::(5, t16)::(4, t15)::(3, t11)::E) D H6))) := by (repeat' apply And.intro) <;> (intro _ _ _ _; refine W_unf ?_; kernel_rfl)
theorem qc1 : (cProg Tryd.prog).func jh = some vq ∧ vq.results = [.tmp 2] := xd (by kernel_rfl)
theorem qgy {M : Mac} [MK M] : M.func jh = some vq := MK.at (by decide) qc1.1
theorem qho {M : Mac} [MK M] {a0 : AV} {H : AHeap} {Q : AEnd → AHeap → Prop} (h : W M ⟨none, jh⟩ (jj 0) true (FIN3 M [.tmp 2] Q) [(0, a0)] [] H) : CALLE M jh [a0] H Q :=
  calle qgy (ks := qdm) (by kernel_rfl) (by rw [qc1.2]; exact h)
def qbz : AFunc := funcAt Tryd.prog ky
def qhz : Kp := ⟨[0, 2, 3, 4], false, [0, 4, 9, 15, 18, 19]⟩
def zm (k : Nat) : Kp × ACode := (qhz, part qbz.body k)
theorem qnu (M : Mac) (c : Ctx) : (∀ Q E D H, W M c (zm 0) true Q E D H =
  W M c (zm 4) true Q ((3, (.int .i64 0))::(2, (.bool false))::E) D H) ∧
 (∀ Q E D H, W M c (zm 4) true Q E D H =
  LOOP3 (W M c (zm 9)) (BLK3 0 (SEQ3 (W M c (zm 19)) Q)) ((4, (.int .i64 0))::E) D H) ∧
 (∀ Q E D H, W M c (zm 19) true Q E D H =
  LK true (lk E 3) fun g t3 => B3 g ((Op.bin .gtr) [t3, (.int .i64 1000)]) fun g t21 => GO3 g Q .ret ((2, t21)::E) D H) ∧
 (∀ Q E D H, W M c (zm 9) true Q E D H =
  LK true (lk E 4) fun g t4 => LK g (lk E 0) fun g t0 => B3 g (Op.lenSl [t0]) fun g t7 => B3 g ((Op.bin .lss) [t4, t7]) fun g t8 => IF3 g t8 (fun g => GO3 g (SEQ3 (W M c (zm 15)) Q) .normal E D H) (fun g => GO3 g (SEQ3 (W M c (zm 15)) Q) (.exit 0) E D H)) ∧
 (∀ Q E D H, W M c (zm 15) true Q E D H =
  LK true (lk E 3) fun g t3 => B3 g ((Op.bin .add) [t3, (.int .i64 1)]) fun g t12 => LK g (lk E 0) fun g t0 => LK g (lk E 4) fun g t4 => B3 g ((Op.indexSl 3) [t0, t4]) fun g t15 => B3 g ((Op.fieldAddr 2) [t15]) fun g t16 => B3 g (Op.load1 [t16] H) fun g t17 => B3 g (Op.lenSl [t17]) fun g t18 => B3 g ((Op.bin .add) [t12, t18]) fun g t19 => GO3 g (BLK3 1 (SEQ3 (W M c (zm 18)) Q)) .normal ((3, t19)::E) D H) ∧
 (∀ Q E D H, W M c (zm 18) true Q E D H =
  LK true (lk E 4) fun g t4 => B3 g ((Op.bin .add) [t4, (.int .i64 1)]) fun g t10 => GO3 g Q .normal ((4, t10)::E) D H) := by (repeat' apply And.intro) <;> (intro _ _ _ _; refine W_unf ?_; kernel_rfl)
theorem qhk : (cProg Tryd.prog).func ky = some qbz ∧ qbz.results = [.tmp 2] := xd (by kernel_rfl)
theorem qmb {M : Mac} [MK M] : M.func ky = some qbz := MK.at (by decide) qhk.1
theorem qof {M : Mac} [MK M] {a0 : AV} {H : AHeap} {Q : AEnd → AHeap → Prop} (h : W M ⟨none, ky⟩ (zm 0) true (FIN3 M [.tmp 2] Q) [(0, a0)] [] H) : CALLE M ky [a0] H Q :=
  calle qmb (ks := qhz) (by kernel_rfl) (by rw [qhk.2]; exact h)
def qcz : AFunc := funcAt Tryd.prog yn
def qjn : Kp := ⟨[0, 2, 3, 4, 5], false, [0, 4, 9, 15, 22, 23]⟩
def ja (k : Nat) : Kp × ACode := (qjn, part qcz.body k)
theorem qqj (M : Mac) (c : Ctx) : (∀ Q E D H, W M c (ja 0) true Q E D H =
  W M c (ja 4) true Q ((3, .nils)::(2, .nils)::E) D H) ∧
 (∀ Q E D H, W M c (ja 4) true Q E D H =
  LOOP3 (W M c (ja 9)) (BLK3 0 (SEQ3 (W M c (ja 23)) Q)) ((4, (.int .i64 0))::E) D H) ∧
 (∀ Q E D H, W M c (ja 23) true Q E D H =
  LK true (lk E 3) fun g t3 => GO3 g Q .ret ((2, t3)::E) D H) ∧
 (∀ Q E D H, W M c (ja 9) true Q E D H =
  LK true (lk E 4) fun g t4 => LK g (lk E 0) fun g t0 => B3 g (Op.lenSl [t0]) fun g t8 => B3 g ((Op.bin .lss) [t4, t8]) fun g t9 => IF3 g t9 (fun g => GO3 g (SEQ3 (W M c (ja 15)) Q) .normal E D H) (fun g => GO3 g (SEQ3 (W M c (ja 15)) Q) (.exit 0) E D H)) ∧
 (∀ Q E D H, W M c (ja 15) true Q E D H =
  LK true (lk E 0) fun g t0 => LK g (lk E 4) fun g t4 => B3 g ((Op.indexSl 3) [t0, t4]) fun g t14 => B3 g ((Op.loadN 3) [t14] H) fun g t15 => A3 g qc [(.int .i64 0), (.int .u64 0), .nils] H fun g t5 H1 => B32 g ((Op.store 3) [t5, t15] H1) fun g u H2 => B32 g ((Op.buildSlice T_int 0 [(.int .i64 0)] []) []) fun g o3 k3 => LK g (lk E 0) fun g t0_1 => LK g (lk E 4) fun g t4_1 => B3 g ((Op.indexSl 3) [t0_1, t4_1]) fun g t19 => B3 g ((Op.fieldAddr 2) [t19]) fun g t20 => B3 g (Op.load1 [t20] (H2.alloc o3)) fun g t21 => B32 g ((Op.append T_int 1 8) [(k3 H2.next), t21] (H2.alloc o3)) fun g t22 H4 => B3 g ((Op.fieldAddr 2) [t5]) fun g t23 => B32 g ((Op.store 1) [t23, t22] H4) fun g u_1 H5 => LK g (lk E 3) fun g t3 => B3 g ((Op.loadN 3) [t5] H5) fun g t25 => B32 g ((Op.buildSlice qc 1 [(.int .i64 0), (.int .u64 0), .nils] [(0, 3)]) [t25]) fun g o6 k6 => B32 g ((Op.append qc 3 40) [t3, (k6 H5.next)] (H5.alloc o6)) fun g t27 H7 => GO3 g (BLK3 1 (SEQ3 (W M c (ja 22)) Q)) .normal ((3, t27)::(5, t5)::E) D H7) ∧
 (∀ Q E D H, W M c (ja 22) true Q E D H =
  LK true (lk E 4) fun g t4 => B3 g ((Op.bin .add) [t4, (.int .i64 1)]) fun g t11 => GO3 g Q .normal ((4, t11)::E) D H) := by (repeat' apply And.intro) <;> (intro _ _ _ _; refine W_unf ?_; kernel_rfl)
theorem qjg : (cProg Tryd.prog).func yn = some qcz ∧ qcz.results = [.tmp 2] := xd (by kernel_rfl)
theorem qn5 {M : Mac} [MK M] : M.func yn = some qcz := MK.at (by decide) qjg.1
theorem qpx {M : Mac} [MK M] {a0 : AV} {H : AHeap} {Q : AEnd → AHeap → Prop} (h : W M ⟨none, yn⟩ (ja 0) true (FIN3 M [.tmp 2] Q) [(0, a0)] [] H) : CALLE M yn [a0] H Q :=
  calle qn5 (ks := qjn) (by kernel_rfl) (by rw [qjg.2]; exact h)
end
end Go.Am
