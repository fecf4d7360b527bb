/- CodeC: CodeCM. -/
import Derived.Test.YtkfheegmlgfdoaaAmB4
import Derived.Test.YtkfheegmlgfdoaaAmB1
import Derived.KernelRfl
import Derived.Test.YtkfheegmlgfdoaaRows
namespace Go.Am
set_option linter.unusedVariables false
set_option maxRecDepth 100000
abbrev N_core_Core_Alone : Nat := 39
abbrev N_core_Core_Block : Nat := 35
abbrev N_core_Core_Counts : Nat := 36
abbrev N_core_Core_Halted : Nat := 31
abbrev N_core_Core_Instrs : Nat := 38
abbrev N_core_Core_Lane : Nat := 34
abbrev N_core_Core_PC : Nat := 33
abbrev N_core_Core_Point : Nat := 30
abbrev N_core_Core_Regs : Nat := 32
abbrev N_core_Core_none : Nat := 46
abbrev N_core_New : Nat := 16
abbrev N_lanes_Control_Counts : Nat := 51
abbrev N_lanes_Control_Lane : Nat := 50
abbrev N_lanes_Control_none : Nat := 56
abbrev N_lanes_New : Nat := 25
abbrev N_lanes_budgets : Nat := 44
abbrev N_law11_CoreMade : Nat := 5
abbrev N_law11_same : Nat := 18
abbrev N_log_New : Nat := 45
abbrev N_ref09_Control_Count : Nat := 52
abbrev N_ref09_Control_Counts : Nat := 37
abbrev N_ref09_May : Nat := 29
abbrev N_ref11_Core_Alone : Nat := 40
abbrev N_ref11_New : Nat := 17
abbrev N_regs_File_All : Nat := 48
abbrev N_regs_File_PC : Nat := 49
abbrev N_regs_File_Point : Nat := 47
abbrev N_regs_File_marked : Nat := 54
abbrev N_regs_File_none : Nat := 55
abbrev N_regs_New : Nat := 27
abbrev N_slices_Clone_api_Instr : Nat := 26
abbrev N_soft_New : Nat := 28
abbrev T__26 : Nat := 49
abbrev T__60 : Nat := 98
abbrev T_api_Budget : Nat := 42
abbrev T_api_Instr : Nat := 67
abbrev T_core_Core : Nat := 90
abbrev T_lanes_Control : Nat := 109
abbrev T_log_Log : Nat := 129
abbrev T_log_list : Nat := 127
abbrev T_regs_File : Nat := 114
abbrev T_shuntlaw11_Made : Nat := 44
abbrev T_shuntref11_Core : Nat := 63
abbrev T_soft_Path : Nat := 121
noncomputable section
open Go.Proofs Go.Proofs.Ytkfheegmlgfdoaa
class MK (M : Mac) : Prop where
  ok : ∀ n, memN n [] = false → M.func n = (cProg Try.prog).func n
theorem MK.at {M : Mac} [h : MK M] {n : Nat} {F : AFunc} (hn : memN n [] = false) (hF : (cProg Try.prog).func n = some F) : M.func n = some F := (h.ok n hn).trans hF
def law11_CoreMade_F : AFunc := funcAt Try.prog N_law11_CoreMade
def law11_CoreMade_K : Kp := ⟨[0, 1, 2, 5, 6, 7, 8, 9, 10, 11, 12], false, [0, 4, 8, 16, 21, 27, 30, 31]⟩
def law11_CoreMade_p (k : Nat) : Kp × ACode := (law11_CoreMade_K, part law11_CoreMade_F.body k)
theorem law11_CoreMade_w (M : Mac) (c : Ctx) : (∀ Q E D H, W M c (law11_CoreMade_p 0) true Q E D H =
  LK true (lk E 2) fun g t2 => A3 g T_shuntlaw11_Made (AV.cells t2) H fun g t5 H1 => B32 g ((Op.buildSlice T_api_Instr 0 [(.int .i64 0), (.int .i64 0), (.int .i64 0), (.int .i64 0), (.int .i64 0)] []) []) fun g o2 k2 => LK g (lk E 1) fun g t1 => B32 g ((Op.append T_api_Instr 5 40) [(k2 H1.next), t1] (H1.alloc o2)) fun g t15 H3 => W M c (law11_CoreMade_p 4) g Q ((7, t15)::(6, (.bool false))::(5, t5)::E) D H3) ∧
 (∀ Q E D H, W M c (law11_CoreMade_p 4) true Q E D H =
  LK true (lk E 0) fun g t0 => LK g (lk E 7) fun g t7 => LK g (lk E 5) fun g t5 => B3 g ((Op.fieldAddr 0) [t5]) fun g t19 => B3 g ((Op.loadN 3) [t19] H) fun g t20 => B3 g ((Op.fieldAddr 3) [t5]) fun g t21 => B3 g (Op.load1 [t21] H) fun g t22 => C3 M g (.func N_core_New) [t0, t7, t20, t22] H fun g t23 H1 => B3 g ((Op.extract 0) [t23]) fun g t24 => B3 g ((Op.extract 1) [t23]) fun g t25 => LK g (lk E 0) fun g t0_1 => LK g (lk E 1) fun g t1 => LK g (lk E 5) fun g t5_1 => B3 g ((Op.fieldAddr 0) [t5_1]) fun g t29 => B3 g ((Op.loadN 3) [t29] H1) fun g t30 => B3 g ((Op.fieldAddr 3) [t5_1]) fun g t31 => B3 g (Op.load1 [t31] H1) fun g t32 => C3 M g (.func N_ref11_New) [t0_1, t1, t30, t32] H1 fun g t33 H2 => B3 g ((Op.extract 0) [t33]) fun g t34 => B3 g ((Op.extract 1) [t33]) fun g t35 => A3 g T_shuntref11_Core [(.int .i64 0), (.int .i64 0), .nils, (.int .u64 0), (.int .u64 0), (.int .u64 0), (.int .u64 0), (.int .u64 0), (.int .u64 0), (.int .u64 0), (.int .u64 0), (.int .i64 0), (.bool false), (.int .u64 0), (.int .u64 0), (.int .u64 0), (.int .u64 0), (.int .u64 0), (.int .u64 0), (.int .u64 0), (.int .u64 0), (.int .i64 0), (.int .i64 0), (.int .i64 0), (.int .i64 0), (.int .i64 0), .nils, (.int .i64 0), (.int .u64 0), (.int .i64 0), (.int .u64 0), (.int .u64 0), (.int .i64 0), (.int .i64 0), (.int .i64 0), (.int .u64 0), (.int .u64 0), .nils, .nils, (.bool false), (.bool false), (.int .i64 0), (.int .i64 0), (.int .i64 0), (.int .i64 0), (.int .i64 0), (.int .i64 0), (.int .u64 0), (.int .u64 0), (.int .u64 0), .nils, (.int .i64 0), (.bool false), (.bool false), (.bool false), (.int .i64 0), (.int .i64 0), (.bool false), (.bool false), .nils] H2 fun g t10 H3 => B32 g ((Op.store 60) [t10, t34] H3) fun g u H4 => W M c (law11_CoreMade_p 8) g Q ((11, t35)::(10, t10)::(9, t25)::(8, t24)::E) D H4) ∧
 (∀ Q E D H, W M c (law11_CoreMade_p 8) true Q E D H =
  LK true (lk E 9) fun g t9 => B3 g ((Op.bin .neq) [t9, (.int .i64 0)]) fun g t37 => JN (fun (k : Bool → AV → AV → AHeap → Prop) => B3 g (wantV false (some t37)) fun g w => IG3 g w (fun g => LK g (lk E 11) fun g t11 => B3 g ((Op.bin .neq) [t11, (.int .i64 0)]) fun g t40 => k g t40 t11 H) (fun g => k g uu uu H)) (fun g t40_1 t39_1 H1 => B3 g (Op.pick [t37, (.bool true), t40_1]) fun g t41 => IF3 g t41 (fun g => LK g (lk E 9) fun g t9_1 => LK g (lk E 11) fun g t11_1 => B3 g ((Op.bin .eql) [t9_1, t11_1]) fun g t44 => JN (fun (k : Bool → AV → AV → AHeap → Prop) => B3 g (wantV true (some t44)) fun g w => IG3 g w (fun g => LK g (lk E 8) fun g t8 => B3 g ((Op.eq .ptr false) [t8, .nilp] H1) fun g t47 => k g t47 t8 H1) (fun g => k g uu uu H1)) (fun g t47_1 t46_1 H2 => B3 g (Op.pick [t44, t47_1, (.bool false)]) fun g t48 => GO3 g (SEQ3 (W M c (law11_CoreMade_p 16)) Q) .ret ((6, t48)::E) D H2)) (fun g => GO3 g (SEQ3 (W M c (law11_CoreMade_p 16)) Q) .normal E D H1))) ∧
 (∀ Q E D H, W M c (law11_CoreMade_p 16) true Q E D H =
  LOOP3 (W M c (law11_CoreMade_p 21)) (BLK3 0 (SEQ3 (W M c (law11_CoreMade_p 31)) Q)) ((12, (.int .i64 0))::E) D H) ∧
 (∀ Q E D H, W M c (law11_CoreMade_p 31) true Q E D H =
  LK true (lk E 8) fun g t8 => LK g (lk E 10) fun g t10 => C3 M g (.func N_law11_same) [t8, t10] H fun g t60 H1 => GO3 g Q .ret ((6, t60)::E) D H1) ∧
 (∀ Q E D H, W M c (law11_CoreMade_p 21) true Q E D H =
  LK true (lk E 12) fun g t12 => LK g (lk E 7) fun g t7 => B3 g (Op.lenSl [t7]) fun g t51 => B3 g ((Op.bin .lss) [t12, t51]) fun g t52 => IF3 g t52 (fun g => GO3 g (SEQ3 (W M c (law11_CoreMade_p 27)) Q) .normal E D H) (fun g => GO3 g (SEQ3 (W M c (law11_CoreMade_p 27)) Q) (.exit 0) E D H)) ∧
 (∀ Q E D H, W M c (law11_CoreMade_p 27) true Q E D H =
  LK true (lk E 7) fun g t7 => LK g (lk E 12) fun g t12 => B3 g ((Op.indexSl 5) [t7, t12]) fun g t57 => B3 g ((Op.fieldAddr 0) [t57]) fun g t58 => B32 g ((Op.store 1) [t58, (.int .i64 77)] H) fun g u H1 => GO3 g (BLK3 1 (SEQ3 (W M c (law11_CoreMade_p 30)) Q)) .normal E D H1) ∧
 (∀ Q E D H, W M c (law11_CoreMade_p 30) true Q E D H =
  LK true (lk E 12) fun g t12 => B3 g ((Op.bin .add) [t12, (.int .i64 1)]) fun g t54 => GO3 g Q .normal ((12, t54)::E) D H) := by (repeat' apply And.intro) <;> (intro _ _ _ _; refine W_unf ?_; kernel_rfl)
theorem law11_CoreMade_f : (cProg Try.prog).func N_law11_CoreMade = some law11_CoreMade_F ∧ law11_CoreMade_F.results = [.tmp 6] := pair_rfl (by kernel_rfl)
theorem law11_CoreMade_at {M : Mac} [MK M] : M.func N_law11_CoreMade = some law11_CoreMade_F := MK.at (by decide) law11_CoreMade_f.1
theorem law11_CoreMade_s {M : Mac} [MK M] {a0 a1 a2 : AV} {H : AHeap} {Q : AEnd → AHeap → Prop} (h : W M ⟨none, N_law11_CoreMade⟩ (law11_CoreMade_p 0) true (FIN3 M [.tmp 6] Q) [(0, a0), (1, a1), (2, a2)] [] H) : CALLE M N_law11_CoreMade [a0, a1, a2] H Q :=
  calle law11_CoreMade_at (ks := law11_CoreMade_K) (by kernel_rfl) (by rw [law11_CoreMade_f.2]; exact h)
def core_New_F : AFunc := funcAt Try.prog N_core_New
def core_New_K : Kp := ⟨[0, 1, 2, 3, 6, 8, 9, 10, 11], false, [0, 4, 12]⟩
def core_New_p (k : Nat) : Kp × ACode := (core_New_K, part core_New_F.body k)
theorem core_New_w (M : Mac) (c : Ctx) : (∀ Q E D H, W M c (core_New_p 0) true Q E D H =
  LK true (lk E 2) fun g t2 => A3 g T_api_Budget (AV.cells t2) H fun g t6 H1 => B3 g ((Op.loadN 3) [t6] H1) fun g t13 => C3 M g (.func N_lanes_New) [t13] H1 fun g t14 H2 => B3 g ((Op.extract 0) [t14]) fun g t15 => B3 g ((Op.extract 1) [t14]) fun g t16 => W M c (core_New_p 4) g Q ((11, t16)::(10, t15)::(9, (.int .i64 0))::(8, .nilp)::(6, t6)::E) D H2) ∧
 (∀ Q E D H, W M c (core_New_p 4) true Q E D H =
  LK true (lk E 11) fun g t11 => B3 g ((Op.bin .neq) [t11, (.int .i64 0)]) fun g t18 => JN (fun (k : Bool → AV → AV → AHeap → Prop) => B3 g (wantV false (some t18)) fun g w => IG3 g w (fun g => LK g (lk E 0) fun g t0 => B3 g ((Op.bin .lss) [t0, (.int .i64 0)]) fun g t21 => k g t21 t0 H) (fun g => k g uu uu H)) (fun g t21_1 t20_1 H1 => B3 g (Op.pick [t18, (.bool true), t21_1]) fun g t22 => JN (fun (k : Bool → AV → AV → AHeap → Prop) => B3 g (wantV false (some t22)) fun g w => IG3 g w (fun g => LK g (lk E 0) fun g t0_1 => B3 g ((Op.bin .geq) [t0_1, (.int .i64 4)]) fun g t25 => k g t25 t0_1 H1) (fun g => k g uu uu H1)) (fun g t25_1 t24_1 H2 => B3 g (Op.pick [t22, (.bool true), t25_1]) fun g t26 => JN (fun (k : Bool → AV → AV → AV → AHeap → Prop) => B3 g (wantV false (some t26)) fun g w => IG3 g w (fun g => LK g (lk E 1) fun g t1 => B3 g (Op.lenSl [t1]) fun g t29 => B3 g ((Op.bin .gtr) [t29, (.int .i64 1024)]) fun g t30 => k g t30 t29 t1 H2) (fun g => k g uu uu uu H2)) (fun g t30_1 t29_1 t28_1 H3 => B3 g (Op.pick [t26, (.bool true), t30_1]) fun g t31 => JN (fun (k : Bool → AV → AV → AHeap → Prop) => B3 g (wantV false (some t31)) fun g w => IG3 g w (fun g => LK g (lk E 3) fun g t3 => B3 g ((Op.bin .lss) [t3, (.int .i64 2)]) fun g t34 => k g t34 t3 H3) (fun g => k g uu uu H3)) (fun g t34_1 t33_1 H4 => B3 g (Op.pick [t31, (.bool true), t34_1]) fun g t35 => JN (fun (k : Bool → AV → AV → AHeap → Prop) => B3 g (wantV false (some t35)) fun g w => IG3 g w (fun g => LK g (lk E 3) fun g t3_1 => B3 g ((Op.bin .gtr) [t3_1, (.int .i64 64)]) fun g t38 => k g t38 t3_1 H4) (fun g => k g uu uu H4)) (fun g t38_1 t37_1 H5 => B3 g (Op.pick [t35, (.bool true), t38_1]) fun g t39 => IF3 g t39 (fun g => GO3 g (SEQ3 (W M c (core_New_p 12)) Q) .ret ((9, (.int .i64 2))::(8, .nilp)::E) D H5) (fun g => GO3 g (SEQ3 (W M c (core_New_p 12)) Q) .normal E D H5))))))) ∧
 (∀ Q E D H, W M c (core_New_p 12) true Q E D H =
  LK true (lk E 0) fun g t0 => LK g (lk E 3) fun g t3 => LK g (lk E 1) fun g t1 => C3 M g (.func N_slices_Clone_api_Instr) [t1] H fun g t43 H1 => C3 M g (.func N_regs_New) [] H1 fun g t44 H2 => LK g (lk E 10) fun g t10 => C3 M g (.func N_soft_New) [] H2 fun g t46 H3 => B3 g ((Op.build [(.int .i64 0), (.int .i64 0), .nils, .nilp, .nilp, .nilp, (.int .i64 0), (.int .i64 0), (.int .i64 0), (.int .i64 0), (.int .u64 0), (.int .u64 0), (.int .u64 0), .nils, (.int .i64 0), (.bool false), (.bool false), (.bool false), (.int .i64 0), (.int .i64 0), (.bool false), (.bool false), .nils, .nili] [(0, 1), (1, 1), (2, 1), (3, 1), (4, 1), (5, 1)]) [t0, t3, t43, t44, t10, t46]) fun g t47 => A3 g T_core_Core (AV.cells t47) H3 fun g t48 H4 => GO3 g Q .ret ((9, (.int .i64 0))::(8, t48)::E) D H4) := by (repeat' apply And.intro) <;> (intro _ _ _ _; refine W_unf ?_; kernel_rfl)
theorem core_New_f : (cProg Try.prog).func N_core_New = some core_New_F ∧ core_New_F.results = [.tmp 8, .tmp 9] := pair_rfl (by kernel_rfl)
theorem core_New_at {M : Mac} [MK M] : M.func N_core_New = some core_New_F := MK.at (by decide) core_New_f.1
theorem core_New_s {M : Mac} [MK M] {a0 a1 a2 a3 : AV} {H : AHeap} {Q : AEnd → AHeap → Prop} (h : W M ⟨none, N_core_New⟩ (core_New_p 0) true (FIN3 M [.tmp 8, .tmp 9] Q) [(0, a0), (1, a1), (2, a2), (3, a3)] [] H) : CALLE M N_core_New [a0, a1, a2, a3] H Q :=
  calle core_New_at (ks := core_New_K) (by kernel_rfl) (by rw [core_New_f.2]; exact h)
def ref11_New_F : AFunc := funcAt Try.prog N_ref11_New
def ref11_New_K : Kp := ⟨[0, 1, 2, 3, 6, 8, 9, 10, 60], false, [0, 4, 12]⟩
def ref11_New_p (k : Nat) : Kp × ACode := (ref11_New_K, part ref11_New_F.body k)
theorem ref11_New_w (M : Mac) (c : Ctx) : (∀ Q E D H, W M c (ref11_New_p 0) true Q E D H =
  LK true (lk E 2) fun g t2 => A3 g T_api_Budget (AV.cells t2) H fun g t6 H1 => A3 g T_shuntref11_Core [(.int .i64 0), (.int .i64 0), .nils, (.int .u64 0), (.int .u64 0), (.int .u64 0), (.int .u64 0), (.int .u64 0), (.int .u64 0), (.int .u64 0), (.int .u64 0), (.int .i64 0), (.bool false), (.int .u64 0), (.int .u64 0), (.int .u64 0), (.int .u64 0), (.int .u64 0), (.int .u64 0), (.int .u64 0), (.int .u64 0), (.int .i64 0), (.int .i64 0), (.int .i64 0), (.int .i64 0), (.int .i64 0), .nils, (.int .i64 0), (.int .u64 0), (.int .i64 0), (.int .u64 0), (.int .u64 0), (.int .i64 0), (.int .i64 0), (.int .i64 0), (.int .u64 0), (.int .u64 0), .nils, .nils, (.bool false), (.bool false), (.int .i64 0), (.int .i64 0), (.int .i64 0), (.int .i64 0), (.int .i64 0), (.int .i64 0), (.int .u64 0), (.int .u64 0), (.int .u64 0), .nils, (.int .i64 0), (.bool false), (.bool false), (.bool false), (.int .i64 0), (.int .i64 0), (.bool false), (.bool false), .nils] H1 fun g t8 H2 => B3 g ((Op.loadN 3) [t6] H2) fun g t11 => C3 M g (.func N_ref09_May) [t11] H2 fun g t12 H3 => W M c (ref11_New_p 4) g Q ((10, t12)::(9, (.int .i64 0))::(8, t8)::(6, t6)::E) D H3) ∧
 (∀ Q E D H, W M c (ref11_New_p 4) true Q E D H =
  LK true (lk E 10) fun g t10 => B3 g ((Op.un .not) [t10]) fun g t14 => JN (fun (k : Bool → AV → AV → AHeap → Prop) => B3 g (wantV false (some t14)) fun g w => IG3 g w (fun g => LK g (lk E 0) fun g t0 => B3 g ((Op.bin .lss) [t0, (.int .i64 0)]) fun g t17 => k g t17 t0 H) (fun g => k g uu uu H)) (fun g t17_1 t16_1 H1 => B3 g (Op.pick [t14, (.bool true), t17_1]) fun g t18 => JN (fun (k : Bool → AV → AV → AHeap → Prop) => B3 g (wantV false (some t18)) fun g w => IG3 g w (fun g => LK g (lk E 0) fun g t0_1 => B3 g ((Op.bin .geq) [t0_1, (.int .i64 4)]) fun g t21 => k g t21 t0_1 H1) (fun g => k g uu uu H1)) (fun g t21_1 t20_1 H2 => B3 g (Op.pick [t18, (.bool true), t21_1]) fun g t22 => JN (fun (k : Bool → AV → AV → AV → AHeap → Prop) => B3 g (wantV false (some t22)) fun g w => IG3 g w (fun g => LK g (lk E 1) fun g t1 => B3 g (Op.lenSl [t1]) fun g t25 => B3 g ((Op.bin .gtr) [t25, (.int .i64 1024)]) fun g t26 => k g t26 t25 t1 H2) (fun g => k g uu uu uu H2)) (fun g t26_1 t25_1 t24_1 H3 => B3 g (Op.pick [t22, (.bool true), t26_1]) fun g t27 => JN (fun (k : Bool → AV → AV → AHeap → Prop) => B3 g (wantV false (some t27)) fun g w => IG3 g w (fun g => LK g (lk E 3) fun g t3 => B3 g ((Op.bin .lss) [t3, (.int .i64 2)]) fun g t30 => k g t30 t3 H3) (fun g => k g uu uu H3)) (fun g t30_1 t29_1 H4 => B3 g (Op.pick [t27, (.bool true), t30_1]) fun g t31 => JN (fun (k : Bool → AV → AV → AHeap → Prop) => B3 g (wantV false (some t31)) fun g w => IG3 g w (fun g => LK g (lk E 3) fun g t3_1 => B3 g ((Op.bin .gtr) [t3_1, (.int .i64 64)]) fun g t34 => k g t34 t3_1 H4) (fun g => k g uu uu H4)) (fun g t34_1 t33_1 H5 => B3 g (Op.pick [t31, (.bool true), t34_1]) fun g t35 => IF3 g t35 (fun g => B3 g ((Op.build [(.int .i64 0), (.int .i64 0), .nils, (.int .u64 0), (.int .u64 0), (.int .u64 0), (.int .u64 0), (.int .u64 0), (.int .u64 0), (.int .u64 0), (.int .u64 0), (.int .i64 0), (.bool false), (.int .u64 0), (.int .u64 0), (.int .u64 0), (.int .u64 0), (.int .u64 0), (.int .u64 0), (.int .u64 0), (.int .u64 0), (.int .i64 0), (.int .i64 0), (.int .i64 0), (.int .i64 0), (.int .i64 0), .nils, (.int .i64 0), (.int .u64 0), (.int .i64 0), (.int .u64 0), (.int .u64 0), (.int .i64 0), (.int .i64 0), (.int .i64 0), (.int .u64 0), (.int .u64 0), .nils, .nils, (.bool false), (.bool false), (.int .i64 0), (.int .i64 0), (.int .i64 0), (.int .i64 0), (.int .i64 0), (.int .i64 0), (.int .u64 0), (.int .u64 0), (.int .u64 0), .nils, (.int .i64 0), (.bool false), (.bool false), (.bool false), (.int .i64 0), (.int .i64 0), (.bool false), (.bool false), .nils] []) []) fun g t36 => LK g (lk E 8) fun g t8 => B32 g ((Op.store 60) [t8, t36] H5) fun g u H6 => GO3 g (SEQ3 (W M c (ref11_New_p 12)) Q) .ret ((9, (.int .i64 2))::E) D H6) (fun g => GO3 g (SEQ3 (W M c (ref11_New_p 12)) Q) .normal E D H5))))))) ∧
 (∀ Q E D H, W M c (ref11_New_p 12) true Q E D H =
  LK true (lk E 0) fun g t0 => LK g (lk E 3) fun g t3 => LK g (lk E 1) fun g t1 => LK g (lk E 6) fun g t6 => B3 g ((Op.loadN 3) [t6] H) fun g t40 => B3 g ((Op.build [(.int .i64 0), (.int .i64 0), (.int .i64 0), (.int .i64 0), .nils] [(0, 3)]) [t40]) fun g t41 => B3 g ((Op.build [(.int .i64 0), (.int .i64 0), .nils, (.int .u64 0), (.int .u64 0), (.int .u64 0), (.int .u64 0), (.int .u64 0), (.int .u64 0), (.int .u64 0), (.int .u64 0), (.int .i64 0), (.bool false), (.int .u64 0), (.int .u64 0), (.int .u64 0), (.int .u64 0), (.int .u64 0), (.int .u64 0), (.int .u64 0), (.int .u64 0), (.int .i64 0), (.int .i64 0), (.int .i64 0), (.int .i64 0), (.int .i64 0), .nils, (.int .i64 0), (.int .u64 0), (.int .i64 0), (.int .u64 0), (.int .u64 0), (.int .i64 0), (.int .i64 0), (.int .i64 0), (.int .u64 0), (.int .u64 0), .nils, .nils, (.bool false), (.bool false), (.int .i64 0), (.int .i64 0), (.int .i64 0), (.int .i64 0), (.int .i64 0), (.int .i64 0), (.int .u64 0), (.int .u64 0), (.int .u64 0), .nils, (.int .i64 0), (.bool false), (.bool false), (.bool false), (.int .i64 0), (.int .i64 0), (.bool false), (.bool false), .nils] [(0, 1), (1, 1), (2, 1), (22, 5)]) [t0, t3, t1, t41]) fun g t42 => LK g (lk E 8) fun g t8 => B32 g ((Op.store 60) [t8, t42] H) fun g u H1 => GO3 g Q .ret ((9, (.int .i64 0))::E) D H1) := by (repeat' apply And.intro) <;> (intro _ _ _ _; refine W_unf ?_; kernel_rfl)
theorem ref11_New_f : (cProg Try.prog).func N_ref11_New = some ref11_New_F ∧ ref11_New_F.results = [.cellN 60 8, .tmp 9] := pair_rfl (by kernel_rfl)
theorem ref11_New_at {M : Mac} [MK M] : M.func N_ref11_New = some ref11_New_F := MK.at (by decide) ref11_New_f.1
theorem ref11_New_s {M : Mac} [MK M] {a0 a1 a2 a3 : AV} {H : AHeap} {Q : AEnd → AHeap → Prop} (h : W M ⟨none, N_ref11_New⟩ (ref11_New_p 0) true (FIN3 M [.cellN 60 8, .tmp 9] Q) [(0, a0), (1, a1), (2, a2), (3, a3)] [] H) : CALLE M N_ref11_New [a0, a1, a2, a3] H Q :=
  calle ref11_New_at (ks := ref11_New_K) (by kernel_rfl) (by rw [ref11_New_f.2]; exact h)
def law11_same_F : AFunc := funcAt Try.prog N_law11_same
def law11_same_K : Kp := ⟨[0, 1, 4, 5, 6, 7, 8, 9], false, [0, 4, 6, 14]⟩
def law11_same_p (k : Nat) : Kp × ACode := (law11_same_K, part law11_same_F.body k)
theorem law11_same_w (M : Mac) (c : Ctx) : (∀ Q E D H, W M c (law11_same_p 0) true Q E D H =
  LK true (lk E 0) fun g t0 => C3 M g (.func N_core_Core_Point) [t0] H fun g t12 H1 => B3 g ((Op.extract 0) [t12]) fun g t13 => B3 g ((Op.extract 1) [t12]) fun g t14 => B3 g ((Op.extract 2) [t12]) fun g t15 => A3 g T__26 [(.int .u64 0), (.int .u64 0), (.int .u64 0), (.int .u64 0), (.int .u64 0), (.int .u64 0), (.int .u64 0), (.int .u64 0)] H1 fun g t5 H2 => B32 g ((Op.store 8) [t5, t13] H2) fun g u H3 => W M c (law11_same_p 4) g Q ((7, t15)::(6, t14)::(5, t5)::(4, (.bool false))::E) D H3) ∧
 (∀ Q E D H, W M c (law11_same_p 4) true Q E D H =
  LK true (lk E 0) fun g t0 => C3 M g (.func N_core_Core_Halted) [t0] H fun g t18 H1 => B3 g ((Op.extract 0) [t18]) fun g t19 => B3 g ((Op.extract 1) [t18]) fun g t20 => W M c (law11_same_p 6) g Q ((9, t20)::(8, t19)::E) D H1) ∧
 (∀ Q E D H, W M c (law11_same_p 6) true Q E D H =
  LK true (lk E 0) fun g t0 => LK g (lk E 1) fun g t1 => B3 g (Op.nilCheck [t1]) fun g t24 => B3 g ((Op.fieldAddr 3) [t24]) fun g t25 => B3 g ((Op.fieldAddr 0) [t25]) fun g t26 => B3 g ((Op.loadN 8) [t26] H) fun g t27 => C3 M g (.func N_core_Core_Regs) [t0] H fun g t22 H1 => CK3 g ((Op.loadN 8) [t26] H1) (some t27) fun g => B3 g ((Op.eq (.agg (.part 0 none .int (.part 1 none .int (.part 2 none .int (.part 3 none .int (.part 4 none .int (.part 5 none .int (.part 6 none .int (.part 7 none .int .nil))))))))) true) [t22, t27] H1) fun g t28 => JN (fun (k : Bool → AV → AV → AV → AV → AV → AV → AV → AV → AHeap → Prop) => B3 g (wantV false (some t28)) fun g w => IG3 g w (fun g => B3 g (Op.nilCheck [t1]) fun g t33 => B3 g ((Op.fieldAddr 3) [t33]) fun g t34 => B3 g ((Op.fieldAddr 8) [t34]) fun g t35 => B3 g (Op.load1 [t35] H1) fun g t36 => C3 M g (.func N_core_Core_PC) [t0] H1 fun g t31 H2 => CK3 g (Op.load1 [t35] H2) (some t36) fun g => B3 g ((Op.bin .neq) [t31, t36]) fun g t37 => k g t37 t31 t36 t35 t34 t33 t1 t0 H2) (fun g => k g uu uu uu uu uu uu uu uu H1)) (fun g t37_1 t31_1 t36_1 t35_1 t34_1 t33_1 t32_1 t30_1 H3 => B3 g (Op.pick [t28, (.bool true), t37_1]) fun g t38 => JN (fun (k : Bool → AV → AV → AV → AV → AV → AV → AV → AHeap → Prop) => B3 g (wantV false (some t38)) fun g w => IG3 g w (fun g => LK g (lk E 7) fun g t7 => B3 g (Op.nilCheck [t1]) fun g t42 => B3 g ((Op.fieldAddr 3) [t42]) fun g t43 => B3 g ((Op.fieldAddr 9) [t43]) fun g t44 => B3 g (Op.load1 [t44] H3) fun g t45 => B3 g ((Op.eq .bool true) [t7, t45] H3) fun g t46 => k g t46 t45 t44 t43 t42 t1 t7 H3) (fun g => k g uu uu uu uu uu uu uu H3)) (fun g t46_1 t45_1 t44_1 t43_1 t42_1 t41_1 t40_1 H4 => B3 g (Op.pick [t38, (.bool true), t46_1]) fun g t47 => JN (fun (k : Bool → AV → AV → AHeap → Prop) => B3 g (wantV false (some t47)) fun g w => IG3 g w (fun g => LK g (lk E 7) fun g t7_1 => k g t7_1 t7_1 H4) (fun g => k g uu uu H4)) (fun g t50_1 t49_1 H5 => JN (fun (k : Bool → AV → AV → AV → AV → AV → AV → AV → AV → AHeap → Prop) => B3 g (wantV true (some t50_1)) fun g w => IG3 g w (fun g => LK g (lk E 5) fun g t5 => B3 g ((Op.loadN 8) [t5] H5) fun g t51 => B3 g (Op.nilCheck [t1]) fun g t53 => B3 g ((Op.fieldAddr 3) [t53]) fun g t54 => B3 g ((Op.fieldAddr 10) [t54]) fun g t55 => B3 g ((Op.loadN 8) [t55] H5) fun g t56 => B3 g ((Op.eq (.agg (.part 0 none .int (.part 1 none .int (.part 2 none .int (.part 3 none .int (.part 4 none .int (.part 5 none .int (.part 6 none .int (.part 7 none .int .nil))))))))) true) [t51, t56] H5) fun g t57 => k g t57 t57 t56 t55 t54 t53 t1 t51 H5) (fun g => k g uu uu uu uu uu uu uu uu H5)) (fun g t58_1 t57_1 t56_1 t55_1 t54_1 t53_1 t52_1 t51_1 H6 => JN (fun (k : Bool → AV → AV → AV → AV → AV → AV → AV → AHeap → Prop) => B3 g (wantV false (some t58_1)) fun g w => IG3 g w (fun g => LK g (lk E 6) fun g t6 => B3 g (Op.nilCheck [t1]) fun g t61 => B3 g ((Op.fieldAddr 3) [t61]) fun g t62 => B3 g ((Op.fieldAddr 18) [t62]) fun g t63 => B3 g (Op.load1 [t63] H6) fun g t64 => B3 g ((Op.bin .neq) [t6, t64]) fun g t65 => k g t65 t64 t63 t62 t61 t1 t6 H6) (fun g => k g uu uu uu uu uu uu uu H6)) (fun g t65_1 t64_1 t63_1 t62_1 t61_1 t60_1 t59_1 H7 => JN (fun (k : Bool → AV → AHeap → Prop) => B3 g (wantV true (some t50_1)) fun g w => IG3 g w (fun g => B3 g (Op.pick [t58_1, (.bool true), t65_1]) fun g t66 => k g t66 H7) (fun g => k g uu H7)) (fun g t66_1 H8 => JN (fun (k : Bool → AV → AHeap → Prop) => B3 g (wantV false (some t47)) fun g w => IG3 g w (fun g => B3 g (Op.pick [t50_1, t66_1, (.bool false)]) fun g t67 => k g t67 H8) (fun g => k g uu H8)) (fun g t67_1 H9 => B3 g (Op.pick [t47, (.bool true), t67_1]) fun g t68 => JN (fun (k : Bool → AV → AV → AV → AHeap → Prop) => B3 g (wantV false (some t68)) fun g w => IG3 g w (fun g => LK g (lk E 7) fun g t7_2 => B3 g ((Op.un .not) [t7_2]) fun g t71 => k g t71 t71 t7_2 H9) (fun g => k g uu uu uu H9)) (fun g t72_1 t71_1 t70_1 H10 => JN (fun (k : Bool → AV → AV → AV → AV → AHeap → Prop) => B3 g (wantV true (some t72_1)) fun g w => IG3 g w (fun g => LK g (lk E 5) fun g t5_1 => B3 g ((Op.loadN 8) [t5_1] H10) fun g t73 => B3 g ((Op.build [(.int .u64 0), (.int .u64 0), (.int .u64 0), (.int .u64 0), (.int .u64 0), (.int .u64 0), (.int .u64 0), (.int .u64 0)] []) []) fun g t74 => B3 g ((Op.eq (.agg (.part 0 none .int (.part 1 none .int (.part 2 none .int (.part 3 none .int (.part 4 none .int (.part 5 none .int (.part 6 none .int (.part 7 none .int .nil))))))))) true) [t73, t74] H10) fun g t75 => k g t75 t75 t74 t73 H10) (fun g => k g uu uu uu uu H10)) (fun g t76_1 t75_1 t74_1 t73_1 H11 => JN (fun (k : Bool → AV → AV → AHeap → Prop) => B3 g (wantV false (some t76_1)) fun g w => IG3 g w (fun g => LK g (lk E 6) fun g t6_1 => B3 g ((Op.bin .neq) [t6_1, (.int .i64 0)]) fun g t78 => k g t78 t6_1 H11) (fun g => k g uu uu H11)) (fun g t78_1 t77_1 H12 => JN (fun (k : Bool → AV → AHeap → Prop) => B3 g (wantV true (some t72_1)) fun g w => IG3 g w (fun g => B3 g (Op.pick [t76_1, (.bool true), t78_1]) fun g t79 => k g t79 H12) (fun g => k g uu H12)) (fun g t79_1 H13 => JN (fun (k : Bool → AV → AHeap → Prop) => B3 g (wantV false (some t68)) fun g w => IG3 g w (fun g => B3 g (Op.pick [t72_1, t79_1, (.bool false)]) fun g t80 => k g t80 H13) (fun g => k g uu H13)) (fun g t80_1 H14 => B3 g (Op.pick [t68, (.bool true), t80_1]) fun g t81 => IF3 g t81 (fun g => GO3 g (SEQ3 (W M c (law11_same_p 14)) Q) .ret ((4, (.bool false))::E) D H14) (fun g => GO3 g (SEQ3 (W M c (law11_same_p 14)) Q) .normal E D H14)))))))))))))) ∧
 (∀ Q E D H, W M c (law11_same_p 14) true Q E D H =
  LK true (lk E 8) fun g t8 => LK g (lk E 1) fun g t1 => B3 g (Op.nilCheck [t1]) fun g t84 => B3 g ((Op.fieldAddr 57) [t84]) fun g t85 => B3 g (Op.load1 [t85] H) fun g t86 => B3 g ((Op.eq .bool false) [t8, t86] H) fun g t87 => JN (fun (k : Bool → AV → AV → AV → AV → AV → AV → AHeap → Prop) => B3 g (wantV true (some t87)) fun g w => IG3 g w (fun g => LK g (lk E 9) fun g t9 => B3 g (Op.nilCheck [t1]) fun g t91 => B3 g ((Op.fieldAddr 58) [t91]) fun g t92 => B3 g (Op.load1 [t92] H) fun g t93 => B3 g ((Op.eq .bool false) [t9, t93] H) fun g t94 => k g t94 t93 t92 t91 t1 t9 H) (fun g => k g uu uu uu uu uu uu H)) (fun g t94_1 t93_1 t92_1 t91_1 t90_1 t89_1 H1 => B3 g (Op.pick [t87, t94_1, (.bool false)]) fun g t95 => JN (fun (k : Bool → AV → AV → AV → AV → AV → AV → AV → AV → AHeap → Prop) => B3 g (wantV true (some t95)) fun g w => IG3 g w (fun g => LK g (lk E 0) fun g t0 => B3 g (Op.nilCheck [t1]) fun g t100 => B3 g ((Op.fieldAddr 22) [t100]) fun g t101 => B3 g ((Op.fieldAddr 3) [t101]) fun g t102 => B3 g (Op.load1 [t102] H1) fun g t103 => C3 M g (.func N_core_Core_Lane) [t0] H1 fun g t98 H2 => CK3 g (Op.load1 [t102] H2) (some t103) fun g => B3 g ((Op.bin .eql) [t98, t103]) fun g t104 => k g t104 t98 t103 t102 t101 t100 t1 t0 H2) (fun g => k g uu uu uu uu uu uu uu uu H1)) (fun g t104_1 t98_1 t103_1 t102_1 t101_1 t100_1 t99_1 t97_1 H3 => B3 g (Op.pick [t95, t104_1, (.bool false)]) fun g t105 => JN (fun (k : Bool → AV → AV → AV → AV → AV → AV → AV → AV → AHeap → Prop) => B3 g (wantV true (some t105)) fun g w => IG3 g w (fun g => LK g (lk E 0) fun g t0_1 => B3 g (Op.nilCheck [t1]) fun g t110 => B3 g ((Op.fieldAddr 55) [t110]) fun g t111 => B3 g (Op.load1 [t111] H3) fun g t112 => B3 g ((Op.bin .sub) [t112, (.int .i64 1)]) fun g t113 => C3 M g (.func N_core_Core_Block) [t0_1] H3 fun g t108 H4 => CK3 g (Op.load1 [t111] H4) (some t112) fun g => B3 g ((Op.bin .eql) [t108, t113]) fun g t114 => k g t114 t108 t113 t112 t111 t110 t1 t0_1 H4) (fun g => k g uu uu uu uu uu uu uu uu H3)) (fun g t114_1 t108_1 t113_1 t112_1 t111_1 t110_1 t109_1 t107_1 H5 => B3 g (Op.pick [t105, t114_1, (.bool false)]) fun g t115 => JN (fun (k : Bool → AV → AV → AV → AV → AV → AV → AV → AHeap → Prop) => B3 g (wantV true (some t115)) fun g w => IG3 g w (fun g => LK g (lk E 0) fun g t0_2 => B3 g (Op.nilCheck [t1]) fun g t120 => B3 g ((Op.fieldAddr 22) [t120]) fun g t121 => C3 M g (.func N_core_Core_Counts) [t0_2] H5 fun g t118 H6 => C3 M g (.func N_ref09_Control_Counts) [t121] H6 fun g t122 H7 => B3 g ((Op.eq (.agg (.part 0 none .int (.part 1 none .int (.part 2 none .int (.part 3 none .int (.part 4 none .int .nil)))))) false) [t118, t122] H7) fun g t123 => k g t123 t122 t118 t121 t120 t1 t0_2 H7) (fun g => k g uu uu uu uu uu uu uu H5)) (fun g t123_1 t122_1 t118_1 t121_1 t120_1 t119_1 t117_1 H8 => B3 g (Op.pick [t115, t123_1, (.bool false)]) fun g t124 => JN (fun (k : Bool → AV → AV → AV → AV → AV → AV → AV → AHeap → Prop) => B3 g (wantV true (some t124)) fun g w => IG3 g w (fun g => LK g (lk E 0) fun g t0_3 => B3 g (Op.nilCheck [t1]) fun g t129 => B3 g ((Op.fieldAddr 56) [t129]) fun g t130 => B3 g (Op.load1 [t130] H8) fun g t131 => C3 M g (.func N_core_Core_Instrs) [t0_3] H8 fun g t127 H9 => CK3 g (Op.load1 [t130] H9) (some t131) fun g => B3 g ((Op.bin .eql) [t127, t131]) fun g t132 => k g t132 t127 t131 t130 t129 t1 t0_3 H9) (fun g => k g uu uu uu uu uu uu uu H8)) (fun g t132_1 t127_1 t131_1 t130_1 t129_1 t128_1 t126_1 H10 => B3 g (Op.pick [t124, t132_1, (.bool false)]) fun g t133 => JN (fun (k : Bool → AV → AV → AV → AV → AV → AHeap → Prop) => B3 g (wantV true (some t133)) fun g w => IG3 g w (fun g => LK g (lk E 0) fun g t0_4 => C3 M g (.func N_core_Core_Alone) [t0_4] H10 fun g t136 H11 => C3 M g (.func N_ref11_Core_Alone) [t1] H11 fun g t138 H12 => B3 g ((Op.eq .bool false) [t136, t138] H12) fun g t139 => k g t139 t138 t136 t1 t0_4 H12) (fun g => k g uu uu uu uu uu H10)) (fun g t139_1 t138_1 t136_1 t137_1 t135_1 H13 => B3 g (Op.pick [t133, t139_1, (.bool false)]) fun g t140 => GO3 g Q .ret ((4, t140)::E) D H13))))))) := by (repeat' apply And.intro) <;> (intro _ _ _ _; refine W_unf ?_; kernel_rfl)
theorem law11_same_f : (cProg Try.prog).func N_law11_same = some law11_same_F ∧ law11_same_F.results = [.tmp 4] := pair_rfl (by kernel_rfl)
theorem law11_same_at {M : Mac} [MK M] : M.func N_law11_same = some law11_same_F := MK.at (by decide) law11_same_f.1
theorem law11_same_s {M : Mac} [MK M] {a0 a1 : AV} {H : AHeap} {Q : AEnd → AHeap → Prop} (h : W M ⟨none, N_law11_same⟩ (law11_same_p 0) true (FIN3 M [.tmp 4] Q) [(0, a0), (1, a1)] [] H) : CALLE M N_law11_same [a0, a1] H Q :=
  calle law11_same_at (ks := law11_same_K) (by kernel_rfl) (by rw [law11_same_f.2]; exact h)
def lanes_New_F : AFunc := funcAt Try.prog N_lanes_New
def lanes_New_K : Kp := ⟨[0, 1, 2, 3, 4, 5], false, [0, 4, 12]⟩
def lanes_New_p (k : Nat) : Kp × ACode := (lanes_New_K, part lanes_New_F.body k)
theorem lanes_New_w (M : Mac) (c : Ctx) : (∀ Q E D H, W M c (lanes_New_p 0) true Q E D H =
  LK true (lk E 0) fun g t0 => A3 g T_api_Budget (AV.cells t0) H fun g t1 H1 => B3 g ((Op.loadN 3) [t1] H1) fun g t7 => C3 M g (.func N_lanes_budgets) [t7] H1 fun g t8 H2 => B3 g ((Op.extract 0) [t8]) fun g t9 => B3 g ((Op.extract 1) [t8]) fun g t10 => A3 g T__60 [(.int .i64 0), (.int .i64 0), (.int .i64 0), (.int .i64 0), (.int .i64 0)] H2 fun g t4 H3 => B32 g ((Op.store 5) [t4, t9] H3) fun g u H4 => W M c (lanes_New_p 4) g Q ((5, t10)::(4, t4)::(3, (.int .i64 0))::(2, .nilp)::(1, t1)::E) D H4) ∧
 (∀ Q E D H, W M c (lanes_New_p 4) true Q E D H =
  LK true (lk E 5) fun g t5 => B3 g ((Op.un .not) [t5]) fun g t12 => IF3 g t12 (fun g => GO3 g (SEQ3 (W M c (lanes_New_p 12)) Q) .ret ((3, (.int .i64 2))::(2, .nilp)::E) D H) (fun g => GO3 g (SEQ3 (W M c (lanes_New_p 12)) Q) .normal E D H)) ∧
 (∀ Q E D H, W M c (lanes_New_p 12) true Q E D H =
  LK true (lk E 4) fun g t4 => B3 g ((Op.loadN 5) [t4] H) fun g t13 => B3 g ((Op.build [(.int .i64 0), (.int .i64 0), (.int .i64 0), (.int .i64 0), (.int .i64 0), (.int .i64 0), (.int .i64 0), (.int .i64 0), (.int .i64 0), (.int .i64 0), (.int .i64 0), (.bool false)] [(0, 5), (11, 1)]) [t13, (.bool true)]) fun g t14 => A3 g T_lanes_Control (AV.cells t14) H fun g t15 H1 => GO3 g Q .ret ((3, (.int .i64 0))::(2, t15)::E) D H1) := by (repeat' apply And.intro) <;> (intro _ _ _ _; refine W_unf ?_; kernel_rfl)
theorem lanes_New_f : (cProg Try.prog).func N_lanes_New = some lanes_New_F ∧ lanes_New_F.results = [.tmp 2, .tmp 3] := pair_rfl (by kernel_rfl)
theorem lanes_New_at {M : Mac} [MK M] : M.func N_lanes_New = some lanes_New_F := MK.at (by decide) lanes_New_f.1
theorem lanes_New_s {M : Mac} [MK M] {a0 : AV} {H : AHeap} {Q : AEnd → AHeap → Prop} (h : W M ⟨none, N_lanes_New⟩ (lanes_New_p 0) true (FIN3 M [.tmp 2, .tmp 3] Q) [(0, a0)] [] H) : CALLE M N_lanes_New [a0] H Q :=
  calle lanes_New_at (ks := lanes_New_K) (by kernel_rfl) (by rw [lanes_New_f.2]; exact h)
def slices_Clone_api_Instr_F : AFunc := funcAt Try.prog N_slices_Clone_api_Instr
def slices_Clone_api_Instr_K : Kp := ⟨[0, 2], false, [0, 2, 10]⟩
def slices_Clone_api_Instr_p (k : Nat) : Kp × ACode := (slices_Clone_api_Instr_K, part slices_Clone_api_Instr_F.body k)
theorem slices_Clone_api_Instr_w (M : Mac) (c : Ctx) : (∀ Q E D H, W M c (slices_Clone_api_Instr_p 0) true Q E D H =
  W M c (slices_Clone_api_Instr_p 2) true Q ((2, .nils)::E) D H) ∧
 (∀ Q E D H, W M c (slices_Clone_api_Instr_p 2) true Q E D H =
  LK true (lk E 0) fun g t0 => B3 g ((Op.eq .slice false) [t0, .nils] H) fun g t4 => IF3 g t4 (fun g => GO3 g (SEQ3 (W M c (slices_Clone_api_Instr_p 10)) Q) .ret ((2, .nils)::E) D H) (fun g => GO3 g (SEQ3 (W M c (slices_Clone_api_Instr_p 10)) Q) .normal E D H)) ∧
 (∀ Q E D H, W M c (slices_Clone_api_Instr_p 10) true Q E D H =
  B32 true ((Op.buildSlice T_api_Instr 0 [(.int .i64 0), (.int .i64 0), (.int .i64 0), (.int .i64 0), (.int .i64 0)] []) []) fun g o1 k1 => LK g (lk E 0) fun g t0 => B32 g ((Op.append T_api_Instr 5 40) [(k1 H.next), t0] (H.alloc o1)) fun g t7 H2 => GO3 g Q .ret ((2, t7)::E) D H2) := by (repeat' apply And.intro) <;> (intro _ _ _ _; refine W_unf ?_; kernel_rfl)
theorem slices_Clone_api_Instr_f : (cProg Try.prog).func N_slices_Clone_api_Instr = some slices_Clone_api_Instr_F ∧ slices_Clone_api_Instr_F.results = [.tmp 2] := pair_rfl (by kernel_rfl)
theorem slices_Clone_api_Instr_at {M : Mac} [MK M] : M.func N_slices_Clone_api_Instr = some slices_Clone_api_Instr_F := MK.at (by decide) slices_Clone_api_Instr_f.1
theorem slices_Clone_api_Instr_s {M : Mac} [MK M] {a0 : AV} {H : AHeap} {Q : AEnd → AHeap → Prop} (h : W M ⟨none, N_slices_Clone_api_Instr⟩ (slices_Clone_api_Instr_p 0) true (FIN3 M [.tmp 2] Q) [(0, a0)] [] H) : CALLE M N_slices_Clone_api_Instr [a0] H Q :=
  calle slices_Clone_api_Instr_at (ks := slices_Clone_api_Instr_K) (by kernel_rfl) (by rw [slices_Clone_api_Instr_f.2]; exact h)
def regs_New_F : AFunc := funcAt Try.prog N_regs_New
def regs_New_K : Kp := ⟨[0], false, [0]⟩
def regs_New_p (k : Nat) : Kp × ACode := (regs_New_K, part regs_New_F.body k)
theorem regs_New_w (M : Mac) (c : Ctx) : (∀ Q E D H, W M c (regs_New_p 0) true Q E D H =
  B3 true ((Op.build [(.int .u64 0), (.int .u64 0), (.int .u64 0), (.int .u64 0), (.int .u64 0), (.int .u64 0), (.int .u64 0), (.int .u64 0), (.int .i64 0), .nilp, (.bool false)] [(10, 1)]) [(.bool true)]) fun g t1 => A3 g T_regs_File (AV.cells t1) H fun g t2 H1 => GO3 g Q .ret ((0, t2)::(0, .nilp)::E) D H1) := by intro _ _ _ _; refine W_unf ?_; kernel_rfl
theorem regs_New_f : (cProg Try.prog).func N_regs_New = some regs_New_F ∧ regs_New_F.results = [.tmp 0] := pair_rfl (by kernel_rfl)
theorem regs_New_at {M : Mac} [MK M] : M.func N_regs_New = some regs_New_F := MK.at (by decide) regs_New_f.1
theorem regs_New_s {M : Mac} [MK M] {H0 : AHeap} {H : AHeap} {Q : AEnd → AHeap → Prop} (h : W M ⟨none, N_regs_New⟩ (regs_New_p 0) true (FIN3 M [.tmp 0] Q) [] [] H) : CALLE M N_regs_New [] H Q :=
  calle regs_New_at (ks := regs_New_K) (by kernel_rfl) (by rw [regs_New_f.2]; exact h)
def soft_New_F : AFunc := funcAt Try.prog N_soft_New
def soft_New_K : Kp := ⟨[0], false, [0]⟩
def soft_New_p (k : Nat) : Kp × ACode := (soft_New_K, part soft_New_F.body k)
theorem soft_New_w (M : Mac) (c : Ctx) : (∀ Q E D H, W M c (soft_New_p 0) true Q E D H =
  C3 M true (.func N_log_New) [] H fun g t1 H1 => B3 g ((Op.build [.nilp, (.int .i64 0), (.int .i64 0), (.int .u64 0), (.int .u64 0), .nilf, (.bool false), (.bool false), (.bool false), (.int .u64 0), (.int .u64 0), (.int .i64 0), (.int .i64 0)] [(0, 1)]) [t1]) fun g t2 => A3 g T_soft_Path (AV.cells t2) H1 fun g t3 H2 => GO3 g Q .ret ((0, t3)::(0, .nilp)::E) D H2) := by intro _ _ _ _; refine W_unf ?_; kernel_rfl
theorem soft_New_f : (cProg Try.prog).func N_soft_New = some soft_New_F ∧ soft_New_F.results = [.tmp 0] := pair_rfl (by kernel_rfl)
theorem soft_New_at {M : Mac} [MK M] : M.func N_soft_New = some soft_New_F := MK.at (by decide) soft_New_f.1
theorem soft_New_s {M : Mac} [MK M] {H0 : AHeap} {H : AHeap} {Q : AEnd → AHeap → Prop} (h : W M ⟨none, N_soft_New⟩ (soft_New_p 0) true (FIN3 M [.tmp 0] Q) [] [] H) : CALLE M N_soft_New [] H Q :=
  calle soft_New_at (ks := soft_New_K) (by kernel_rfl) (by rw [soft_New_f.2]; exact h)
def ref09_May_F : AFunc := funcAt Try.prog N_ref09_May
def ref09_May_K : Kp := ⟨[0, 1, 2], false, [0]⟩
def ref09_May_p (k : Nat) : Kp × ACode := (ref09_May_K, part ref09_May_F.body k)
theorem ref09_May_w (M : Mac) (c : Ctx) : (∀ Q E D H, W M c (ref09_May_p 0) true Q E D H =
  LK true (lk E 0) fun g t0 => A3 g T_api_Budget (AV.cells t0) H fun g t1 H1 => B3 g ((Op.fieldAddr 0) [t1]) fun g t3 => B3 g (Op.load1 [t3] H1) fun g t4 => B3 g ((Op.bin .geq) [t4, (.int .i64 0)]) fun g t5 => JN (fun (k : Bool → AV → AV → AV → AHeap → Prop) => B3 g (wantV true (some t5)) fun g w => IG3 g w (fun g => B3 g ((Op.fieldAddr 0) [t1]) fun g t7 => B3 g (Op.load1 [t7] H1) fun g t8 => B3 g ((Op.bin .leq) [t8, (.int .i64 16)]) fun g t9 => k g t9 t8 t7 H1) (fun g => k g uu uu uu H1)) (fun g t9_1 t8_1 t7_1 H2 => B3 g (Op.pick [t5, t9_1, (.bool false)]) fun g t10 => JN (fun (k : Bool → AV → AV → AV → AHeap → Prop) => B3 g (wantV true (some t10)) fun g w => IG3 g w (fun g => B3 g ((Op.fieldAddr 1) [t1]) fun g t12 => B3 g (Op.load1 [t12] H2) fun g t13 => B3 g ((Op.bin .geq) [t13, (.int .i64 0)]) fun g t14 => k g t14 t13 t12 H2) (fun g => k g uu uu uu H2)) (fun g t14_1 t13_1 t12_1 H3 => B3 g (Op.pick [t10, t14_1, (.bool false)]) fun g t15 => JN (fun (k : Bool → AV → AV → AV → AHeap → Prop) => B3 g (wantV true (some t15)) fun g w => IG3 g w (fun g => B3 g ((Op.fieldAddr 1) [t1]) fun g t17 => B3 g (Op.load1 [t17] H3) fun g t18 => B3 g ((Op.bin .leq) [t18, (.int .i64 16)]) fun g t19 => k g t19 t18 t17 H3) (fun g => k g uu uu uu H3)) (fun g t19_1 t18_1 t17_1 H4 => B3 g (Op.pick [t15, t19_1, (.bool false)]) fun g t20 => JN (fun (k : Bool → AV → AV → AV → AHeap → Prop) => B3 g (wantV true (some t20)) fun g w => IG3 g w (fun g => B3 g ((Op.fieldAddr 2) [t1]) fun g t22 => B3 g (Op.load1 [t22] H4) fun g t23 => B3 g ((Op.bin .geq) [t23, (.int .i64 0)]) fun g t24 => k g t24 t23 t22 H4) (fun g => k g uu uu uu H4)) (fun g t24_1 t23_1 t22_1 H5 => B3 g (Op.pick [t20, t24_1, (.bool false)]) fun g t25 => JN (fun (k : Bool → AV → AV → AV → AHeap → Prop) => B3 g (wantV true (some t25)) fun g w => IG3 g w (fun g => B3 g ((Op.fieldAddr 2) [t1]) fun g t27 => B3 g (Op.load1 [t27] H5) fun g t28 => B3 g ((Op.bin .leq) [t28, (.int .i64 16)]) fun g t29 => k g t29 t28 t27 H5) (fun g => k g uu uu uu H5)) (fun g t29_1 t28_1 t27_1 H6 => B3 g (Op.pick [t25, t29_1, (.bool false)]) fun g t30 => GO3 g Q .ret ((2, t30)::(2, (.bool false))::(1, t1)::E) D H6)))))) := by intro _ _ _ _; refine W_unf ?_; kernel_rfl
theorem ref09_May_f : (cProg Try.prog).func N_ref09_May = some ref09_May_F ∧ ref09_May_F.results = [.tmp 2] := pair_rfl (by kernel_rfl)
theorem ref09_May_at {M : Mac} [MK M] : M.func N_ref09_May = some ref09_May_F := MK.at (by decide) ref09_May_f.1
theorem ref09_May_s {M : Mac} [MK M] {a0 : AV} {H : AHeap} {Q : AEnd → AHeap → Prop} (h : W M ⟨none, N_ref09_May⟩ (ref09_May_p 0) true (FIN3 M [.tmp 2] Q) [(0, a0)] [] H) : CALLE M N_ref09_May [a0] H Q :=
  calle ref09_May_at (ks := ref09_May_K) (by kernel_rfl) (by rw [ref09_May_f.2]; exact h)
def core_Core_Point_F : AFunc := funcAt Try.prog N_core_Core_Point
def core_Core_Point_K : Kp := ⟨[0, 2, 3, 4, 8], false, [0, 2, 10]⟩
def core_Core_Point_p (k : Nat) : Kp × ACode := (core_Core_Point_K, part core_Core_Point_F.body k)
theorem core_Core_Point_w (M : Mac) (c : Ctx) : (∀ Q E D H, W M c (core_Core_Point_p 0) true Q E D H =
  A3 true T__26 [(.int .u64 0), (.int .u64 0), (.int .u64 0), (.int .u64 0), (.int .u64 0), (.int .u64 0), (.int .u64 0), (.int .u64 0)] H fun g t2 H1 => W M c (core_Core_Point_p 2) g Q ((4, (.bool false))::(3, (.int .i64 0))::(2, t2)::E) D H1) ∧
 (∀ Q E D H, W M c (core_Core_Point_p 2) true Q E D H =
  LK true (lk E 0) fun g t0 => C3 M g (.func N_core_Core_none) [t0] H fun g t6 H1 => IF3 g t6 (fun g => B3 g ((Op.build [(.int .u64 0), (.int .u64 0), (.int .u64 0), (.int .u64 0), (.int .u64 0), (.int .u64 0), (.int .u64 0), (.int .u64 0)] []) []) fun g t7 => LK g (lk E 2) fun g t2 => B32 g ((Op.store 8) [t2, t7] H1) fun g u H2 => GO3 g (SEQ3 (W M c (core_Core_Point_p 10)) Q) .ret ((4, (.bool false))::(3, (.int .i64 0))::E) D H2) (fun g => GO3 g (SEQ3 (W M c (core_Core_Point_p 10)) Q) .normal E D H1)) ∧
 (∀ Q E D H, W M c (core_Core_Point_p 10) true Q E D H =
  LK true (lk E 0) fun g t0 => B3 g (Op.nilCheck [t0]) fun g t9 => B3 g ((Op.fieldAddr 3) [t9]) fun g t10 => B3 g (Op.load1 [t10] H) fun g t11 => C3 M g (.func N_regs_File_Point) [t11] H fun g t12 H1 => B3 g ((Op.extract 0) [t12]) fun g t13 => B3 g ((Op.extract 1) [t12]) fun g t14 => B3 g ((Op.extract 2) [t12]) fun g t15 => LK g (lk E 2) fun g t2 => B32 g ((Op.store 8) [t2, t13] H1) fun g u H2 => GO3 g Q .ret ((4, t15)::(3, t14)::(8, t0)::E) D H2) := by (repeat' apply And.intro) <;> (intro _ _ _ _; refine W_unf ?_; kernel_rfl)
theorem core_Core_Point_f : (cProg Try.prog).func N_core_Core_Point = some core_Core_Point_F ∧ core_Core_Point_F.results = [.cellN 8 2, .tmp 3, .tmp 4] := pair_rfl (by kernel_rfl)
theorem core_Core_Point_at {M : Mac} [MK M] : M.func N_core_Core_Point = some core_Core_Point_F := MK.at (by decide) core_Core_Point_f.1
theorem core_Core_Point_s {M : Mac} [MK M] {a0 : AV} {H : AHeap} {Q : AEnd → AHeap → Prop} (h : W M ⟨none, N_core_Core_Point⟩ (core_Core_Point_p 0) true (FIN3 M [.cellN 8 2, .tmp 3, .tmp 4] Q) [(0, a0)] [] H) : CALLE M N_core_Core_Point [a0] H Q :=
  calle core_Core_Point_at (ks := core_Core_Point_K) (by kernel_rfl) (by rw [core_Core_Point_f.2]; exact h)
def core_Core_Halted_F : AFunc := funcAt Try.prog N_core_Core_Halted
def core_Core_Halted_K : Kp := ⟨[0, 2, 3], false, [0]⟩
def core_Core_Halted_p (k : Nat) : Kp × ACode := (core_Core_Halted_K, part core_Core_Halted_F.body k)
theorem core_Core_Halted_w (M : Mac) (c : Ctx) : (∀ Q E D H, W M c (core_Core_Halted_p 0) true Q E D H =
  LK true (lk E 0) fun g t0 => C3 M g (.func N_core_Core_none) [t0] H fun g t5 H1 => B3 g ((Op.un .not) [t5]) fun g t6 => JN (fun (k : Bool → AV → AV → AV → AV → AHeap → Prop) => B3 g (wantV true (some t6)) fun g w => IG3 g w (fun g => B3 g (Op.nilCheck [t0]) fun g t9 => B3 g ((Op.fieldAddr 20) [t9]) fun g t10 => B3 g (Op.load1 [t10] H1) fun g t11 => k g t11 t10 t9 t0 H1) (fun g => k g uu uu uu uu H1)) (fun g t11_1 t10_1 t9_1 t8_1 H2 => B3 g (Op.pick [t6, t11_1, (.bool false)]) fun g t12 => C3 M g (.func N_core_Core_none) [t0] H2 fun g t14 H3 => JN (fun (k : Bool → AHeap → Prop) => B3 g (wantV true (some t6)) fun g w => IG3 g w (fun g => CK3 g (Op.load1 [t10_1] H3) (some t11_1) fun g => k g H3) (fun g => k g H3)) (fun g H4 => B3 g ((Op.un .not) [t14]) fun g t15 => JN (fun (k : Bool → AV → AV → AV → AV → AHeap → Prop) => B3 g (wantV true (some t15)) fun g w => IG3 g w (fun g => B3 g (Op.nilCheck [t0]) fun g t18 => B3 g ((Op.fieldAddr 21) [t18]) fun g t19 => B3 g (Op.load1 [t19] H4) fun g t20 => k g t20 t19 t18 t0 H4) (fun g => k g uu uu uu uu H4)) (fun g t20_1 t19_1 t18_1 t17_1 H5 => B3 g (Op.pick [t15, t20_1, (.bool false)]) fun g t21 => GO3 g Q .ret ((3, t21)::(2, t12)::(3, (.bool false))::(2, (.bool false))::E) D H5)))) := by intro _ _ _ _; refine W_unf ?_; kernel_rfl
theorem core_Core_Halted_f : (cProg Try.prog).func N_core_Core_Halted = some core_Core_Halted_F ∧ core_Core_Halted_F.results = [.tmp 2, .tmp 3] := pair_rfl (by kernel_rfl)
theorem core_Core_Halted_at {M : Mac} [MK M] : M.func N_core_Core_Halted = some core_Core_Halted_F := MK.at (by decide) core_Core_Halted_f.1
theorem core_Core_Halted_s {M : Mac} [MK M] {a0 : AV} {H : AHeap} {Q : AEnd → AHeap → Prop} (h : W M ⟨none, N_core_Core_Halted⟩ (core_Core_Halted_p 0) true (FIN3 M [.tmp 2, .tmp 3] Q) [(0, a0)] [] H) : CALLE M N_core_Core_Halted [a0] H Q :=
  calle core_Core_Halted_at (ks := core_Core_Halted_K) (by kernel_rfl) (by rw [core_Core_Halted_f.2]; exact h)
def core_Core_Regs_F : AFunc := funcAt Try.prog N_core_Core_Regs
def core_Core_Regs_K : Kp := ⟨[0, 2, 8], false, [0, 2, 10]⟩
def core_Core_Regs_p (k : Nat) : Kp × ACode := (core_Core_Regs_K, part core_Core_Regs_F.body k)
theorem core_Core_Regs_w (M : Mac) (c : Ctx) : (∀ Q E D H, W M c (core_Core_Regs_p 0) true Q E D H =
  A3 true T__26 [(.int .u64 0), (.int .u64 0), (.int .u64 0), (.int .u64 0), (.int .u64 0), (.int .u64 0), (.int .u64 0), (.int .u64 0)] H fun g t2 H1 => W M c (core_Core_Regs_p 2) g Q ((2, t2)::E) D H1) ∧
 (∀ Q E D H, W M c (core_Core_Regs_p 2) true Q E D H =
  LK true (lk E 0) fun g t0 => C3 M g (.func N_core_Core_none) [t0] H fun g t4 H1 => IF3 g t4 (fun g => B3 g ((Op.build [(.int .u64 0), (.int .u64 0), (.int .u64 0), (.int .u64 0), (.int .u64 0), (.int .u64 0), (.int .u64 0), (.int .u64 0)] []) []) fun g t5 => LK g (lk E 2) fun g t2 => B32 g ((Op.store 8) [t2, t5] H1) fun g u H2 => GO3 g (SEQ3 (W M c (core_Core_Regs_p 10)) Q) .ret E D H2) (fun g => GO3 g (SEQ3 (W M c (core_Core_Regs_p 10)) Q) .normal E D H1)) ∧
 (∀ Q E D H, W M c (core_Core_Regs_p 10) true Q E D H =
  LK true (lk E 0) fun g t0 => B3 g (Op.nilCheck [t0]) fun g t7 => B3 g ((Op.fieldAddr 3) [t7]) fun g t8 => B3 g (Op.load1 [t8] H) fun g t9 => C3 M g (.func N_regs_File_All) [t9] H fun g t10 H1 => LK g (lk E 2) fun g t2 => B32 g ((Op.store 8) [t2, t10] H1) fun g u H2 => GO3 g Q .ret ((8, t8)::E) D H2) := by (repeat' apply And.intro) <;> (intro _ _ _ _; refine W_unf ?_; kernel_rfl)
theorem core_Core_Regs_f : (cProg Try.prog).func N_core_Core_Regs = some core_Core_Regs_F ∧ core_Core_Regs_F.results = [.cellN 8 2] := pair_rfl (by kernel_rfl)
theorem core_Core_Regs_at {M : Mac} [MK M] : M.func N_core_Core_Regs = some core_Core_Regs_F := MK.at (by decide) core_Core_Regs_f.1
theorem core_Core_Regs_s {M : Mac} [MK M] {a0 : AV} {H : AHeap} {Q : AEnd → AHeap → Prop} (h : W M ⟨none, N_core_Core_Regs⟩ (core_Core_Regs_p 0) true (FIN3 M [.cellN 8 2] Q) [(0, a0)] [] H) : CALLE M N_core_Core_Regs [a0] H Q :=
  calle core_Core_Regs_at (ks := core_Core_Regs_K) (by kernel_rfl) (by rw [core_Core_Regs_f.2]; exact h)
def core_Core_PC_F : AFunc := funcAt Try.prog N_core_Core_PC
def core_Core_PC_K : Kp := ⟨[0, 2], false, [0, 2, 10]⟩
def core_Core_PC_p (k : Nat) : Kp × ACode := (core_Core_PC_K, part core_Core_PC_F.body k)
theorem core_Core_PC_w (M : Mac) (c : Ctx) : (∀ Q E D H, W M c (core_Core_PC_p 0) true Q E D H =
  W M c (core_Core_PC_p 2) true Q ((2, (.int .i64 0))::E) D H) ∧
 (∀ Q E D H, W M c (core_Core_PC_p 2) true Q E D H =
  LK true (lk E 0) fun g t0 => C3 M g (.func N_core_Core_none) [t0] H fun g t4 H1 => IF3 g t4 (fun g => GO3 g (SEQ3 (W M c (core_Core_PC_p 10)) Q) .ret ((2, (.int .i64 0))::E) D H1) (fun g => GO3 g (SEQ3 (W M c (core_Core_PC_p 10)) Q) .normal E D H1)) ∧
 (∀ Q E D H, W M c (core_Core_PC_p 10) true Q E D H =
  LK true (lk E 0) fun g t0 => B3 g (Op.nilCheck [t0]) fun g t6 => B3 g ((Op.fieldAddr 3) [t6]) fun g t7 => B3 g (Op.load1 [t7] H) fun g t8 => C3 M g (.func N_regs_File_PC) [t8] H fun g t9 H1 => GO3 g Q .ret ((2, t9)::E) D H1) := by (repeat' apply And.intro) <;> (intro _ _ _ _; refine W_unf ?_; kernel_rfl)
theorem core_Core_PC_f : (cProg Try.prog).func N_core_Core_PC = some core_Core_PC_F ∧ core_Core_PC_F.results = [.tmp 2] := pair_rfl (by kernel_rfl)
theorem core_Core_PC_at {M : Mac} [MK M] : M.func N_core_Core_PC = some core_Core_PC_F := MK.at (by decide) core_Core_PC_f.1
theorem core_Core_PC_s {M : Mac} [MK M] {a0 : AV} {H : AHeap} {Q : AEnd → AHeap → Prop} (h : W M ⟨none, N_core_Core_PC⟩ (core_Core_PC_p 0) true (FIN3 M [.tmp 2] Q) [(0, a0)] [] H) : CALLE M N_core_Core_PC [a0] H Q :=
  calle core_Core_PC_at (ks := core_Core_PC_K) (by kernel_rfl) (by rw [core_Core_PC_f.2]; exact h)
def core_Core_Lane_F : AFunc := funcAt Try.prog N_core_Core_Lane
def core_Core_Lane_K : Kp := ⟨[0, 2], false, [0, 2, 10]⟩
def core_Core_Lane_p (k : Nat) : Kp × ACode := (core_Core_Lane_K, part core_Core_Lane_F.body k)
theorem core_Core_Lane_w (M : Mac) (c : Ctx) : (∀ Q E D H, W M c (core_Core_Lane_p 0) true Q E D H =
  W M c (core_Core_Lane_p 2) true Q ((2, (.int .i64 0))::E) D H) ∧
 (∀ Q E D H, W M c (core_Core_Lane_p 2) true Q E D H =
  LK true (lk E 0) fun g t0 => C3 M g (.func N_core_Core_none) [t0] H fun g t4 H1 => IF3 g t4 (fun g => GO3 g (SEQ3 (W M c (core_Core_Lane_p 10)) Q) .ret ((2, (.int .i64 0))::E) D H1) (fun g => GO3 g (SEQ3 (W M c (core_Core_Lane_p 10)) Q) .normal E D H1)) ∧
 (∀ Q E D H, W M c (core_Core_Lane_p 10) true Q E D H =
  LK true (lk E 0) fun g t0 => B3 g (Op.nilCheck [t0]) fun g t6 => B3 g ((Op.fieldAddr 4) [t6]) fun g t7 => B3 g (Op.load1 [t7] H) fun g t8 => C3 M g (.func N_lanes_Control_Lane) [t8] H fun g t9 H1 => GO3 g Q .ret ((2, t9)::E) D H1) := by (repeat' apply And.intro) <;> (intro _ _ _ _; refine W_unf ?_; kernel_rfl)
theorem core_Core_Lane_f : (cProg Try.prog).func N_core_Core_Lane = some core_Core_Lane_F ∧ core_Core_Lane_F.results = [.tmp 2] := pair_rfl (by kernel_rfl)
theorem core_Core_Lane_at {M : Mac} [MK M] : M.func N_core_Core_Lane = some core_Core_Lane_F := MK.at (by decide) core_Core_Lane_f.1
theorem core_Core_Lane_s {M : Mac} [MK M] {a0 : AV} {H : AHeap} {Q : AEnd → AHeap → Prop} (h : W M ⟨none, N_core_Core_Lane⟩ (core_Core_Lane_p 0) true (FIN3 M [.tmp 2] Q) [(0, a0)] [] H) : CALLE M N_core_Core_Lane [a0] H Q :=
  calle core_Core_Lane_at (ks := core_Core_Lane_K) (by kernel_rfl) (by rw [core_Core_Lane_f.2]; exact h)
def core_Core_Block_F : AFunc := funcAt Try.prog N_core_Core_Block
def core_Core_Block_K : Kp := ⟨[0, 2], false, [0, 2, 10]⟩
def core_Core_Block_p (k : Nat) : Kp × ACode := (core_Core_Block_K, part core_Core_Block_F.body k)
theorem core_Core_Block_w (M : Mac) (c : Ctx) : (∀ Q E D H, W M c (core_Core_Block_p 0) true Q E D H =
  W M c (core_Core_Block_p 2) true Q ((2, (.int .i64 0))::E) D H) ∧
 (∀ Q E D H, W M c (core_Core_Block_p 2) true Q E D H =
  LK true (lk E 0) fun g t0 => C3 M g (.func N_core_Core_none) [t0] H fun g t4 H1 => IF3 g t4 (fun g => GO3 g (SEQ3 (W M c (core_Core_Block_p 10)) Q) .ret ((2, (.int .i64 (-1)))::E) D H1) (fun g => GO3 g (SEQ3 (W M c (core_Core_Block_p 10)) Q) .normal E D H1)) ∧
 (∀ Q E D H, W M c (core_Core_Block_p 10) true Q E D H =
  LK true (lk E 0) fun g t0 => B3 g (Op.nilCheck [t0]) fun g t6 => B3 g ((Op.fieldAddr 18) [t6]) fun g t7 => B3 g (Op.load1 [t7] H) fun g t8 => B3 g ((Op.bin .sub) [t8, (.int .i64 1)]) fun g t9 => GO3 g Q .ret ((2, t9)::E) D H) := by (repeat' apply And.intro) <;> (intro _ _ _ _; refine W_unf ?_; kernel_rfl)
theorem core_Core_Block_f : (cProg Try.prog).func N_core_Core_Block = some core_Core_Block_F ∧ core_Core_Block_F.results = [.tmp 2] := pair_rfl (by kernel_rfl)
theorem core_Core_Block_at {M : Mac} [MK M] : M.func N_core_Core_Block = some core_Core_Block_F := MK.at (by decide) core_Core_Block_f.1
theorem core_Core_Block_s {M : Mac} [MK M] {a0 : AV} {H : AHeap} {Q : AEnd → AHeap → Prop} (h : W M ⟨none, N_core_Core_Block⟩ (core_Core_Block_p 0) true (FIN3 M [.tmp 2] Q) [(0, a0)] [] H) : CALLE M N_core_Core_Block [a0] H Q :=
  calle core_Core_Block_at (ks := core_Core_Block_K) (by kernel_rfl) (by rw [core_Core_Block_f.2]; exact h)
def core_Core_Counts_F : AFunc := funcAt Try.prog N_core_Core_Counts
def core_Core_Counts_K : Kp := ⟨[0, 2, 5], false, [0, 2, 10]⟩
def core_Core_Counts_p (k : Nat) : Kp × ACode := (core_Core_Counts_K, part core_Core_Counts_F.body k)
theorem core_Core_Counts_w (M : Mac) (c : Ctx) : (∀ Q E D H, W M c (core_Core_Counts_p 0) true Q E D H =
  A3 true T__60 [(.int .i64 0), (.int .i64 0), (.int .i64 0), (.int .i64 0), (.int .i64 0)] H fun g t2 H1 => W M c (core_Core_Counts_p 2) g Q ((2, t2)::E) D H1) ∧
 (∀ Q E D H, W M c (core_Core_Counts_p 2) true Q E D H =
  LK true (lk E 0) fun g t0 => C3 M g (.func N_core_Core_none) [t0] H fun g t4 H1 => IF3 g t4 (fun g => B3 g ((Op.build [(.int .i64 0), (.int .i64 0), (.int .i64 0), (.int .i64 0), (.int .i64 0)] []) []) fun g t5 => LK g (lk E 2) fun g t2 => B32 g ((Op.store 5) [t2, t5] H1) fun g u H2 => GO3 g (SEQ3 (W M c (core_Core_Counts_p 10)) Q) .ret ((5, t5)::E) D H2) (fun g => GO3 g (SEQ3 (W M c (core_Core_Counts_p 10)) Q) .normal E D H1)) ∧
 (∀ Q E D H, W M c (core_Core_Counts_p 10) true Q E D H =
  LK true (lk E 0) fun g t0 => B3 g (Op.nilCheck [t0]) fun g t7 => B3 g ((Op.fieldAddr 4) [t7]) fun g t8 => B3 g (Op.load1 [t8] H) fun g t9 => C3 M g (.func N_lanes_Control_Counts) [t9] H fun g t10 H1 => LK g (lk E 2) fun g t2 => B32 g ((Op.store 5) [t2, t10] H1) fun g u H2 => GO3 g Q .ret E D H2) := by (repeat' apply And.intro) <;> (intro _ _ _ _; refine W_unf ?_; kernel_rfl)
theorem core_Core_Counts_f : (cProg Try.prog).func N_core_Core_Counts = some core_Core_Counts_F ∧ core_Core_Counts_F.results = [.cellN 5 2] := pair_rfl (by kernel_rfl)
theorem core_Core_Counts_at {M : Mac} [MK M] : M.func N_core_Core_Counts = some core_Core_Counts_F := MK.at (by decide) core_Core_Counts_f.1
theorem core_Core_Counts_s {M : Mac} [MK M] {a0 : AV} {H : AHeap} {Q : AEnd → AHeap → Prop} (h : W M ⟨none, N_core_Core_Counts⟩ (core_Core_Counts_p 0) true (FIN3 M [.cellN 5 2] Q) [(0, a0)] [] H) : CALLE M N_core_Core_Counts [a0] H Q :=
  calle core_Core_Counts_at (ks := core_Core_Counts_K) (by kernel_rfl) (by rw [core_Core_Counts_f.2]; exact h)
def ref09_Control_Counts_F : AFunc := funcAt Try.prog N_ref09_Control_Counts
def ref09_Control_Counts_K : Kp := ⟨[0, 2, 3, 4, 5], false, [0, 4, 9, 15, 18, 19]⟩
def ref09_Control_Counts_p (k : Nat) : Kp × ACode := (ref09_Control_Counts_K, part ref09_Control_Counts_F.body k)
theorem ref09_Control_Counts_w (M : Mac) (c : Ctx) : (∀ Q E D H, W M c (ref09_Control_Counts_p 0) true Q E D H =
  A3 true T__60 [(.int .i64 0), (.int .i64 0), (.int .i64 0), (.int .i64 0), (.int .i64 0)] H fun g t2 H1 => A3 g T__60 [(.int .i64 0), (.int .i64 0), (.int .i64 0), (.int .i64 0), (.int .i64 0)] H1 fun g t3 H2 => W M c (ref09_Control_Counts_p 4) g Q ((3, t3)::(2, t2)::E) D H2) ∧
 (∀ Q E D H, W M c (ref09_Control_Counts_p 4) true Q E D H =
  LOOP3 (W M c (ref09_Control_Counts_p 9)) (BLK3 0 (SEQ3 (W M c (ref09_Control_Counts_p 19)) Q)) ((4, (.int .i64 1))::E) D H) ∧
 (∀ Q E D H, W M c (ref09_Control_Counts_p 19) true Q E D H =
  LK true (lk E 3) fun g t3 => B3 g ((Op.loadN 5) [t3] H) fun g t14 => LK g (lk E 2) fun g t2 => B32 g ((Op.store 5) [t2, t14] H) fun g u H1 => GO3 g Q .ret E D H1) ∧
 (∀ Q E D H, W M c (ref09_Control_Counts_p 9) true Q E D H =
  LK true (lk E 4) fun g t4 => B3 g ((Op.bin .lss) [t4, (.int .i64 5)]) fun g t6 => IF3 g t6 (fun g => GO3 g (SEQ3 (W M c (ref09_Control_Counts_p 15)) Q) .normal ((5, t4)::E) D H) (fun g => GO3 g (SEQ3 (W M c (ref09_Control_Counts_p 15)) Q) (.exit 0) ((5, t4)::E) D H)) ∧
 (∀ Q E D H, W M c (ref09_Control_Counts_p 15) true Q E D H =
  LK true (lk E 4) fun g t4 => LK g (lk E 0) fun g t0 => C3 M g (.func N_ref09_Control_Count) [t0, t4] H fun g t12 H1 => LK g (lk E 3) fun g t3 => B3 g ((Op.indexArr 5 1) [t3, t4]) fun g t13 => B32 g ((Op.store 1) [t13, t12] H1) fun g u H2 => GO3 g (BLK3 1 (SEQ3 (W M c (ref09_Control_Counts_p 18)) Q)) .normal E D H2) ∧
 (∀ Q E D H, W M c (ref09_Control_Counts_p 18) true Q E D H =
  LK true (lk E 4) fun g t4 => B3 g ((Op.bin .add) [t4, (.int .i64 1)]) fun g t8 => GO3 g Q .normal ((4, t8)::E) D H) := by (repeat' apply And.intro) <;> (intro _ _ _ _; refine W_unf ?_; kernel_rfl)
theorem ref09_Control_Counts_f : (cProg Try.prog).func N_ref09_Control_Counts = some ref09_Control_Counts_F ∧ ref09_Control_Counts_F.results = [.cellN 5 2] := pair_rfl (by kernel_rfl)
theorem ref09_Control_Counts_at {M : Mac} [MK M] : M.func N_ref09_Control_Counts = some ref09_Control_Counts_F := MK.at (by decide) ref09_Control_Counts_f.1
theorem ref09_Control_Counts_s {M : Mac} [MK M] {a0 : AV} {H : AHeap} {Q : AEnd → AHeap → Prop} (h : W M ⟨none, N_ref09_Control_Counts⟩ (ref09_Control_Counts_p 0) true (FIN3 M [.cellN 5 2] Q) [(0, a0)] [] H) : CALLE M N_ref09_Control_Counts [a0] H Q :=
  calle ref09_Control_Counts_at (ks := ref09_Control_Counts_K) (by kernel_rfl) (by rw [ref09_Control_Counts_f.2]; exact h)
def core_Core_Instrs_F : AFunc := funcAt Try.prog N_core_Core_Instrs
def core_Core_Instrs_K : Kp := ⟨[0, 2], false, [0, 2, 10]⟩
def core_Core_Instrs_p (k : Nat) : Kp × ACode := (core_Core_Instrs_K, part core_Core_Instrs_F.body k)
theorem core_Core_Instrs_w (M : Mac) (c : Ctx) : (∀ Q E D H, W M c (core_Core_Instrs_p 0) true Q E D H =
  W M c (core_Core_Instrs_p 2) true Q ((2, (.int .i64 0))::E) D H) ∧
 (∀ Q E D H, W M c (core_Core_Instrs_p 2) true Q E D H =
  LK true (lk E 0) fun g t0 => C3 M g (.func N_core_Core_none) [t0] H fun g t4 H1 => IF3 g t4 (fun g => GO3 g (SEQ3 (W M c (core_Core_Instrs_p 10)) Q) .ret ((2, (.int .i64 0))::E) D H1) (fun g => GO3 g (SEQ3 (W M c (core_Core_Instrs_p 10)) Q) .normal E D H1)) ∧
 (∀ Q E D H, W M c (core_Core_Instrs_p 10) true Q E D H =
  LK true (lk E 0) fun g t0 => B3 g (Op.nilCheck [t0]) fun g t6 => B3 g ((Op.fieldAddr 19) [t6]) fun g t7 => B3 g (Op.load1 [t7] H) fun g t8 => GO3 g Q .ret ((2, t8)::E) D H) := by (repeat' apply And.intro) <;> (intro _ _ _ _; refine W_unf ?_; kernel_rfl)
theorem core_Core_Instrs_f : (cProg Try.prog).func N_core_Core_Instrs = some core_Core_Instrs_F ∧ core_Core_Instrs_F.results = [.tmp 2] := pair_rfl (by kernel_rfl)
theorem core_Core_Instrs_at {M : Mac} [MK M] : M.func N_core_Core_Instrs = some core_Core_Instrs_F := MK.at (by decide) core_Core_Instrs_f.1
theorem core_Core_Instrs_s {M : Mac} [MK M] {a0 : AV} {H : AHeap} {Q : AEnd → AHeap → Prop} (h : W M ⟨none, N_core_Core_Instrs⟩ (core_Core_Instrs_p 0) true (FIN3 M [.tmp 2] Q) [(0, a0)] [] H) : CALLE M N_core_Core_Instrs [a0] H Q :=
  calle core_Core_Instrs_at (ks := core_Core_Instrs_K) (by kernel_rfl) (by rw [core_Core_Instrs_f.2]; exact h)
def core_Core_Alone_F : AFunc := funcAt Try.prog N_core_Core_Alone
def core_Core_Alone_K : Kp := ⟨[0, 2], false, [0]⟩
def core_Core_Alone_p (k : Nat) : Kp × ACode := (core_Core_Alone_K, part core_Core_Alone_F.body k)
theorem core_Core_Alone_w (M : Mac) (c : Ctx) : (∀ Q E D H, W M c (core_Core_Alone_p 0) true Q E D H =
  LK true (lk E 0) fun g t0 => C3 M g (.func N_core_Core_none) [t0] H fun g t4 H1 => B3 g ((Op.un .not) [t4]) fun g t5 => JN (fun (k : Bool → AV → AV → AV → AV → AHeap → Prop) => B3 g (wantV true (some t5)) fun g w => IG3 g w (fun g => B3 g (Op.nilCheck [t0]) fun g t8 => B3 g ((Op.fieldAddr 16) [t8]) fun g t9 => B3 g (Op.load1 [t9] H1) fun g t10 => k g t10 t9 t8 t0 H1) (fun g => k g uu uu uu uu H1)) (fun g t10_1 t9_1 t8_1 t7_1 H2 => B3 g (Op.pick [t5, t10_1, (.bool false)]) fun g t11 => GO3 g Q .ret ((2, t11)::(2, (.bool false))::E) D H2)) := by intro _ _ _ _; refine W_unf ?_; kernel_rfl
theorem core_Core_Alone_f : (cProg Try.prog).func N_core_Core_Alone = some core_Core_Alone_F ∧ core_Core_Alone_F.results = [.tmp 2] := pair_rfl (by kernel_rfl)
theorem core_Core_Alone_at {M : Mac} [MK M] : M.func N_core_Core_Alone = some core_Core_Alone_F := MK.at (by decide) core_Core_Alone_f.1
theorem core_Core_Alone_s {M : Mac} [MK M] {a0 : AV} {H : AHeap} {Q : AEnd → AHeap → Prop} (h : W M ⟨none, N_core_Core_Alone⟩ (core_Core_Alone_p 0) true (FIN3 M [.tmp 2] Q) [(0, a0)] [] H) : CALLE M N_core_Core_Alone [a0] H Q :=
  calle core_Core_Alone_at (ks := core_Core_Alone_K) (by kernel_rfl) (by rw [core_Core_Alone_f.2]; exact h)
def ref11_Core_Alone_F : AFunc := funcAt Try.prog N_ref11_Core_Alone
def ref11_Core_Alone_K : Kp := ⟨[0, 2], false, [0]⟩
def ref11_Core_Alone_p (k : Nat) : Kp × ACode := (ref11_Core_Alone_K, part ref11_Core_Alone_F.body k)
theorem ref11_Core_Alone_w (M : Mac) (c : Ctx) : (∀ Q E D H, W M c (ref11_Core_Alone_p 0) true Q E D H =
  LK true (lk E 0) fun g t0 => B3 g (Op.nilCheck [t0]) fun g t4 => B3 g ((Op.fieldAddr 53) [t4]) fun g t5 => B3 g (Op.load1 [t5] H) fun g t6 => GO3 g Q .ret ((2, t6)::(2, (.bool false))::E) D H) := by intro _ _ _ _; refine W_unf ?_; kernel_rfl
theorem ref11_Core_Alone_f : (cProg Try.prog).func N_ref11_Core_Alone = some ref11_Core_Alone_F ∧ ref11_Core_Alone_F.results = [.tmp 2] := pair_rfl (by kernel_rfl)
theorem ref11_Core_Alone_at {M : Mac} [MK M] : M.func N_ref11_Core_Alone = some ref11_Core_Alone_F := MK.at (by decide) ref11_Core_Alone_f.1
theorem ref11_Core_Alone_s {M : Mac} [MK M] {a0 : AV} {H : AHeap} {Q : AEnd → AHeap → Prop} (h : W M ⟨none, N_ref11_Core_Alone⟩ (ref11_Core_Alone_p 0) true (FIN3 M [.tmp 2] Q) [(0, a0)] [] H) : CALLE M N_ref11_Core_Alone [a0] H Q :=
  calle ref11_Core_Alone_at (ks := ref11_Core_Alone_K) (by kernel_rfl) (by rw [ref11_Core_Alone_f.2]; exact h)
def lanes_budgets_F : AFunc := funcAt Try.prog N_lanes_budgets
def lanes_budgets_K : Kp := ⟨[0, 1, 2, 3, 4, 5, 6, 14, 15, 16], false, [0, 4, 9, 15, 26, 27]⟩
def lanes_budgets_p (k : Nat) : Kp × ACode := (lanes_budgets_K, part lanes_budgets_F.body k)
theorem lanes_budgets_w (M : Mac) (c : Ctx) : (∀ Q E D H, W M c (lanes_budgets_p 0) true Q E D H =
  LK true (lk E 0) fun g t0 => A3 g T_api_Budget (AV.cells t0) H fun g t1 H1 => A3 g T__60 [(.int .i64 0), (.int .i64 0), (.int .i64 0), (.int .i64 0), (.int .i64 0)] H1 fun g t2 H2 => B3 g ((Op.fieldAddr 0) [t1]) fun g t7 => B3 g (Op.load1 [t7] H2) fun g t8 => B3 g ((Op.fieldAddr 1) [t1]) fun g t9 => B3 g (Op.load1 [t9] H2) fun g t10 => B3 g ((Op.fieldAddr 2) [t1]) fun g t11 => B3 g (Op.load1 [t11] H2) fun g t12 => B3 g ((Op.build [(.int .i64 0), (.int .i64 0), (.int .i64 0), (.int .i64 0), (.int .i64 0)] [(1, 1), (2, 1), (3, 1), (4, 1)]) [t8, t10, t12, (.int .i64 (-1))]) fun g t13 => A3 g T__60 [(.int .i64 0), (.int .i64 0), (.int .i64 0), (.int .i64 0), (.int .i64 0)] H2 fun g t4 H3 => B32 g ((Op.store 5) [t4, t13] H3) fun g u H4 => W M c (lanes_budgets_p 4) g Q ((4, t4)::(3, (.bool false))::(2, t2)::(1, t1)::E) D H4) ∧
 (∀ Q E D H, W M c (lanes_budgets_p 4) true Q E D H =
  LK true (lk E 4) fun g t4 => B3 g ((Op.sliceArr 5 1 [(some 0), (some 1), none]) [t4, (.int .i64 1), (.int .i64 4)]) fun g t14 => B3 g (Op.lenSl [t14]) fun g t15 => LOOP3 (W M c (lanes_budgets_p 9)) (BLK3 0 (SEQ3 (W M c (lanes_budgets_p 27)) Q)) ((16, (.int .i64 0))::(15, t15)::(14, t14)::E) D H) ∧
 (∀ Q E D H, W M c (lanes_budgets_p 27) true Q E D H =
  LK true (lk E 4) fun g t4 => B3 g ((Op.loadN 5) [t4] H) fun g t28 => LK g (lk E 2) fun g t2 => B32 g ((Op.store 5) [t2, t28] H) fun g u H1 => GO3 g Q .ret ((3, (.bool true))::E) D H1) ∧
 (∀ Q E D H, W M c (lanes_budgets_p 9) true Q E D H =
  LK true (lk E 16) fun g t16 => LK g (lk E 15) fun g t15 => B3 g ((Op.bin .lss) [t16, t15]) fun g t17 => IF3 g t17 (fun g => GO3 g (SEQ3 (W M c (lanes_budgets_p 15)) Q) .normal E D H) (fun g => GO3 g (SEQ3 (W M c (lanes_budgets_p 15)) Q) (.exit 0) E D H)) ∧
 (∀ Q E D H, W M c (lanes_budgets_p 15) true Q E D H =
  LK true (lk E 14) fun g t14 => LK g (lk E 16) fun g t16 => B3 g ((Op.indexSl 1) [t14, t16]) fun g t18 => B3 g (Op.load1 [t18] H) fun g t19 => B3 g ((Op.bin .lss) [t19, (.int .i64 0)]) fun g t21 => JN (fun (k : Bool → AV → AV → AHeap → Prop) => B3 g (wantV false (some t21)) fun g w => IG3 g w (fun g => B3 g ((Op.bin .gtr) [t19, (.int .i64 16)]) fun g t24 => k g t24 t19 H) (fun g => k g uu uu H)) (fun g t24_1 t23_1 H1 => B3 g (Op.pick [t21, (.bool true), t24_1]) fun g t25 => IF3 g t25 (fun g => LK g (lk E 4) fun g t4 => B3 g ((Op.loadN 5) [t4] H1) fun g t26 => LK g (lk E 2) fun g t2 => B32 g ((Op.store 5) [t2, t26] H1) fun g u H2 => GO3 g (BLK3 1 (SEQ3 (W M c (lanes_budgets_p 26)) Q)) .ret ((3, (.bool false))::(6, t19)::E) D H2) (fun g => GO3 g (BLK3 1 (SEQ3 (W M c (lanes_budgets_p 26)) Q)) .normal ((6, t19)::E) D H1))) ∧
 (∀ Q E D H, W M c (lanes_budgets_p 26) true Q E D H =
  LK true (lk E 16) fun g t16 => B3 g ((Op.bin .add) [t16, (.int .i64 1)]) fun g t27 => GO3 g Q .normal ((16, t27)::E) D H) := by (repeat' apply And.intro) <;> (intro _ _ _ _; refine W_unf ?_; kernel_rfl)
theorem lanes_budgets_f : (cProg Try.prog).func N_lanes_budgets = some lanes_budgets_F ∧ lanes_budgets_F.results = [.cellN 5 2, .tmp 3] := pair_rfl (by kernel_rfl)
theorem lanes_budgets_at {M : Mac} [MK M] : M.func N_lanes_budgets = some lanes_budgets_F := MK.at (by decide) lanes_budgets_f.1
theorem lanes_budgets_s {M : Mac} [MK M] {a0 : AV} {H : AHeap} {Q : AEnd → AHeap → Prop} (h : W M ⟨none, N_lanes_budgets⟩ (lanes_budgets_p 0) true (FIN3 M [.cellN 5 2, .tmp 3] Q) [(0, a0)] [] H) : CALLE M N_lanes_budgets [a0] H Q :=
  calle lanes_budgets_at (ks := lanes_budgets_K) (by kernel_rfl) (by rw [lanes_budgets_f.2]; exact h)
def log_New_F : AFunc := funcAt Try.prog N_log_New
def log_New_K : Kp := ⟨[0], false, [0]⟩
def log_New_p (k : Nat) : Kp × ACode := (log_New_K, part log_New_F.body k)
theorem log_New_w (M : Mac) (c : Ctx) : (∀ Q E D H, W M c (log_New_p 0) true Q E D H =
  B32 true (Op.mkMap []) fun g o1 k1 => B3 g ((Op.build [.nils, .nilm] [(1, 1)]) [(k1 H.next)]) fun g t2 => A3 g T_log_list (AV.cells t2) (H.alloc o1) fun g t3 H2 => B32 g (Op.mkMap []) fun g o3 k3 => B3 g ((Op.build [.nils, .nilm] [(1, 1)]) [(k3 H2.next)]) fun g t5 => A3 g T_log_list (AV.cells t5) (H2.alloc o3) fun g t6 H4 => B3 g ((Op.build [.nilp, .nilp] [(0, 1), (1, 1)]) [t3, t6]) fun g t7 => A3 g T_log_Log (AV.cells t7) H4 fun g t8 H5 => GO3 g Q .ret ((0, t8)::(0, .nilp)::E) D H5) := by intro _ _ _ _; refine W_unf ?_; kernel_rfl
theorem log_New_f : (cProg Try.prog).func N_log_New = some log_New_F ∧ log_New_F.results = [.tmp 0] := pair_rfl (by kernel_rfl)
theorem log_New_at {M : Mac} [MK M] : M.func N_log_New = some log_New_F := MK.at (by decide) log_New_f.1
theorem log_New_s {M : Mac} [MK M] {H0 : AHeap} {H : AHeap} {Q : AEnd → AHeap → Prop} (h : W M ⟨none, N_log_New⟩ (log_New_p 0) true (FIN3 M [.tmp 0] Q) [] [] H) : CALLE M N_log_New [] H Q :=
  calle log_New_at (ks := log_New_K) (by kernel_rfl) (by rw [log_New_f.2]; exact h)
def core_Core_none_F : AFunc := funcAt Try.prog N_core_Core_none
def core_Core_none_K : Kp := ⟨[0, 2], false, [0]⟩
def core_Core_none_p (k : Nat) : Kp × ACode := (core_Core_none_K, part core_Core_none_F.body k)
theorem core_Core_none_w (M : Mac) (c : Ctx) : (∀ Q E D H, W M c (core_Core_none_p 0) true Q E D H =
  LK true (lk E 0) fun g t0 => B3 g ((Op.eq .ptr false) [t0, .nilp] H) fun g t4 => JN (fun (k : Bool → AV → AV → AV → AV → AV → AHeap → Prop) => B3 g (wantV false (some t4)) fun g w => IG3 g w (fun g => B3 g (Op.nilCheck [t0]) fun g t7 => B3 g ((Op.fieldAddr 4) [t7]) fun g t8 => B3 g (Op.load1 [t8] H) fun g t9 => B3 g ((Op.eq .ptr false) [t9, .nilp] H) fun g t10 => k g t10 t9 t8 t7 t0 H) (fun g => k g uu uu uu uu uu H)) (fun g t10_1 t9_1 t8_1 t7_1 t6_1 H1 => B3 g (Op.pick [t4, (.bool true), t10_1]) fun g t11 => GO3 g Q .ret ((2, t11)::(2, (.bool false))::E) D H1)) := by intro _ _ _ _; refine W_unf ?_; kernel_rfl
theorem core_Core_none_f : (cProg Try.prog).func N_core_Core_none = some core_Core_none_F ∧ core_Core_none_F.results = [.tmp 2] := pair_rfl (by kernel_rfl)
theorem core_Core_none_at {M : Mac} [MK M] : M.func N_core_Core_none = some core_Core_none_F := MK.at (by decide) core_Core_none_f.1
theorem core_Core_none_s {M : Mac} [MK M] {a0 : AV} {H : AHeap} {Q : AEnd → AHeap → Prop} (h : W M ⟨none, N_core_Core_none⟩ (core_Core_none_p 0) true (FIN3 M [.tmp 2] Q) [(0, a0)] [] H) : CALLE M N_core_Core_none [a0] H Q :=
  calle core_Core_none_at (ks := core_Core_none_K) (by kernel_rfl) (by rw [core_Core_none_f.2]; exact h)
def regs_File_Point_F : AFunc := funcAt Try.prog N_regs_File_Point
def regs_File_Point_K : Kp := ⟨[0, 2, 3, 4, 8], false, [0, 2, 10]⟩
def regs_File_Point_p (k : Nat) : Kp × ACode := (regs_File_Point_K, part regs_File_Point_F.body k)
theorem regs_File_Point_w (M : Mac) (c : Ctx) : (∀ Q E D H, W M c (regs_File_Point_p 0) true Q E D H =
  A3 true T__26 [(.int .u64 0), (.int .u64 0), (.int .u64 0), (.int .u64 0), (.int .u64 0), (.int .u64 0), (.int .u64 0), (.int .u64 0)] H fun g t2 H1 => W M c (regs_File_Point_p 2) g Q ((4, (.bool false))::(3, (.int .i64 0))::(2, t2)::E) D H1) ∧
 (∀ Q E D H, W M c (regs_File_Point_p 2) true Q E D H =
  LK true (lk E 0) fun g t0 => C3 M g (.func N_regs_File_marked) [t0] H fun g t6 H1 => B3 g ((Op.bin .neq) [t6, (.int .i64 0)]) fun g t7 => IF3 g t7 (fun g => B3 g ((Op.build [(.int .u64 0), (.int .u64 0), (.int .u64 0), (.int .u64 0), (.int .u64 0), (.int .u64 0), (.int .u64 0), (.int .u64 0)] []) []) fun g t8 => LK g (lk E 2) fun g t2 => B32 g ((Op.store 8) [t2, t8] H1) fun g u H2 => GO3 g (SEQ3 (W M c (regs_File_Point_p 10)) Q) .ret ((4, (.bool false))::(3, (.int .i64 0))::(8, t8)::E) D H2) (fun g => GO3 g (SEQ3 (W M c (regs_File_Point_p 10)) Q) .normal E D H1)) ∧
 (∀ Q E D H, W M c (regs_File_Point_p 10) true Q E D H =
  LK true (lk E 0) fun g t0 => B3 g (Op.nilCheck [t0]) fun g t10 => B3 g ((Op.fieldAddr 9) [t10]) fun g t11 => B3 g (Op.load1 [t11] H) fun g t12 => B3 g (Op.nilCheck [t12]) fun g t13 => B3 g ((Op.fieldAddr 0) [t13]) fun g t14 => B3 g ((Op.loadN 8) [t14] H) fun g t15 => B3 g (Op.nilCheck [t0]) fun g t17 => B3 g ((Op.fieldAddr 9) [t17]) fun g t18 => B3 g (Op.load1 [t18] H) fun g t19 => B3 g (Op.nilCheck [t19]) fun g t20 => B3 g ((Op.fieldAddr 8) [t20]) fun g t21 => B3 g (Op.load1 [t21] H) fun g t22 => LK g (lk E 2) fun g t2 => B32 g ((Op.store 8) [t2, t15] H) fun g u H1 => CK3 g (Op.load1 [t18] H1) (some t19) fun g => CK3 g (Op.load1 [t21] H1) (some t22) fun g => GO3 g Q .ret ((4, (.bool true))::(3, t22)::E) D H1) := by (repeat' apply And.intro) <;> (intro _ _ _ _; refine W_unf ?_; kernel_rfl)
theorem regs_File_Point_f : (cProg Try.prog).func N_regs_File_Point = some regs_File_Point_F ∧ regs_File_Point_F.results = [.cellN 8 2, .tmp 3, .tmp 4] := pair_rfl (by kernel_rfl)
theorem regs_File_Point_at {M : Mac} [MK M] : M.func N_regs_File_Point = some regs_File_Point_F := MK.at (by decide) regs_File_Point_f.1
theorem regs_File_Point_s {M : Mac} [MK M] {a0 : AV} {H : AHeap} {Q : AEnd → AHeap → Prop} (h : W M ⟨none, N_regs_File_Point⟩ (regs_File_Point_p 0) true (FIN3 M [.cellN 8 2, .tmp 3, .tmp 4] Q) [(0, a0)] [] H) : CALLE M N_regs_File_Point [a0] H Q :=
  calle regs_File_Point_at (ks := regs_File_Point_K) (by kernel_rfl) (by rw [regs_File_Point_f.2]; exact h)
def regs_File_All_F : AFunc := funcAt Try.prog N_regs_File_All
def regs_File_All_K : Kp := ⟨[0, 2, 8], false, [0, 2, 10]⟩
def regs_File_All_p (k : Nat) : Kp × ACode := (regs_File_All_K, part regs_File_All_F.body k)
theorem regs_File_All_w (M : Mac) (c : Ctx) : (∀ Q E D H, W M c (regs_File_All_p 0) true Q E D H =
  A3 true T__26 [(.int .u64 0), (.int .u64 0), (.int .u64 0), (.int .u64 0), (.int .u64 0), (.int .u64 0), (.int .u64 0), (.int .u64 0)] H fun g t2 H1 => W M c (regs_File_All_p 2) g Q ((2, t2)::E) D H1) ∧
 (∀ Q E D H, W M c (regs_File_All_p 2) true Q E D H =
  LK true (lk E 0) fun g t0 => C3 M g (.func N_regs_File_none) [t0] H fun g t4 H1 => IF3 g t4 (fun g => B3 g ((Op.build [(.int .u64 0), (.int .u64 0), (.int .u64 0), (.int .u64 0), (.int .u64 0), (.int .u64 0), (.int .u64 0), (.int .u64 0)] []) []) fun g t5 => LK g (lk E 2) fun g t2 => B32 g ((Op.store 8) [t2, t5] H1) fun g u H2 => GO3 g (SEQ3 (W M c (regs_File_All_p 10)) Q) .ret E D H2) (fun g => GO3 g (SEQ3 (W M c (regs_File_All_p 10)) Q) .normal E D H1)) ∧
 (∀ Q E D H, W M c (regs_File_All_p 10) true Q E D H =
  LK true (lk E 0) fun g t0 => B3 g (Op.nilCheck [t0]) fun g t7 => B3 g ((Op.fieldAddr 0) [t7]) fun g t8 => B3 g ((Op.fieldAddr 0) [t8]) fun g t9 => B3 g ((Op.loadN 8) [t9] H) fun g t10 => LK g (lk E 2) fun g t2 => B32 g ((Op.store 8) [t2, t10] H) fun g u H1 => GO3 g Q .ret ((8, t8)::E) D H1) := by (repeat' apply And.intro) <;> (intro _ _ _ _; refine W_unf ?_; kernel_rfl)
theorem regs_File_All_f : (cProg Try.prog).func N_regs_File_All = some regs_File_All_F ∧ regs_File_All_F.results = [.cellN 8 2] := pair_rfl (by kernel_rfl)
theorem regs_File_All_at {M : Mac} [MK M] : M.func N_regs_File_All = some regs_File_All_F := MK.at (by decide) regs_File_All_f.1
theorem regs_File_All_s {M : Mac} [MK M] {a0 : AV} {H : AHeap} {Q : AEnd → AHeap → Prop} (h : W M ⟨none, N_regs_File_All⟩ (regs_File_All_p 0) true (FIN3 M [.cellN 8 2] Q) [(0, a0)] [] H) : CALLE M N_regs_File_All [a0] H Q :=
  calle regs_File_All_at (ks := regs_File_All_K) (by kernel_rfl) (by rw [regs_File_All_f.2]; exact h)
def regs_File_PC_F : AFunc := funcAt Try.prog N_regs_File_PC
def regs_File_PC_K : Kp := ⟨[0, 2], false, [0, 2, 10]⟩
def regs_File_PC_p (k : Nat) : Kp × ACode := (regs_File_PC_K, part regs_File_PC_F.body k)
theorem regs_File_PC_w (M : Mac) (c : Ctx) : (∀ Q E D H, W M c (regs_File_PC_p 0) true Q E D H =
  W M c (regs_File_PC_p 2) true Q ((2, (.int .i64 0))::E) D H) ∧
 (∀ Q E D H, W M c (regs_File_PC_p 2) true Q E D H =
  LK true (lk E 0) fun g t0 => C3 M g (.func N_regs_File_none) [t0] H fun g t4 H1 => IF3 g t4 (fun g => GO3 g (SEQ3 (W M c (regs_File_PC_p 10)) Q) .ret ((2, (.int .i64 0))::E) D H1) (fun g => GO3 g (SEQ3 (W M c (regs_File_PC_p 10)) Q) .normal E D H1)) ∧
 (∀ Q E D H, W M c (regs_File_PC_p 10) true Q E D H =
  LK true (lk E 0) fun g t0 => B3 g (Op.nilCheck [t0]) fun g t6 => B3 g ((Op.fieldAddr 0) [t6]) fun g t7 => B3 g ((Op.fieldAddr 8) [t7]) fun g t8 => B3 g (Op.load1 [t8] H) fun g t9 => GO3 g Q .ret ((2, t9)::E) D H) := by (repeat' apply And.intro) <;> (intro _ _ _ _; refine W_unf ?_; kernel_rfl)
theorem regs_File_PC_f : (cProg Try.prog).func N_regs_File_PC = some regs_File_PC_F ∧ regs_File_PC_F.results = [.tmp 2] := pair_rfl (by kernel_rfl)
theorem regs_File_PC_at {M : Mac} [MK M] : M.func N_regs_File_PC = some regs_File_PC_F := MK.at (by decide) regs_File_PC_f.1
theorem regs_File_PC_s {M : Mac} [MK M] {a0 : AV} {H : AHeap} {Q : AEnd → AHeap → Prop} (h : W M ⟨none, N_regs_File_PC⟩ (regs_File_PC_p 0) true (FIN3 M [.tmp 2] Q) [(0, a0)] [] H) : CALLE M N_regs_File_PC [a0] H Q :=
  calle regs_File_PC_at (ks := regs_File_PC_K) (by kernel_rfl) (by rw [regs_File_PC_f.2]; exact h)
def lanes_Control_Lane_F : AFunc := funcAt Try.prog N_lanes_Control_Lane
def lanes_Control_Lane_K : Kp := ⟨[0, 2], false, [0, 2, 10]⟩
def lanes_Control_Lane_p (k : Nat) : Kp × ACode := (lanes_Control_Lane_K, part lanes_Control_Lane_F.body k)
theorem lanes_Control_Lane_w (M : Mac) (c : Ctx) : (∀ Q E D H, W M c (lanes_Control_Lane_p 0) true Q E D H =
  W M c (lanes_Control_Lane_p 2) true Q ((2, (.int .i64 0))::E) D H) ∧
 (∀ Q E D H, W M c (lanes_Control_Lane_p 2) true Q E D H =
  LK true (lk E 0) fun g t0 => C3 M g (.func N_lanes_Control_none) [t0] H fun g t4 H1 => IF3 g t4 (fun g => GO3 g (SEQ3 (W M c (lanes_Control_Lane_p 10)) Q) .ret ((2, (.int .i64 0))::E) D H1) (fun g => GO3 g (SEQ3 (W M c (lanes_Control_Lane_p 10)) Q) .normal E D H1)) ∧
 (∀ Q E D H, W M c (lanes_Control_Lane_p 10) true Q E D H =
  LK true (lk E 0) fun g t0 => B3 g (Op.nilCheck [t0]) fun g t6 => B3 g ((Op.fieldAddr 5) [t6]) fun g t7 => B3 g (Op.load1 [t7] H) fun g t8 => GO3 g Q .ret ((2, t8)::E) D H) := by (repeat' apply And.intro) <;> (intro _ _ _ _; refine W_unf ?_; kernel_rfl)
theorem lanes_Control_Lane_f : (cProg Try.prog).func N_lanes_Control_Lane = some lanes_Control_Lane_F ∧ lanes_Control_Lane_F.results = [.tmp 2] := pair_rfl (by kernel_rfl)
theorem lanes_Control_Lane_at {M : Mac} [MK M] : M.func N_lanes_Control_Lane = some lanes_Control_Lane_F := MK.at (by decide) lanes_Control_Lane_f.1
theorem lanes_Control_Lane_s {M : Mac} [MK M] {a0 : AV} {H : AHeap} {Q : AEnd → AHeap → Prop} (h : W M ⟨none, N_lanes_Control_Lane⟩ (lanes_Control_Lane_p 0) true (FIN3 M [.tmp 2] Q) [(0, a0)] [] H) : CALLE M N_lanes_Control_Lane [a0] H Q :=
  calle lanes_Control_Lane_at (ks := lanes_Control_Lane_K) (by kernel_rfl) (by rw [lanes_Control_Lane_f.2]; exact h)
def lanes_Control_Counts_F : AFunc := funcAt Try.prog N_lanes_Control_Counts
def lanes_Control_Counts_K : Kp := ⟨[0, 2, 5], false, [0, 2, 10]⟩
def lanes_Control_Counts_p (k : Nat) : Kp × ACode := (lanes_Control_Counts_K, part lanes_Control_Counts_F.body k)
theorem lanes_Control_Counts_w (M : Mac) (c : Ctx) : (∀ Q E D H, W M c (lanes_Control_Counts_p 0) true Q E D H =
  A3 true T__60 [(.int .i64 0), (.int .i64 0), (.int .i64 0), (.int .i64 0), (.int .i64 0)] H fun g t2 H1 => W M c (lanes_Control_Counts_p 2) g Q ((2, t2)::E) D H1) ∧
 (∀ Q E D H, W M c (lanes_Control_Counts_p 2) true Q E D H =
  LK true (lk E 0) fun g t0 => C3 M g (.func N_lanes_Control_none) [t0] H fun g t4 H1 => IF3 g t4 (fun g => B3 g ((Op.build [(.int .i64 0), (.int .i64 0), (.int .i64 0), (.int .i64 0), (.int .i64 0)] []) []) fun g t5 => LK g (lk E 2) fun g t2 => B32 g ((Op.store 5) [t2, t5] H1) fun g u H2 => GO3 g (SEQ3 (W M c (lanes_Control_Counts_p 10)) Q) .ret ((5, t5)::E) D H2) (fun g => GO3 g (SEQ3 (W M c (lanes_Control_Counts_p 10)) Q) .normal E D H1)) ∧
 (∀ Q E D H, W M c (lanes_Control_Counts_p 10) true Q E D H =
  LK true (lk E 0) fun g t0 => B3 g (Op.nilCheck [t0]) fun g t7 => B3 g ((Op.fieldAddr 6) [t7]) fun g t8 => B3 g ((Op.loadN 5) [t8] H) fun g t9 => LK g (lk E 2) fun g t2 => B32 g ((Op.store 5) [t2, t9] H) fun g u H1 => GO3 g Q .ret E D H1) := by (repeat' apply And.intro) <;> (intro _ _ _ _; refine W_unf ?_; kernel_rfl)
theorem lanes_Control_Counts_f : (cProg Try.prog).func N_lanes_Control_Counts = some lanes_Control_Counts_F ∧ lanes_Control_Counts_F.results = [.cellN 5 2] := pair_rfl (by kernel_rfl)
theorem lanes_Control_Counts_at {M : Mac} [MK M] : M.func N_lanes_Control_Counts = some lanes_Control_Counts_F := MK.at (by decide) lanes_Control_Counts_f.1
theorem lanes_Control_Counts_s {M : Mac} [MK M] {a0 : AV} {H : AHeap} {Q : AEnd → AHeap → Prop} (h : W M ⟨none, N_lanes_Control_Counts⟩ (lanes_Control_Counts_p 0) true (FIN3 M [.cellN 5 2] Q) [(0, a0)] [] H) : CALLE M N_lanes_Control_Counts [a0] H Q :=
  calle lanes_Control_Counts_at (ks := lanes_Control_Counts_K) (by kernel_rfl) (by rw [lanes_Control_Counts_f.2]; exact h)
def ref09_Control_Count_F : AFunc := funcAt Try.prog N_ref09_Control_Count
def ref09_Control_Count_K : Kp := ⟨[0, 1, 4, 5, 6], false, [0, 4, 9, 15, 22, 23]⟩
def ref09_Control_Count_p (k : Nat) : Kp × ACode := (ref09_Control_Count_K, part ref09_Control_Count_F.body k)
theorem ref09_Control_Count_w (M : Mac) (c : Ctx) : (∀ Q E D H, W M c (ref09_Control_Count_p 0) true Q E D H =
  W M c (ref09_Control_Count_p 4) true Q ((5, (.int .i64 0))::(4, (.int .i64 0))::E) D H) ∧
 (∀ Q E D H, W M c (ref09_Control_Count_p 4) true Q E D H =
  LOOP3 (W M c (ref09_Control_Count_p 9)) (BLK3 0 (SEQ3 (W M c (ref09_Control_Count_p 23)) Q)) ((6, (.int .i64 0))::E) D H) ∧
 (∀ Q E D H, W M c (ref09_Control_Count_p 23) true Q E D H =
  LK true (lk E 5) fun g t5 => GO3 g Q .ret ((4, t5)::E) D H) ∧
 (∀ Q E D H, W M c (ref09_Control_Count_p 9) true Q E D H =
  LK true (lk E 6) fun g t6 => LK g (lk E 0) fun g t0 => B3 g (Op.nilCheck [t0]) fun g t9 => B3 g ((Op.fieldAddr 4) [t9]) fun g t10 => B3 g (Op.load1 [t10] H) fun g t11 => B3 g (Op.lenSl [t11]) fun g t12 => B3 g ((Op.bin .lss) [t6, t12]) fun g t13 => IF3 g t13 (fun g => GO3 g (SEQ3 (W M c (ref09_Control_Count_p 15)) Q) .normal E D H) (fun g => GO3 g (SEQ3 (W M c (ref09_Control_Count_p 15)) Q) (.exit 0) E D H)) ∧
 (∀ Q E D H, W M c (ref09_Control_Count_p 15) true Q E D H =
  LK true (lk E 0) fun g t0 => B3 g (Op.nilCheck [t0]) fun g t17 => B3 g ((Op.fieldAddr 4) [t17]) fun g t18 => B3 g (Op.load1 [t18] H) fun g t19 => LK g (lk E 6) fun g t6 => B3 g ((Op.indexSl 1) [t19, t6]) fun g t21 => B3 g (Op.load1 [t21] H) fun g t22 => LK g (lk E 1) fun g t1 => B3 g ((Op.bin .eql) [t22, t1]) fun g t24 => IF3 g t24 (fun g => LK g (lk E 5) fun g t5 => B3 g ((Op.bin .add) [t5, (.int .i64 1)]) fun g t26 => GO3 g (BLK3 1 (SEQ3 (W M c (ref09_Control_Count_p 22)) Q)) .normal ((5, t26)::E) D H) (fun g => GO3 g (BLK3 1 (SEQ3 (W M c (ref09_Control_Count_p 22)) Q)) .normal E D H)) ∧
 (∀ Q E D H, W M c (ref09_Control_Count_p 22) true Q E D H =
  LK true (lk E 6) fun g t6 => B3 g ((Op.bin .add) [t6, (.int .i64 1)]) fun g t15 => GO3 g Q .normal ((6, t15)::E) D H) := by (repeat' apply And.intro) <;> (intro _ _ _ _; refine W_unf ?_; kernel_rfl)
theorem ref09_Control_Count_f : (cProg Try.prog).func N_ref09_Control_Count = some ref09_Control_Count_F ∧ ref09_Control_Count_F.results = [.tmp 4] := pair_rfl (by kernel_rfl)
theorem ref09_Control_Count_at {M : Mac} [MK M] : M.func N_ref09_Control_Count = some ref09_Control_Count_F := MK.at (by decide) ref09_Control_Count_f.1
theorem ref09_Control_Count_s {M : Mac} [MK M] {a0 a1 : AV} {H : AHeap} {Q : AEnd → AHeap → Prop} (h : W M ⟨none, N_ref09_Control_Count⟩ (ref09_Control_Count_p 0) true (FIN3 M [.tmp 4] Q) [(0, a0), (1, a1)] [] H) : CALLE M N_ref09_Control_Count [a0, a1] H Q :=
  calle ref09_Control_Count_at (ks := ref09_Control_Count_K) (by kernel_rfl) (by rw [ref09_Control_Count_f.2]; exact h)
def regs_File_marked_F : AFunc := funcAt Try.prog N_regs_File_marked
def regs_File_marked_K : Kp := ⟨[0, 2], false, [0, 2, 10, 18]⟩
def regs_File_marked_p (k : Nat) : Kp × ACode := (regs_File_marked_K, part regs_File_marked_F.body k)
theorem regs_File_marked_w (M : Mac) (c : Ctx) : (∀ Q E D H, W M c (regs_File_marked_p 0) true Q E D H =
  W M c (regs_File_marked_p 2) true Q ((2, (.int .i64 0))::E) D H) ∧
 (∀ Q E D H, W M c (regs_File_marked_p 2) true Q E D H =
  LK true (lk E 0) fun g t0 => C3 M g (.func N_regs_File_none) [t0] H fun g t4 H1 => IF3 g t4 (fun g => GO3 g (SEQ3 (W M c (regs_File_marked_p 10)) Q) .ret ((2, (.int .i64 1))::E) D H1) (fun g => GO3 g (SEQ3 (W M c (regs_File_marked_p 10)) Q) .normal E D H1)) ∧
 (∀ Q E D H, W M c (regs_File_marked_p 10) true Q E D H =
  LK true (lk E 0) fun g t0 => B3 g (Op.nilCheck [t0]) fun g t6 => B3 g ((Op.fieldAddr 9) [t6]) fun g t7 => B3 g (Op.load1 [t7] H) fun g t8 => B3 g ((Op.eq .ptr false) [t8, .nilp] H) fun g t9 => IF3 g t9 (fun g => GO3 g (SEQ3 (W M c (regs_File_marked_p 18)) Q) .ret ((2, (.int .i64 60))::E) D H) (fun g => GO3 g (SEQ3 (W M c (regs_File_marked_p 18)) Q) .normal E D H)) ∧
 (∀ Q E D H, W M c (regs_File_marked_p 18) true Q E D H =
  GO3 true Q .ret ((2, (.int .i64 0))::E) D H) := by (repeat' apply And.intro) <;> (intro _ _ _ _; refine W_unf ?_; kernel_rfl)
theorem regs_File_marked_f : (cProg Try.prog).func N_regs_File_marked = some regs_File_marked_F ∧ regs_File_marked_F.results = [.tmp 2] := pair_rfl (by kernel_rfl)
theorem regs_File_marked_at {M : Mac} [MK M] : M.func N_regs_File_marked = some regs_File_marked_F := MK.at (by decide) regs_File_marked_f.1
theorem regs_File_marked_s {M : Mac} [MK M] {a0 : AV} {H : AHeap} {Q : AEnd → AHeap → Prop} (h : W M ⟨none, N_regs_File_marked⟩ (regs_File_marked_p 0) true (FIN3 M [.tmp 2] Q) [(0, a0)] [] H) : CALLE M N_regs_File_marked [a0] H Q :=
  calle regs_File_marked_at (ks := regs_File_marked_K) (by kernel_rfl) (by rw [regs_File_marked_f.2]; exact h)
def regs_File_none_F : AFunc := funcAt Try.prog N_regs_File_none
def regs_File_none_K : Kp := ⟨[0, 2], false, [0]⟩
def regs_File_none_p (k : Nat) : Kp × ACode := (regs_File_none_K, part regs_File_none_F.body k)
theorem regs_File_none_w (M : Mac) (c : Ctx) : (∀ Q E D H, W M c (regs_File_none_p 0) true Q E D H =
  LK true (lk E 0) fun g t0 => B3 g ((Op.eq .ptr false) [t0, .nilp] H) fun g t4 => JN (fun (k : Bool → AV → AV → AV → AV → AV → AHeap → Prop) => B3 g (wantV false (some t4)) fun g w => IG3 g w (fun g => B3 g (Op.nilCheck [t0]) fun g t7 => B3 g ((Op.fieldAddr 10) [t7]) fun g t8 => B3 g (Op.load1 [t8] H) fun g t9 => B3 g ((Op.un .not) [t9]) fun g t10 => k g t10 t9 t8 t7 t0 H) (fun g => k g uu uu uu uu uu H)) (fun g t10_1 t9_1 t8_1 t7_1 t6_1 H1 => B3 g (Op.pick [t4, (.bool true), t10_1]) fun g t11 => GO3 g Q .ret ((2, t11)::(2, (.bool false))::E) D H1)) := by intro _ _ _ _; refine W_unf ?_; kernel_rfl
theorem regs_File_none_f : (cProg Try.prog).func N_regs_File_none = some regs_File_none_F ∧ regs_File_none_F.results = [.tmp 2] := pair_rfl (by kernel_rfl)
theorem regs_File_none_at {M : Mac} [MK M] : M.func N_regs_File_none = some regs_File_none_F := MK.at (by decide) regs_File_none_f.1
theorem regs_File_none_s {M : Mac} [MK M] {a0 : AV} {H : AHeap} {Q : AEnd → AHeap → Prop} (h : W M ⟨none, N_regs_File_none⟩ (regs_File_none_p 0) true (FIN3 M [.tmp 2] Q) [(0, a0)] [] H) : CALLE M N_regs_File_none [a0] H Q :=
  calle regs_File_none_at (ks := regs_File_none_K) (by kernel_rfl) (by rw [regs_File_none_f.2]; exact h)
def lanes_Control_none_F : AFunc := funcAt Try.prog N_lanes_Control_none
def lanes_Control_none_K : Kp := ⟨[0, 2], false, [0]⟩
def lanes_Control_none_p (k : Nat) : Kp × ACode := (lanes_Control_none_K, part lanes_Control_none_F.body k)
theorem lanes_Control_none_w (M : Mac) (c : Ctx) : (∀ Q E D H, W M c (lanes_Control_none_p 0) true Q E D H =
  LK true (lk E 0) fun g t0 => B3 g ((Op.eq .ptr false) [t0, .nilp] H) fun g t4 => JN (fun (k : Bool → AV → AV → AV → AV → AV → AHeap → Prop) => B3 g (wantV false (some t4)) fun g w => IG3 g w (fun g => B3 g (Op.nilCheck [t0]) fun g t7 => B3 g ((Op.fieldAddr 11) [t7]) fun g t8 => B3 g (Op.load1 [t8] H) fun g t9 => B3 g ((Op.un .not) [t9]) fun g t10 => k g t10 t9 t8 t7 t0 H) (fun g => k g uu uu uu uu uu H)) (fun g t10_1 t9_1 t8_1 t7_1 t6_1 H1 => B3 g (Op.pick [t4, (.bool true), t10_1]) fun g t11 => GO3 g Q .ret ((2, t11)::(2, (.bool false))::E) D H1)) := by intro _ _ _ _; refine W_unf ?_; kernel_rfl
theorem lanes_Control_none_f : (cProg Try.prog).func N_lanes_Control_none = some lanes_Control_none_F ∧ lanes_Control_none_F.results = [.tmp 2] := pair_rfl (by kernel_rfl)
theorem lanes_Control_none_at {M : Mac} [MK M] : M.func N_lanes_Control_none = some lanes_Control_none_F := MK.at (by decide) lanes_Control_none_f.1
theorem lanes_Control_none_s {M : Mac} [MK M] {a0 : AV} {H : AHeap} {Q : AEnd → AHeap → Prop} (h : W M ⟨none, N_lanes_Control_none⟩ (lanes_Control_none_p 0) true (FIN3 M [.tmp 2] Q) [(0, a0)] [] H) : CALLE M N_lanes_Control_none [a0] H Q :=
  calle lanes_Control_none_at (ks := lanes_Control_none_K) (by kernel_rfl) (by rw [lanes_Control_none_f.2]; exact h)
end
end Go.Am
