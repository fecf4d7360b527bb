/- CodeW: CodeS CodeWA CodeWC CodeWB. -/
import Derived.Test.YtkfheegmlgfdoaaDoorAmB4
import Derived.Test.YtkfheegmlgfdoaaDoorAmB1
import Derived.KernelRfl
import Derived.Test.YtkfheegmlgfdoaaDoorRows
namespace Go.Am
set_option linter.unusedVariables false
set_option maxRecDepth 100000
abbrev N_internal_strconv_FormatInt : Nat := 81
abbrev N_internal_strconv_FormatUint : Nat := 72
abbrev N_internal_strconv_Itoa : Nat := 71
abbrev N_internal_strconv_bool2_int : Nat := 96
abbrev N_internal_strconv_formatBase10 : Nat := 84
abbrev N_internal_strconv_formatBits : Nat := 85
abbrev N_internal_strconv_log10Pow2 : Nat := 94
abbrev N_internal_strconv_numDigits : Nat := 83
abbrev N_internal_strconv_small : Nat := 82
abbrev N_law23_alive : Nat := 15
abbrev N_math_bits_Len64 : Nat := 95
abbrev N_strconv_FormatUint : Nat := 53
abbrev N_strconv_Itoa : Nat := 52
abbrev N_strings_Builder_Grow : Nat := 54
abbrev N_strings_Builder_String : Nat := 56
abbrev N_strings_Builder_WriteString : Nat := 55
abbrev N_strings_Builder_copyCheck : Nat := 73
abbrev N_strings_Builder_grow : Nat := 74
abbrev N_strings_Join : Nat := 34
abbrev T__97 : Nat := 125
abbrev T_string : Nat := 9
abbrev T_strings_Builder : Nat := 97
abbrev T_uint8 : Nat := 5
abbrev G_strconv_uint64pow10 : Nat := 2
def C_CodeS_0 : List UInt8 := [115, 116, 114, 105, 110, 103, 115, 58, 32, 74, 111, 105, 110, 32, 111, 117, 116, 112, 117, 116, 32, 108, 101, 110, 103, 116, 104, 32, 111, 118, 101, 114, 102, 108, 111, 119]
def C_CodeS_1 : List UInt8 := [115, 116, 114, 105, 110, 103, 115, 46, 66, 117, 105, 108, 100, 101, 114, 46, 71, 114, 111, 119, 58, 32, 110, 101, 103, 97, 116, 105, 118, 101, 32, 99, 111, 117, 110, 116]
def C_CodeS_2 : List UInt8 := [48, 49, 50, 51, 52, 53, 54, 55, 56, 57, 97, 98, 99, 100, 101, 102, 103, 104, 105, 106, 107, 108, 109, 110, 111, 112, 113, 114, 115, 116, 117, 118, 119, 120, 121, 122]
def C_CodeS_3 : List UInt8 := [48, 48, 48, 49, 48, 50, 48, 51, 48, 52, 48, 53, 48, 54, 48, 55, 48, 56, 48, 57, 49, 48, 49, 49, 49, 50, 49, 51, 49, 52, 49, 53, 49, 54, 49, 55, 49, 56, 49, 57, 50, 48, 50, 49, 50, 50, 50, 51, 50, 52, 50, 53, 50, 54, 50, 55, 50, 56, 50, 57, 51, 48, 51, 49, 51, 50, 51, 51, 51, 52, 51, 53, 51, 54, 51, 55, 51, 56, 51, 57, 52, 48, 52, 49, 52, 50, 52, 51, 52, 52, 52, 53, 52, 54, 52, 55, 52, 56, 52, 57, 53, 48, 53, 49, 53, 50, 53, 51, 53, 52, 53, 53, 53, 54, 53, 55, 53, 56, 53, 57, 54, 48, 54, 49, 54, 50, 54, 51, 54, 52, 54, 53, 54, 54, 54, 55, 54, 56, 54, 57, 55, 48, 55, 49, 55, 50, 55, 51, 55, 52, 55, 53, 55, 54, 55, 55, 55, 56, 55, 57, 56, 48, 56, 49, 56, 50, 56, 51, 56, 52, 56, 53, 56, 54, 56, 55, 56, 56, 56, 57, 57, 48, 57, 49, 57, 50, 57, 51, 57, 52, 57, 53, 57, 54, 57, 55, 57, 56, 57, 57]
def C_CodeS_4 : List UInt8 := [0, 1, 2, 2, 3, 3, 3, 3, 4, 4, 4, 4, 4, 4, 4, 4, 5, 5, 5, 5, 5, 5, 5, 5, 5, 5, 5, 5, 5, 5, 5, 5, 6, 6, 6, 6, 6, 6, 6, 6, 6, 6, 6, 6, 6, 6, 6, 6, 6, 6, 6, 6, 6, 6, 6, 6, 6, 6, 6, 6, 6, 6, 6, 6, 7, 7, 7, 7, 7, 7, 7, 7, 7, 7, 7, 7, 7, 7, 7, 7, 7, 7, 7, 7, 7, 7, 7, 7, 7, 7, 7, 7, 7, 7, 7, 7, 7, 7, 7, 7, 7, 7, 7, 7, 7, 7, 7, 7, 7, 7, 7, 7, 7, 7, 7, 7, 7, 7, 7, 7, 7, 7, 7, 7, 7, 7, 7, 7, 8, 8, 8, 8, 8, 8, 8, 8, 8, 8, 8, 8, 8, 8, 8, 8, 8, 8, 8, 8, 8, 8, 8, 8, 8, 8, 8, 8, 8, 8, 8, 8, 8, 8, 8, 8, 8, 8, 8, 8, 8, 8, 8, 8, 8, 8, 8, 8, 8, 8, 8, 8, 8, 8, 8, 8, 8, 8, 8, 8, 8, 8, 8, 8, 8, 8, 8, 8, 8, 8, 8, 8, 8, 8, 8, 8, 8, 8, 8, 8, 8, 8, 8, 8, 8, 8, 8, 8, 8, 8, 8, 8, 8, 8, 8, 8, 8, 8, 8, 8, 8, 8, 8, 8, 8, 8, 8, 8, 8, 8, 8, 8, 8, 8, 8, 8, 8, 8, 8, 8, 8, 8, 8, 8, 8, 8, 8, 8]
noncomputable section
open Go.Proofs Go.Proofs.YtkfheegmlgfdoaaDoor
class MK (M : Mac) : Prop where
  ok : ∀ n, memN n [15] = false → M.func n = (cProg Tryd.prog).func n
theorem MK.at {M : Mac} [h : MK M] {n : Nat} {F : AFunc} (hn : memN n [15] = false) (hF : (cProg Tryd.prog).func n = some F) : M.func n = some F := (h.ok n hn).trans hF
def strings_Join_F : AFunc := funcAt Tryd.prog N_strings_Join
def strings_Join_K : Kp := ⟨[0, 1, 4, 5, 7, 8, 10, 12, 39, 40, 41, 63, 64, 65], false, [0, 2, 19, 21, 25, 31, 33, 38, 44, 48, 54, 55, 56, 60, 62, 67, 73, 80, 81]⟩
def strings_Join_p (k : Nat) : Kp × ACode := (strings_Join_K, part strings_Join_F.body k)
theorem strings_Join_w (M : Mac) (c : Ctx) : (∀ Q E D H, W M c (strings_Join_p 0) true Q E D H =
  W M c (strings_Join_p 2) true Q ((4, (.str []))::E) D H) ∧
 (∀ Q E D H, W M c (strings_Join_p 2) true Q E D H =
  LK true (lk E 0) fun g t0 => B3 g (Op.lenSl [t0]) fun g t12 => B3 g ((Op.bin .eql) [t12, (.int .i64 0)]) fun g t14 => IF3 g t14 (fun g => GO3 g (BLK3 0 (SEQ3 (W M c (strings_Join_p 19)) Q)) .ret ((4, (.str []))::(12, t12)::E) D H) (fun g => B3 g ((Op.bin .eql) [t12, (.int .i64 1)]) fun g t16 => IF3 g t16 (fun g => LK g (lk E 0) fun g t0_1 => B3 g ((Op.indexSl 1) [t0_1, (.int .i64 0)]) fun g t18 => B3 g (Op.load1 [t18] H) fun g t19 => GO3 g (BLK3 0 (SEQ3 (W M c (strings_Join_p 19)) Q)) .ret ((4, t19)::(12, t12)::E) D H) (fun g => GO3 g (BLK3 0 (SEQ3 (W M c (strings_Join_p 19)) Q)) .normal ((12, t12)::E) D H))) ∧
 (∀ Q E D H, W M c (strings_Join_p 19) true Q E D H =
  W M c (strings_Join_p 21) true Q ((5, (.int .i64 0))::E) D H) ∧
 (∀ Q E D H, W M c (strings_Join_p 21) true Q E D H =
  LK true (lk E 1) fun g t1 => B3 g (Op.lenStr [t1]) fun g t21 => B3 g ((Op.bin .gtr) [t21, (.int .i64 0)]) fun g t22 => IF3 g t22 (fun g => W M c (strings_Join_p 25) g (SEQ3 (W M c (strings_Join_p 33)) Q) E D H) (fun g => GO3 g (SEQ3 (W M c (strings_Join_p 33)) Q) .normal E D H)) ∧
 (∀ Q E D H, W M c (strings_Join_p 33) true Q E D H =
  LK true (lk E 0) fun g t0 => B3 g (Op.lenSl [t0]) fun g t40 => LOOP3 (W M c (strings_Join_p 38)) (BLK3 1 (SEQ3 (W M c (strings_Join_p 56)) Q)) ((41, (.int .i64 0))::(40, t40)::(39, t0)::E) D H) ∧
 (∀ Q E D H, W M c (strings_Join_p 25) true Q E D H =
  LK true (lk E 1) fun g t1 => B3 g (Op.lenStr [t1]) fun g t24 => LK g (lk E 0) fun g t0 => B3 g (Op.lenSl [t0]) fun g t26 => B3 g ((Op.bin .sub) [t26, (.int .i64 1)]) fun g t27 => B3 g ((Op.bin .quo) [(.int .i64 9223372036854775807), t27]) fun g t28 => B3 g ((Op.bin .geq) [t24, t28]) fun g t29 => IF3 g t29 (fun g => B3 g ((Op.mkIface T_string) [(.str C_CodeS_0)]) fun g t30 => False) (fun g => GO3 g (SEQ3 (W M c (strings_Join_p 31)) Q) .normal E D H)) ∧
 (∀ Q E D H, W M c (strings_Join_p 56) true Q E D H =
  A3 true T_strings_Builder [.nilp, .nils] H fun g t8 H1 => LK g (lk E 5) fun g t5 => C3 M g (.func N_strings_Builder_Grow) [t8, t5] H1 fun g t57 H2 => W M c (strings_Join_p 60) g Q ((8, t8)::E) D H2) ∧
 (∀ Q E D H, W M c (strings_Join_p 38) true Q E D H =
  LK true (lk E 41) fun g t41 => LK g (lk E 40) fun g t40 => B3 g ((Op.bin .lss) [t41, t40]) fun g t42 => IF3 g t42 (fun g => GO3 g (SEQ3 (W M c (strings_Join_p 44)) Q) .normal E D H) (fun g => GO3 g (SEQ3 (W M c (strings_Join_p 44)) Q) (.exit 1) E D H)) ∧
 (∀ Q E D H, W M c (strings_Join_p 31) true Q E D H =
  LK true (lk E 5) fun g t5 => LK g (lk E 1) fun g t1 => B3 g (Op.lenStr [t1]) fun g t33 => LK g (lk E 0) fun g t0 => B3 g (Op.lenSl [t0]) fun g t35 => B3 g ((Op.bin .sub) [t35, (.int .i64 1)]) fun g t36 => B3 g ((Op.bin .mul) [t33, t36]) fun g t37 => B3 g ((Op.bin .add) [t5, t37]) fun g t38 => GO3 g Q .normal ((5, t38)::E) D H) ∧
 (∀ Q E D H, W M c (strings_Join_p 60) true Q E D H =
  LK true (lk E 0) fun g t0 => B3 g ((Op.indexSl 1) [t0, (.int .i64 0)]) fun g t59 => B3 g (Op.load1 [t59] H) fun g t60 => LK g (lk E 8) fun g t8 => C3 M g (.func N_strings_Builder_WriteString) [t8, t60] H fun g t61 H1 => W M c (strings_Join_p 62) g Q E D H1) ∧
 (∀ Q E D H, W M c (strings_Join_p 44) true Q E D H =
  LK true (lk E 39) fun g t39 => LK g (lk E 41) fun g t41 => B3 g ((Op.indexSl 1) [t39, t41]) fun g t43 => B3 g (Op.load1 [t43] H) fun g t44 => W M c (strings_Join_p 48) g (BLK3 2 (SEQ3 (W M c (strings_Join_p 55)) Q)) ((7, t44)::E) D H) ∧
 (∀ Q E D H, W M c (strings_Join_p 62) true Q E D H =
  LK true (lk E 0) fun g t0 => B3 g ((Op.sliceSl 1 [(some 0), none, none]) [t0, (.int .i64 1)]) fun g t63 => B3 g (Op.lenSl [t63]) fun g t64 => LOOP3 (W M c (strings_Join_p 67)) (BLK3 3 (SEQ3 (W M c (strings_Join_p 81)) Q)) ((65, (.int .i64 0))::(64, t64)::(63, t63)::E) D H) ∧
 (∀ Q E D H, W M c (strings_Join_p 55) true Q E D H =
  LK true (lk E 41) fun g t41 => B3 g ((Op.bin .add) [t41, (.int .i64 1)]) fun g t55 => GO3 g Q .normal ((41, t55)::E) D H) ∧
 (∀ Q E D H, W M c (strings_Join_p 48) true Q E D H =
  LK true (lk E 7) fun g t7 => B3 g (Op.lenStr [t7]) fun g t46 => LK g (lk E 5) fun g t5 => B3 g ((Op.bin .sub) [(.int .i64 9223372036854775807), t5]) fun g t48 => B3 g ((Op.bin .gtr) [t46, t48]) fun g t49 => IF3 g t49 (fun g => B3 g ((Op.mkIface T_string) [(.str C_CodeS_0)]) fun g t50 => False) (fun g => GO3 g (SEQ3 (W M c (strings_Join_p 54)) Q) .normal E D H)) ∧
 (∀ Q E D H, W M c (strings_Join_p 81) true Q E D H =
  LK true (lk E 8) fun g t8 => C3 M g (.func N_strings_Builder_String) [t8] H fun g t74 H1 => GO3 g Q .ret ((4, t74)::E) D H1) ∧
 (∀ Q E D H, W M c (strings_Join_p 67) true Q E D H =
  LK true (lk E 65) fun g t65 => LK g (lk E 64) fun g t64 => B3 g ((Op.bin .lss) [t65, t64]) fun g t66 => IF3 g t66 (fun g => GO3 g (SEQ3 (W M c (strings_Join_p 73)) Q) .normal E D H) (fun g => GO3 g (SEQ3 (W M c (strings_Join_p 73)) Q) (.exit 3) E D H)) ∧
 (∀ Q E D H, W M c (strings_Join_p 54) true Q E D H =
  LK true (lk E 5) fun g t5 => LK g (lk E 7) fun g t7 => B3 g (Op.lenStr [t7]) fun g t53 => B3 g ((Op.bin .add) [t5, t53]) fun g t54 => GO3 g Q .normal ((5, t54)::E) D H) ∧
 (∀ Q E D H, W M c (strings_Join_p 73) true Q E D H =
  LK true (lk E 63) fun g t63 => LK g (lk E 65) fun g t65 => B3 g ((Op.indexSl 1) [t63, t65]) fun g t67 => B3 g (Op.load1 [t67] H) fun g t68 => LK g (lk E 1) fun g t1 => LK g (lk E 8) fun g t8 => C3 M g (.func N_strings_Builder_WriteString) [t8, t1] H fun g t70 H1 => LK g (lk E 8) fun g t8_1 => C3 M g (.func N_strings_Builder_WriteString) [t8_1, t68] H1 fun g t72 H2 => GO3 g (BLK3 4 (SEQ3 (W M c (strings_Join_p 80)) Q)) .normal ((10, t68)::E) D H2) ∧
 (∀ Q E D H, W M c (strings_Join_p 80) true Q E D H =
  LK true (lk E 65) fun g t65 => B3 g ((Op.bin .add) [t65, (.int .i64 1)]) fun g t73 => GO3 g Q .normal ((65, t73)::E) D H) := by (repeat' apply And.intro) <;> (intro _ _ _ _; refine W_unf ?_; kernel_rfl)
theorem strings_Join_f : (cProg Tryd.prog).func N_strings_Join = some strings_Join_F ∧ strings_Join_F.results = [.tmp 4] := pair_rfl (by kernel_rfl)
theorem strings_Join_at {M : Mac} [MK M] : M.func N_strings_Join = some strings_Join_F := MK.at (by decide) strings_Join_f.1
theorem strings_Join_s {M : Mac} [MK M] {a0 a1 : AV} {H : AHeap} {Q : AEnd → AHeap → Prop} (h : W M ⟨none, N_strings_Join⟩ (strings_Join_p 0) true (FIN3 M [.tmp 4] Q) [(0, a0), (1, a1)] [] H) : CALLE M N_strings_Join [a0, a1] H Q :=
  calle strings_Join_at (ks := strings_Join_K) (by kernel_rfl) (by rw [strings_Join_f.2]; exact h)
def strconv_Itoa_F : AFunc := funcAt Tryd.prog N_strconv_Itoa
def strconv_Itoa_K : Kp := ⟨[0, 2], false, [0]⟩
def strconv_Itoa_p (k : Nat) : Kp × ACode := (strconv_Itoa_K, part strconv_Itoa_F.body k)
theorem strconv_Itoa_w (M : Mac) (c : Ctx) : (∀ Q E D H, W M c (strconv_Itoa_p 0) true Q E D H =
  LK true (lk E 0) fun g t0 => C3 M g (.func N_internal_strconv_Itoa) [t0] H fun g t4 H1 => GO3 g Q .ret ((2, t4)::(2, (.str []))::E) D H1) := by intro _ _ _ _; refine W_unf ?_; kernel_rfl
theorem strconv_Itoa_f : (cProg Tryd.prog).func N_strconv_Itoa = some strconv_Itoa_F ∧ strconv_Itoa_F.results = [.tmp 2] := pair_rfl (by kernel_rfl)
theorem strconv_Itoa_at {M : Mac} [MK M] : M.func N_strconv_Itoa = some strconv_Itoa_F := MK.at (by decide) strconv_Itoa_f.1
theorem strconv_Itoa_s {M : Mac} [MK M] {a0 : AV} {H : AHeap} {Q : AEnd → AHeap → Prop} (h : W M ⟨none, N_strconv_Itoa⟩ (strconv_Itoa_p 0) true (FIN3 M [.tmp 2] Q) [(0, a0)] [] H) : CALLE M N_strconv_Itoa [a0] H Q :=
  calle strconv_Itoa_at (ks := strconv_Itoa_K) (by kernel_rfl) (by rw [strconv_Itoa_f.2]; exact h)
def strconv_FormatUint_F : AFunc := funcAt Tryd.prog N_strconv_FormatUint
def strconv_FormatUint_K : Kp := ⟨[0, 1, 4], false, [0]⟩
def strconv_FormatUint_p (k : Nat) : Kp × ACode := (strconv_FormatUint_K, part strconv_FormatUint_F.body k)
theorem strconv_FormatUint_w (M : Mac) (c : Ctx) : (∀ Q E D H, W M c (strconv_FormatUint_p 0) true Q E D H =
  LK true (lk E 0) fun g t0 => LK g (lk E 1) fun g t1 => C3 M g (.func N_internal_strconv_FormatUint) [t0, t1] H fun g t7 H1 => GO3 g Q .ret ((4, t7)::(4, (.str []))::E) D H1) := by intro _ _ _ _; refine W_unf ?_; kernel_rfl
theorem strconv_FormatUint_f : (cProg Tryd.prog).func N_strconv_FormatUint = some strconv_FormatUint_F ∧ strconv_FormatUint_F.results = [.tmp 4] := pair_rfl (by kernel_rfl)
theorem strconv_FormatUint_at {M : Mac} [MK M] : M.func N_strconv_FormatUint = some strconv_FormatUint_F := MK.at (by decide) strconv_FormatUint_f.1
theorem strconv_FormatUint_s {M : Mac} [MK M] {a0 a1 : AV} {H : AHeap} {Q : AEnd → AHeap → Prop} (h : W M ⟨none, N_strconv_FormatUint⟩ (strconv_FormatUint_p 0) true (FIN3 M [.tmp 4] Q) [(0, a0), (1, a1)] [] H) : CALLE M N_strconv_FormatUint [a0, a1] H Q :=
  calle strconv_FormatUint_at (ks := strconv_FormatUint_K) (by kernel_rfl) (by rw [strconv_FormatUint_f.2]; exact h)
def strings_Builder_Grow_F : AFunc := funcAt Tryd.prog N_strings_Builder_Grow
def strings_Builder_Grow_K : Kp := ⟨[0, 1], false, [0, 2, 8]⟩
def strings_Builder_Grow_p (k : Nat) : Kp × ACode := (strings_Builder_Grow_K, part strings_Builder_Grow_F.body k)
theorem strings_Builder_Grow_w (M : Mac) (c : Ctx) : (∀ Q E D H, W M c (strings_Builder_Grow_p 0) true Q E D H =
  LK true (lk E 0) fun g t0 => C3 M g (.func N_strings_Builder_copyCheck) [t0] H fun g t5 H1 => W M c (strings_Builder_Grow_p 2) g Q E D H1) ∧
 (∀ Q E D H, W M c (strings_Builder_Grow_p 2) true Q E D H =
  LK true (lk E 1) fun g t1 => B3 g ((Op.bin .lss) [t1, (.int .i64 0)]) fun g t7 => IF3 g t7 (fun g => B3 g ((Op.mkIface T_string) [(.str C_CodeS_1)]) fun g t8 => False) (fun g => GO3 g (SEQ3 (W M c (strings_Builder_Grow_p 8)) Q) .normal E D H)) ∧
 (∀ Q E D H, W M c (strings_Builder_Grow_p 8) true Q E D H =
  LK true (lk E 0) fun g t0 => B3 g (Op.nilCheck [t0]) fun g t10 => B3 g ((Op.fieldAddr 1) [t10]) fun g t11 => B3 g (Op.load1 [t11] H) fun g t12 => B3 g (Op.cap [t12]) fun g t13 => B3 g (Op.nilCheck [t0]) fun g t15 => B3 g ((Op.fieldAddr 1) [t15]) fun g t16 => B3 g (Op.load1 [t16] H) fun g t17 => B3 g (Op.lenSl [t17]) fun g t18 => B3 g ((Op.bin .sub) [t13, t18]) fun g t19 => LK g (lk E 1) fun g t1 => B3 g ((Op.bin .lss) [t19, t1]) fun g t21 => IF3 g t21 (fun g => LK g (lk E 0) fun g t0_1 => LK g (lk E 1) fun g t1_1 => C3 M g (.func N_strings_Builder_grow) [t0_1, t1_1] H fun g t24 H1 => GO3 g Q .normal E D H1) (fun g => GO3 g Q .normal E D H)) := by (repeat' apply And.intro) <;> (intro _ _ _ _; refine W_unf ?_; kernel_rfl)
theorem strings_Builder_Grow_f : (cProg Tryd.prog).func N_strings_Builder_Grow = some strings_Builder_Grow_F ∧ strings_Builder_Grow_F.results = [] := pair_rfl (by kernel_rfl)
theorem strings_Builder_Grow_at {M : Mac} [MK M] : M.func N_strings_Builder_Grow = some strings_Builder_Grow_F := MK.at (by decide) strings_Builder_Grow_f.1
theorem strings_Builder_Grow_s {M : Mac} [MK M] {a0 a1 : AV} {H : AHeap} {Q : AEnd → AHeap → Prop} (h : W M ⟨none, N_strings_Builder_Grow⟩ (strings_Builder_Grow_p 0) true (FIN3 M [] Q) [(0, a0), (1, a1)] [] H) : CALLE M N_strings_Builder_Grow [a0, a1] H Q :=
  calle strings_Builder_Grow_at (ks := strings_Builder_Grow_K) (by kernel_rfl) (by rw [strings_Builder_Grow_f.2]; exact h)
def strings_Builder_WriteString_F : AFunc := funcAt Tryd.prog N_strings_Builder_WriteString
def strings_Builder_WriteString_K : Kp := ⟨[0, 1, 4, 5], false, [0]⟩
def strings_Builder_WriteString_p (k : Nat) : Kp × ACode := (strings_Builder_WriteString_K, part strings_Builder_WriteString_F.body k)
theorem strings_Builder_WriteString_w (M : Mac) (c : Ctx) : (∀ Q E D H, W M c (strings_Builder_WriteString_p 0) true Q E D H =
  LK true (lk E 0) fun g t0 => C3 M g (.func N_strings_Builder_copyCheck) [t0] H fun g t7 H1 => LK g (lk E 0) fun g t0_1 => B3 g (Op.nilCheck [t0_1]) fun g t10 => B3 g ((Op.fieldAddr 1) [t10]) fun g t11 => B3 g (Op.load1 [t11] H1) fun g t12 => LK g (lk E 1) fun g t1 => B32 g ((Op.append T_uint8 1 1) [t12, t1] H1) fun g t14 H2 => B3 g (Op.nilCheck [t0_1]) fun g t15 => B3 g ((Op.fieldAddr 1) [t15]) fun g t16 => B32 g ((Op.store 1) [t16, t14] H2) fun g u H3 => LK g (lk E 1) fun g t1_1 => B3 g (Op.lenStr [t1_1]) fun g t18 => GO3 g Q .ret ((5, .nili)::(4, t18)::(5, .nili)::(4, (.int .i64 0))::E) D H3) := by intro _ _ _ _; refine W_unf ?_; kernel_rfl
theorem strings_Builder_WriteString_f : (cProg Tryd.prog).func N_strings_Builder_WriteString = some strings_Builder_WriteString_F ∧ strings_Builder_WriteString_F.results = [.tmp 4, .tmp 5] := pair_rfl (by kernel_rfl)
theorem strings_Builder_WriteString_at {M : Mac} [MK M] : M.func N_strings_Builder_WriteString = some strings_Builder_WriteString_F := MK.at (by decide) strings_Builder_WriteString_f.1
theorem strings_Builder_WriteString_s {M : Mac} [MK M] {a0 a1 : AV} {H : AHeap} {Q : AEnd → AHeap → Prop} (h : W M ⟨none, N_strings_Builder_WriteString⟩ (strings_Builder_WriteString_p 0) true (FIN3 M [.tmp 4, .tmp 5] Q) [(0, a0), (1, a1)] [] H) : CALLE M N_strings_Builder_WriteString [a0, a1] H Q :=
  calle strings_Builder_WriteString_at (ks := strings_Builder_WriteString_K) (by kernel_rfl) (by rw [strings_Builder_WriteString_f.2]; exact h)
def strings_Builder_String_F : AFunc := funcAt Tryd.prog N_strings_Builder_String
def strings_Builder_String_K : Kp := ⟨[0, 2], false, [0]⟩
def strings_Builder_String_p (k : Nat) : Kp × ACode := (strings_Builder_String_K, part strings_Builder_String_F.body k)
theorem strings_Builder_String_w (M : Mac) (c : Ctx) : (∀ Q E D H, W M c (strings_Builder_String_p 0) true Q E D H =
  LK true (lk E 0) fun g t0 => B3 g (Op.nilCheck [t0]) fun g t4 => B3 g ((Op.fieldAddr 1) [t4]) fun g t5 => B3 g (Op.load1 [t5] H) fun g t6 => B3 g (Op.sliceData [t6]) fun g t7 => B3 g (Op.nilCheck [t0]) fun g t9 => B3 g ((Op.fieldAddr 1) [t9]) fun g t10 => B3 g (Op.load1 [t10] H) fun g t11 => B3 g (Op.lenSl [t11]) fun g t12 => B32 g ((Op.strOfPtr T_uint8) [t7, t12] H) fun g t13 H1 => GO3 g Q .ret ((2, t13)::(2, (.str []))::E) D H1) := by intro _ _ _ _; refine W_unf ?_; kernel_rfl
theorem strings_Builder_String_f : (cProg Tryd.prog).func N_strings_Builder_String = some strings_Builder_String_F ∧ strings_Builder_String_F.results = [.tmp 2] := pair_rfl (by kernel_rfl)
theorem strings_Builder_String_at {M : Mac} [MK M] : M.func N_strings_Builder_String = some strings_Builder_String_F := MK.at (by decide) strings_Builder_String_f.1
theorem strings_Builder_String_s {M : Mac} [MK M] {a0 : AV} {H : AHeap} {Q : AEnd → AHeap → Prop} (h : W M ⟨none, N_strings_Builder_String⟩ (strings_Builder_String_p 0) true (FIN3 M [.tmp 2] Q) [(0, a0)] [] H) : CALLE M N_strings_Builder_String [a0] H Q :=
  calle strings_Builder_String_at (ks := strings_Builder_String_K) (by kernel_rfl) (by rw [strings_Builder_String_f.2]; exact h)
def internal_strconv_Itoa_F : AFunc := funcAt Tryd.prog N_internal_strconv_Itoa
def internal_strconv_Itoa_K : Kp := ⟨[0, 2], false, [0]⟩
def internal_strconv_Itoa_p (k : Nat) : Kp × ACode := (internal_strconv_Itoa_K, part internal_strconv_Itoa_F.body k)
theorem internal_strconv_Itoa_w (M : Mac) (c : Ctx) : (∀ Q E D H, W M c (internal_strconv_Itoa_p 0) true Q E D H =
  LK true (lk E 0) fun g t0 => C3 M g (.func N_internal_strconv_FormatInt) [t0, (.int .i64 10)] H fun g t4 H1 => GO3 g Q .ret ((2, t4)::(2, (.str []))::E) D H1) := by intro _ _ _ _; refine W_unf ?_; kernel_rfl
theorem internal_strconv_Itoa_f : (cProg Tryd.prog).func N_internal_strconv_Itoa = some internal_strconv_Itoa_F ∧ internal_strconv_Itoa_F.results = [.tmp 2] := pair_rfl (by kernel_rfl)
theorem internal_strconv_Itoa_at {M : Mac} [MK M] : M.func N_internal_strconv_Itoa = some internal_strconv_Itoa_F := MK.at (by decide) internal_strconv_Itoa_f.1
theorem internal_strconv_Itoa_s {M : Mac} [MK M] {a0 : AV} {H : AHeap} {Q : AEnd → AHeap → Prop} (h : W M ⟨none, N_internal_strconv_Itoa⟩ (internal_strconv_Itoa_p 0) true (FIN3 M [.tmp 2] Q) [(0, a0)] [] H) : CALLE M N_internal_strconv_Itoa [a0] H Q :=
  calle internal_strconv_Itoa_at (ks := internal_strconv_Itoa_K) (by kernel_rfl) (by rw [internal_strconv_Itoa_f.2]; exact h)
def internal_strconv_FormatUint_F : AFunc := funcAt Tryd.prog N_internal_strconv_FormatUint
def internal_strconv_FormatUint_K : Kp := ⟨[0, 1, 4, 5, 6, 8], false, [0, 2, 6, 14, 24]⟩
def internal_strconv_FormatUint_p (k : Nat) : Kp × ACode := (internal_strconv_FormatUint_K, part internal_strconv_FormatUint_F.body k)
theorem internal_strconv_FormatUint_w (M : Mac) (c : Ctx) : (∀ Q E D H, W M c (internal_strconv_FormatUint_p 0) true Q E D H =
  W M c (internal_strconv_FormatUint_p 2) true Q ((4, (.str []))::E) D H) ∧
 (∀ Q E D H, W M c (internal_strconv_FormatUint_p 2) true Q E D H =
  LK true (lk E 1) fun g t1 => B3 g ((Op.bin .eql) [t1, (.int .i64 10)]) fun g t10 => IF3 g t10 (fun g => W M c (internal_strconv_FormatUint_p 6) g (SEQ3 (W M c (internal_strconv_FormatUint_p 24)) Q) E D H) (fun g => GO3 g (SEQ3 (W M c (internal_strconv_FormatUint_p 24)) Q) .normal E D H)) ∧
 (∀ Q E D H, W M c (internal_strconv_FormatUint_p 24) true Q E D H =
  LK true (lk E 0) fun g t0 => LK g (lk E 1) fun g t1 => C3 M g (.func N_internal_strconv_formatBits) [.nils, t0, t1, (.bool false), (.bool false)] H fun g t28 H1 => B3 g ((Op.extract 0) [t28]) fun g t29 => B3 g ((Op.extract 1) [t28]) fun g t30 => GO3 g Q .ret ((4, t30)::(8, t30)::E) D H1) ∧
 (∀ Q E D H, W M c (internal_strconv_FormatUint_p 6) true Q E D H =
  LK true (lk E 0) fun g t0 => B3 g ((Op.bin .lss) [t0, (.int .u64 100)]) fun g t12 => IF3 g t12 (fun g => LK g (lk E 0) fun g t0_1 => B3 g ((Op.wrap .i64) [t0_1]) fun g t14 => C3 M g (.func N_internal_strconv_small) [t14] H fun g t15 H1 => GO3 g (SEQ3 (W M c (internal_strconv_FormatUint_p 14)) Q) .ret ((4, t15)::E) D H1) (fun g => GO3 g (SEQ3 (W M c (internal_strconv_FormatUint_p 14)) Q) .normal E D H)) ∧
 (∀ Q E D H, W M c (internal_strconv_FormatUint_p 14) true Q E D H =
  A3 true T__97 (List.replicate 24 (.int .u8 0)) H fun g t5 H1 => LK g (lk E 0) fun g t0 => C3 M g (.func N_internal_strconv_numDigits) [t0] H1 fun g t17 H2 => B3 g ((Op.sliceArr 24 1 [none, (some 0), none]) [t5, t17]) fun g t19 => LK g (lk E 0) fun g t0_1 => C3 M g (.func N_internal_strconv_formatBase10) [t19, t0_1] H2 fun g t21 H3 => B3 g ((Op.sliceArr 24 1 [none, (some 0), none]) [t5, t17]) fun g t23 => B3 g (Op.strOfBytes [t23] H3) fun g t24 => GO3 g Q .ret ((4, t24)::(6, t17)::(5, t5)::E) D H3) := by (repeat' apply And.intro) <;> (intro _ _ _ _; refine W_unf ?_; kernel_rfl)
theorem internal_strconv_FormatUint_f : (cProg Tryd.prog).func N_internal_strconv_FormatUint = some internal_strconv_FormatUint_F ∧ internal_strconv_FormatUint_F.results = [.tmp 4] := pair_rfl (by kernel_rfl)
theorem internal_strconv_FormatUint_at {M : Mac} [MK M] : M.func N_internal_strconv_FormatUint = some internal_strconv_FormatUint_F := MK.at (by decide) internal_strconv_FormatUint_f.1
theorem internal_strconv_FormatUint_s {M : Mac} [MK M] {a0 a1 : AV} {H : AHeap} {Q : AEnd → AHeap → Prop} (h : W M ⟨none, N_internal_strconv_FormatUint⟩ (internal_strconv_FormatUint_p 0) true (FIN3 M [.tmp 4] Q) [(0, a0), (1, a1)] [] H) : CALLE M N_internal_strconv_FormatUint [a0, a1] H Q :=
  calle internal_strconv_FormatUint_at (ks := internal_strconv_FormatUint_K) (by kernel_rfl) (by rw [internal_strconv_FormatUint_f.2]; exact h)
def strings_Builder_copyCheck_F : AFunc := funcAt Tryd.prog N_strings_Builder_copyCheck
def strings_Builder_copyCheck_K : Kp := ⟨[0], false, [0]⟩
def strings_Builder_copyCheck_p (k : Nat) : Kp × ACode := (strings_Builder_copyCheck_K, part strings_Builder_copyCheck_F.body k)
theorem strings_Builder_copyCheck_w (M : Mac) (c : Ctx) : (∀ Q E D H, W M c (strings_Builder_copyCheck_p 0) true Q E D H =
  LK true (lk E 0) fun g t0 => B3 g (Op.nilCheck [t0]) fun g t3 => B3 g ((Op.fieldAddr 0) [t3]) fun g t4 => B3 g (Op.load1 [t4] H) fun g t5 => B3 g ((Op.eq .ptr false) [t5, .nilp] H) fun g t6 => IF3 g t6 (fun g => LK g (lk E 0) fun g t0_1 => B3 g ((Op.castPtr (liesB Tryd.prog 97)) [t0_1] H) fun g t9 => B3 g (Op.noEscape [t9]) fun g t10 => B3 g ((Op.castPtr (liesB Tryd.prog 97)) [t10] H) fun g t11 => B3 g (Op.nilCheck [t0_1]) fun g t12 => B3 g ((Op.fieldAddr 0) [t12]) fun g t13 => B32 g ((Op.store 1) [t13, t11] H) fun g u H1 => GO3 g Q .normal E D H1) (fun g => LK g (lk E 0) fun g t0_1 => B3 g (Op.nilCheck [t0_1]) fun g t15 => B3 g ((Op.fieldAddr 0) [t15]) fun g t16 => B3 g (Op.load1 [t16] H) fun g t17 => B3 g ((Op.eq .ptr true) [t17, t0_1] H) fun g t19 => IF3 g t19 (fun g => False) (fun g => GO3 g Q .normal E D H))) := by intro _ _ _ _; refine W_unf ?_; kernel_rfl
theorem strings_Builder_copyCheck_f : (cProg Tryd.prog).func N_strings_Builder_copyCheck = some strings_Builder_copyCheck_F ∧ strings_Builder_copyCheck_F.results = [] := pair_rfl (by kernel_rfl)
theorem strings_Builder_copyCheck_at {M : Mac} [MK M] : M.func N_strings_Builder_copyCheck = some strings_Builder_copyCheck_F := MK.at (by decide) strings_Builder_copyCheck_f.1
theorem strings_Builder_copyCheck_s {M : Mac} [MK M] {a0 : AV} {H : AHeap} {Q : AEnd → AHeap → Prop} (h : W M ⟨none, N_strings_Builder_copyCheck⟩ (strings_Builder_copyCheck_p 0) true (FIN3 M [] Q) [(0, a0)] [] H) : CALLE M N_strings_Builder_copyCheck [a0] H Q :=
  calle strings_Builder_copyCheck_at (ks := strings_Builder_copyCheck_K) (by kernel_rfl) (by rw [strings_Builder_copyCheck_f.2]; exact h)
def strings_Builder_grow_F : AFunc := funcAt Tryd.prog N_strings_Builder_grow
def strings_Builder_grow_K : Kp := ⟨[0, 1, 4], false, [0]⟩
def strings_Builder_grow_p (k : Nat) : Kp × ACode := (strings_Builder_grow_K, part strings_Builder_grow_F.body k)
theorem strings_Builder_grow_w (M : Mac) (c : Ctx) : (∀ Q E D H, W M c (strings_Builder_grow_p 0) true Q E D H =
  LK true (lk E 0) fun g t0 => B3 g (Op.nilCheck [t0]) fun g t6 => B3 g ((Op.fieldAddr 1) [t6]) fun g t7 => B3 g (Op.load1 [t7] H) fun g t8 => B3 g (Op.cap [t8]) fun g t9 => B3 g ((Op.bin .mul) [(.int .i64 2), t9]) fun g t10 => LK g (lk E 1) fun g t1 => B3 g ((Op.bin .add) [t10, t1]) fun g t12 => B3 g (Op.nilCheck [t0]) fun g t15 => B3 g ((Op.fieldAddr 1) [t15]) fun g t16 => B3 g (Op.load1 [t16] H) fun g t17 => B3 g (Op.lenSl [t17]) fun g t18 => B32 g ((Op.makeNoZero T_uint8) [t12]) fun g o1 k1 => B3 g ((Op.sliceSl 1 [none, (some 0), none]) [(k1 H.next), t18]) fun g t19 => LK g (lk E 0) fun g t0_1 => B3 g (Op.nilCheck [t0_1]) fun g t22 => B3 g ((Op.fieldAddr 1) [t22]) fun g t23 => B3 g (Op.load1 [t23] (H.alloc o1)) fun g t24 => B32 g ((Op.copy 1) [t19, t24] (H.alloc o1)) fun g t25 H2 => LK g (lk E 0) fun g t0_2 => B3 g (Op.nilCheck [t0_2]) fun g t28 => B3 g ((Op.fieldAddr 1) [t28]) fun g t29 => B32 g ((Op.store 1) [t29, t19] H2) fun g u H3 => GO3 g Q .normal ((4, t19)::E) D H3) := by intro _ _ _ _; refine W_unf ?_; kernel_rfl
theorem strings_Builder_grow_f : (cProg Tryd.prog).func N_strings_Builder_grow = some strings_Builder_grow_F ∧ strings_Builder_grow_F.results = [] := pair_rfl (by kernel_rfl)
theorem strings_Builder_grow_at {M : Mac} [MK M] : M.func N_strings_Builder_grow = some strings_Builder_grow_F := MK.at (by decide) strings_Builder_grow_f.1
theorem strings_Builder_grow_s {M : Mac} [MK M] {a0 a1 : AV} {H : AHeap} {Q : AEnd → AHeap → Prop} (h : W M ⟨none, N_strings_Builder_grow⟩ (strings_Builder_grow_p 0) true (FIN3 M [] Q) [(0, a0), (1, a1)] [] H) : CALLE M N_strings_Builder_grow [a0, a1] H Q :=
  calle strings_Builder_grow_at (ks := strings_Builder_grow_K) (by kernel_rfl) (by rw [strings_Builder_grow_f.2]; exact h)
def internal_strconv_FormatInt_F : AFunc := funcAt Tryd.prog N_internal_strconv_FormatInt
def internal_strconv_FormatInt_K : Kp := ⟨[0, 1, 4, 5, 6, 7, 9], false, [0, 2, 6, 14, 18, 24, 28, 38, 42]⟩
def internal_strconv_FormatInt_p (k : Nat) : Kp × ACode := (internal_strconv_FormatInt_K, part internal_strconv_FormatInt_F.body k)
theorem internal_strconv_FormatInt_w (M : Mac) (c : Ctx) : (∀ Q E D H, W M c (internal_strconv_FormatInt_p 0) true Q E D H =
  W M c (internal_strconv_FormatInt_p 2) true Q ((4, (.str []))::E) D H) ∧
 (∀ Q E D H, W M c (internal_strconv_FormatInt_p 2) true Q E D H =
  LK true (lk E 1) fun g t1 => B3 g ((Op.bin .eql) [t1, (.int .i64 10)]) fun g t11 => IF3 g t11 (fun g => W M c (internal_strconv_FormatInt_p 6) g (SEQ3 (W M c (internal_strconv_FormatInt_p 42)) Q) E D H) (fun g => GO3 g (SEQ3 (W M c (internal_strconv_FormatInt_p 42)) Q) .normal E D H)) ∧
 (∀ Q E D H, W M c (internal_strconv_FormatInt_p 42) true Q E D H =
  LK true (lk E 0) fun g t0 => B3 g ((Op.wrap .u64) [t0]) fun g t46 => LK g (lk E 1) fun g t1 => B3 g ((Op.bin .lss) [t0, (.int .i64 0)]) fun g t49 => C3 M g (.func N_internal_strconv_formatBits) [.nils, t46, t1, t49, (.bool false)] H fun g t50 H1 => B3 g ((Op.extract 0) [t50]) fun g t51 => B3 g ((Op.extract 1) [t50]) fun g t52 => GO3 g Q .ret ((4, t52)::(9, t52)::E) D H1) ∧
 (∀ Q E D H, W M c (internal_strconv_FormatInt_p 6) true Q E D H =
  LK true (lk E 0) fun g t0 => B3 g ((Op.bin .leq) [(.int .i64 0), t0]) fun g t13 => JN (fun (k : Bool → AV → AV → AHeap → Prop) => B3 g (wantV true (some t13)) fun g w => IG3 g w (fun g => B3 g ((Op.bin .lss) [t0, (.int .i64 100)]) fun g t16 => k g t16 t0 H) (fun g => k g uu uu H)) (fun g t16_1 t15_1 H1 => B3 g (Op.pick [t13, t16_1, (.bool false)]) fun g t17 => IF3 g t17 (fun g => LK g (lk E 0) fun g t0_1 => C3 M g (.func N_internal_strconv_small) [t0_1] H1 fun g t19 H2 => GO3 g (SEQ3 (W M c (internal_strconv_FormatInt_p 14)) Q) .ret ((4, t19)::E) D H2) (fun g => GO3 g (SEQ3 (W M c (internal_strconv_FormatInt_p 14)) Q) .normal E D H1))) ∧
 (∀ Q E D H, W M c (internal_strconv_FormatInt_p 14) true Q E D H =
  A3 true T__97 (List.replicate 24 (.int .u8 0)) H fun g t5 H1 => LK g (lk E 0) fun g t0 => B3 g ((Op.wrap .u64) [t0]) fun g t21 => W M c (internal_strconv_FormatInt_p 18) g Q ((6, t21)::(5, t5)::E) D H1) ∧
 (∀ Q E D H, W M c (internal_strconv_FormatInt_p 18) true Q E D H =
  LK true (lk E 0) fun g t0 => B3 g ((Op.bin .lss) [t0, (.int .i64 0)]) fun g t23 => IF3 g t23 (fun g => LK g (lk E 6) fun g t6 => B3 g ((Op.un .neg) [t6]) fun g t25 => GO3 g (SEQ3 (W M c (internal_strconv_FormatInt_p 24)) Q) .normal ((6, t25)::E) D H) (fun g => GO3 g (SEQ3 (W M c (internal_strconv_FormatInt_p 24)) Q) .normal E D H)) ∧
 (∀ Q E D H, W M c (internal_strconv_FormatInt_p 24) true Q E D H =
  LK true (lk E 6) fun g t6 => C3 M g (.func N_internal_strconv_numDigits) [t6] H fun g t27 H1 => B3 g ((Op.bin .add) [(.int .i64 1), t27]) fun g t29 => LK g (lk E 5) fun g t5 => B3 g ((Op.sliceArr 24 1 [(some 0), (some 1), none]) [t5, (.int .i64 1), t29]) fun g t30 => LK g (lk E 6) fun g t6_1 => C3 M g (.func N_internal_strconv_formatBase10) [t30, t6_1] H1 fun g t32 H2 => W M c (internal_strconv_FormatInt_p 28) g Q ((7, t27)::E) D H2) ∧
 (∀ Q E D H, W M c (internal_strconv_FormatInt_p 28) true Q E D H =
  LK true (lk E 0) fun g t0 => B3 g ((Op.bin .lss) [t0, (.int .i64 0)]) fun g t34 => IF3 g t34 (fun g => LK g (lk E 5) fun g t5 => B3 g ((Op.indexArr 24 1) [t5, (.int .i64 0)]) fun g t35 => B32 g ((Op.store 1) [t35, (.int .u8 45)] H) fun g u H1 => LK g (lk E 7) fun g t7 => B3 g ((Op.bin .add) [(.int .i64 1), t7]) fun g t37 => LK g (lk E 5) fun g t5_1 => B3 g ((Op.sliceArr 24 1 [none, (some 0), none]) [t5_1, t37]) fun g t38 => B3 g (Op.strOfBytes [t38] H1) fun g t39 => GO3 g (SEQ3 (W M c (internal_strconv_FormatInt_p 38)) Q) .ret ((4, t39)::E) D H1) (fun g => GO3 g (SEQ3 (W M c (internal_strconv_FormatInt_p 38)) Q) .normal E D H)) ∧
 (∀ Q E D H, W M c (internal_strconv_FormatInt_p 38) true Q E D H =
  LK true (lk E 7) fun g t7 => B3 g ((Op.bin .add) [(.int .i64 1), t7]) fun g t41 => LK g (lk E 5) fun g t5 => B3 g ((Op.sliceArr 24 1 [(some 0), (some 1), none]) [t5, (.int .i64 1), t41]) fun g t42 => B3 g (Op.strOfBytes [t42] H) fun g t43 => GO3 g Q .ret ((4, t43)::E) D H) := by (repeat' apply And.intro) <;> (intro _ _ _ _; refine W_unf ?_; kernel_rfl)
theorem internal_strconv_FormatInt_f : (cProg Tryd.prog).func N_internal_strconv_FormatInt = some internal_strconv_FormatInt_F ∧ internal_strconv_FormatInt_F.results = [.tmp 4] := pair_rfl (by kernel_rfl)
theorem internal_strconv_FormatInt_at {M : Mac} [MK M] : M.func N_internal_strconv_FormatInt = some internal_strconv_FormatInt_F := MK.at (by decide) internal_strconv_FormatInt_f.1
theorem internal_strconv_FormatInt_s {M : Mac} [MK M] {a0 a1 : AV} {H : AHeap} {Q : AEnd → AHeap → Prop} (h : W M ⟨none, N_internal_strconv_FormatInt⟩ (internal_strconv_FormatInt_p 0) true (FIN3 M [.tmp 4] Q) [(0, a0), (1, a1)] [] H) : CALLE M N_internal_strconv_FormatInt [a0, a1] H Q :=
  calle internal_strconv_FormatInt_at (ks := internal_strconv_FormatInt_K) (by kernel_rfl) (by rw [internal_strconv_FormatInt_f.2]; exact h)
def internal_strconv_small_F : AFunc := funcAt Tryd.prog N_internal_strconv_small
def internal_strconv_small_K : Kp := ⟨[0, 2], false, [0, 2, 10]⟩
def internal_strconv_small_p (k : Nat) : Kp × ACode := (internal_strconv_small_K, part internal_strconv_small_F.body k)
theorem internal_strconv_small_w (M : Mac) (c : Ctx) : (∀ Q E D H, W M c (internal_strconv_small_p 0) true Q E D H =
  W M c (internal_strconv_small_p 2) true Q ((2, (.str []))::E) D H) ∧
 (∀ Q E D H, W M c (internal_strconv_small_p 2) true Q E D H =
  LK true (lk E 0) fun g t0 => B3 g ((Op.bin .lss) [t0, (.int .i64 10)]) fun g t4 => IF3 g t4 (fun g => LK g (lk E 0) fun g t0_1 => B3 g ((Op.bin .add) [t0_1, (.int .i64 1)]) fun g t7 => B3 g ((Op.sliceStr [(some 0), (some 1)]) [(.str C_CodeS_2), t0_1, t7]) fun g t8 => GO3 g (SEQ3 (W M c (internal_strconv_small_p 10)) Q) .ret ((2, t8)::E) D H) (fun g => GO3 g (SEQ3 (W M c (internal_strconv_small_p 10)) Q) .normal E D H)) ∧
 (∀ Q E D H, W M c (internal_strconv_small_p 10) true Q E D H =
  LK true (lk E 0) fun g t0 => B3 g ((Op.bin .mul) [t0, (.int .i64 2)]) fun g t10 => B3 g ((Op.bin .mul) [t0, (.int .i64 2)]) fun g t12 => B3 g ((Op.bin .add) [t12, (.int .i64 2)]) fun g t13 => B3 g ((Op.sliceStr [(some 0), (some 1)]) [(.str C_CodeS_3), t10, t13]) fun g t14 => GO3 g Q .ret ((2, t14)::E) D H) := by (repeat' apply And.intro) <;> (intro _ _ _ _; refine W_unf ?_; kernel_rfl)
theorem internal_strconv_small_f : (cProg Tryd.prog).func N_internal_strconv_small = some internal_strconv_small_F ∧ internal_strconv_small_F.results = [.tmp 2] := pair_rfl (by kernel_rfl)
theorem internal_strconv_small_at {M : Mac} [MK M] : M.func N_internal_strconv_small = some internal_strconv_small_F := MK.at (by decide) internal_strconv_small_f.1
theorem internal_strconv_small_s {M : Mac} [MK M] {a0 : AV} {H : AHeap} {Q : AEnd → AHeap → Prop} (h : W M ⟨none, N_internal_strconv_small⟩ (internal_strconv_small_p 0) true (FIN3 M [.tmp 2] Q) [(0, a0)] [] H) : CALLE M N_internal_strconv_small [a0] H Q :=
  calle internal_strconv_small_at (ks := internal_strconv_small_K) (by kernel_rfl) (by rw [internal_strconv_small_f.2]; exact h)
def internal_strconv_numDigits_F : AFunc := funcAt Tryd.prog N_internal_strconv_numDigits
def internal_strconv_numDigits_K : Kp := ⟨[0, 2, 3], false, [0]⟩
def internal_strconv_numDigits_p (k : Nat) : Kp × ACode := (internal_strconv_numDigits_K, part internal_strconv_numDigits_F.body k)
theorem internal_strconv_numDigits_w (M : Mac) (c : Ctx) : (∀ Q E D H, W M c (internal_strconv_numDigits_p 0) true Q E D H =
  LK true (lk E 0) fun g t0 => C3 M g (.func N_math_bits_Len64) [t0] H fun g t5 H1 => C3 M g (.func N_internal_strconv_log10Pow2) [t5] H1 fun g t6 H2 => LK g (lk E 0) fun g t0_1 => B3 g ((Op.indexArr 20 1) [(.ptr G_strconv_uint64pow10 0), t6]) fun g t10 => B3 g (Op.load1 [t10] H2) fun g t11 => B3 g ((Op.bin .geq) [t0_1, t11]) fun g t12 => C3 M g (.func N_internal_strconv_bool2_int) [t12] H2 fun g t13 H3 => B3 g ((Op.bin .add) [t6, t13]) fun g t14 => GO3 g Q .ret ((2, t14)::(3, t6)::(2, (.int .i64 0))::E) D H3) := by intro _ _ _ _; refine W_unf ?_; kernel_rfl
theorem internal_strconv_numDigits_f : (cProg Tryd.prog).func N_internal_strconv_numDigits = some internal_strconv_numDigits_F ∧ internal_strconv_numDigits_F.results = [.tmp 2] := pair_rfl (by kernel_rfl)
theorem internal_strconv_numDigits_at {M : Mac} [MK M] : M.func N_internal_strconv_numDigits = some internal_strconv_numDigits_F := MK.at (by decide) internal_strconv_numDigits_f.1
theorem internal_strconv_numDigits_s {M : Mac} [MK M] {a0 : AV} {H : AHeap} {Q : AEnd → AHeap → Prop} (h : W M ⟨none, N_internal_strconv_numDigits⟩ (internal_strconv_numDigits_p 0) true (FIN3 M [.tmp 2] Q) [(0, a0)] [] H) : CALLE M N_internal_strconv_numDigits [a0] H Q :=
  calle internal_strconv_numDigits_at (ks := internal_strconv_numDigits_K) (by kernel_rfl) (by rw [internal_strconv_numDigits_f.2]; exact h)
def internal_strconv_formatBase10_F : AFunc := funcAt Tryd.prog N_internal_strconv_formatBase10
def internal_strconv_formatBase10_K : Kp := ⟨[0, 1, 4, 5, 6, 7, 8, 9, 10, 11, 12, 13, 14, 15, 16], false, [0, 2, 5, 11, 16, 20, 24, 31, 33, 39, 43, 49, 61]⟩
def internal_strconv_formatBase10_p (k : Nat) : Kp × ACode := (internal_strconv_formatBase10_K, part internal_strconv_formatBase10_F.body k)
theorem internal_strconv_formatBase10_w (M : Mac) (c : Ctx) : (∀ Q E D H, W M c (internal_strconv_formatBase10_p 0) true Q E D H =
  LK true (lk E 0) fun g t0 => B3 g (Op.lenSl [t0]) fun g t18 => W M c (internal_strconv_formatBase10_p 2) g Q ((4, t18)::E) D H) ∧
 (∀ Q E D H, W M c (internal_strconv_formatBase10_p 2) true Q E D H =
  LOOP3 (W M c (internal_strconv_formatBase10_p 5)) (BLK3 0 (SEQ3 (W M c (internal_strconv_formatBase10_p 31)) Q)) E D H) ∧
 (∀ Q E D H, W M c (internal_strconv_formatBase10_p 31) true Q E D H =
  LK true (lk E 1) fun g t1 => B3 g ((Op.wrap .u32) [t1]) fun g t97 => W M c (internal_strconv_formatBase10_p 33) g Q ((12, t97)::E) D H) ∧
 (∀ Q E D H, W M c (internal_strconv_formatBase10_p 5) true Q E D H =
  LK true (lk E 4) fun g t4 => B3 g ((Op.bin .geq) [t4, (.int .i64 8)]) fun g t20 => IF3 g t20 (fun g => GO3 g (SEQ3 (W M c (internal_strconv_formatBase10_p 11)) Q) .normal E D H) (fun g => GO3 g (SEQ3 (W M c (internal_strconv_formatBase10_p 11)) Q) (.exit 0) E D H)) ∧
 (∀ Q E D H, W M c (internal_strconv_formatBase10_p 33) true Q E D H =
  LK true (lk E 4) fun g t4 => B3 g ((Op.bin .geq) [t4, (.int .i64 4)]) fun g t99 => IF3 g t99 (fun g => LK g (lk E 12) fun g t12 => B3 g ((Op.bin .rem) [t12, (.int .u32 10000)]) fun g t101 => W M c (internal_strconv_formatBase10_p 39) g (SEQ3 (W M c (internal_strconv_formatBase10_p 49)) Q) ((13, t101)::E) D H) (fun g => GO3 g (SEQ3 (W M c (internal_strconv_formatBase10_p 49)) Q) .normal E D H)) ∧
 (∀ Q E D H, W M c (internal_strconv_formatBase10_p 11) true Q E D H =
  LK true (lk E 1) fun g t1 => B3 g ((Op.bin .rem) [t1, (.int .u64 100000000)]) fun g t22 => B3 g ((Op.wrap .u32) [t22]) fun g t23 => LK g (lk E 1) fun g t1_1 => B3 g ((Op.bin .quo) [t1_1, (.int .u64 100000000)]) fun g t25 => W M c (internal_strconv_formatBase10_p 16) g (BLK3 1 Q) ((1, t25)::(5, t23)::E) D H) ∧
 (∀ Q E D H, W M c (internal_strconv_formatBase10_p 49) true Q E D H =
  LK true (lk E 4) fun g t4 => B3 g ((Op.bin .geq) [t4, (.int .i64 2)]) fun g t139 => IF3 g t139 (fun g => LK g (lk E 12) fun g t12 => B3 g ((Op.bin .rem) [t12, (.int .u32 100)]) fun g t141 => B3 g ((Op.bin .mul) [t141, (.int .u32 2)]) fun g t142 => LK g (lk E 12) fun g t12_1 => B3 g ((Op.bin .quo) [t12_1, (.int .u32 100)]) fun g t144 => LK g (lk E 0) fun g t0 => LK g (lk E 4) fun g t4_1 => B3 g ((Op.bin .sub) [t4_1, (.int .i64 1)]) fun g t147 => B3 g ((Op.bin .sub) [t4_1, (.int .i64 2)]) fun g t150 => B3 g ((Op.bin .add) [t142, (.int .u32 1)]) fun g t152 => B3 g (Op.indexStr [(.str C_CodeS_3), t152]) fun g t153 => B3 g (Op.indexStr [(.str C_CodeS_3), t142]) fun g t155 => B3 g ((Op.indexSl 1) [t0, t147]) fun g t156 => B32 g ((Op.store 1) [t156, t153] H) fun g u H1 => B3 g ((Op.indexSl 1) [t0, t150]) fun g t157 => B32 g ((Op.store 1) [t157, t155] H1) fun g u_1 H2 => LK g (lk E 4) fun g t4_2 => B3 g ((Op.bin .sub) [t4_2, (.int .i64 2)]) fun g t159 => GO3 g (SEQ3 (W M c (internal_strconv_formatBase10_p 61)) Q) .normal ((4, t159)::(12, t144)::(16, t142)::E) D H2) (fun g => GO3 g (SEQ3 (W M c (internal_strconv_formatBase10_p 61)) Q) .normal E D H)) ∧
 (∀ Q E D H, W M c (internal_strconv_formatBase10_p 39) true Q E D H =
  LK true (lk E 12) fun g t12 => B3 g ((Op.bin .quo) [t12, (.int .u32 10000)]) fun g t103 => LK g (lk E 13) fun g t13 => B3 g ((Op.bin .quo) [t13, (.int .u32 100)]) fun g t105 => B3 g ((Op.bin .mul) [t105, (.int .u32 2)]) fun g t106 => B3 g ((Op.bin .rem) [t13, (.int .u32 100)]) fun g t108 => B3 g ((Op.bin .mul) [t108, (.int .u32 2)]) fun g t109 => W M c (internal_strconv_formatBase10_p 43) g Q ((15, t109)::(14, t106)::(12, t103)::E) D H) ∧
 (∀ Q E D H, W M c (internal_strconv_formatBase10_p 16) true Q E D H =
  LK true (lk E 5) fun g t5 => B3 g ((Op.bin .quo) [t5, (.int .u32 10000)]) fun g t27 => B3 g ((Op.bin .rem) [t5, (.int .u32 10000)]) fun g t29 => B3 g ((Op.bin .quo) [t29, (.int .u32 100)]) fun g t31 => B3 g ((Op.bin .mul) [t31, (.int .u32 2)]) fun g t32 => B3 g ((Op.bin .rem) [t29, (.int .u32 100)]) fun g t34 => B3 g ((Op.bin .mul) [t34, (.int .u32 2)]) fun g t35 => W M c (internal_strconv_formatBase10_p 20) g Q ((9, t35)::(8, t32)::(7, t29)::(6, t27)::E) D H) ∧
 (∀ Q E D H, W M c (internal_strconv_formatBase10_p 61) true Q E D H =
  LK true (lk E 4) fun g t4 => B3 g ((Op.bin .gtr) [t4, (.int .i64 0)]) fun g t161 => IF3 g t161 (fun g => LK g (lk E 0) fun g t0 => LK g (lk E 12) fun g t12 => B3 g ((Op.bin .add) [(.int .u32 48), t12]) fun g t164 => B3 g ((Op.wrap .u8) [t164]) fun g t165 => B3 g ((Op.indexSl 1) [t0, (.int .i64 0)]) fun g t166 => B32 g ((Op.store 1) [t166, t165] H) fun g u H1 => GO3 g Q .normal E D H1) (fun g => GO3 g Q .normal E D H)) ∧
 (∀ Q E D H, W M c (internal_strconv_formatBase10_p 43) true Q E D H =
  LK true (lk E 0) fun g t0 => LK g (lk E 4) fun g t4 => B3 g ((Op.bin .sub) [t4, (.int .i64 1)]) fun g t112 => B3 g ((Op.bin .sub) [t4, (.int .i64 2)]) fun g t115 => LK g (lk E 15) fun g t15 => B3 g ((Op.bin .add) [t15, (.int .u32 1)]) fun g t117 => B3 g (Op.indexStr [(.str C_CodeS_3), t117]) fun g t118 => B3 g (Op.indexStr [(.str C_CodeS_3), t15]) fun g t120 => B3 g ((Op.indexSl 1) [t0, t112]) fun g t121 => B32 g ((Op.store 1) [t121, t118] H) fun g u H1 => B3 g ((Op.indexSl 1) [t0, t115]) fun g t122 => B32 g ((Op.store 1) [t122, t120] H1) fun g u_1 H2 => LK g (lk E 0) fun g t0_1 => LK g (lk E 4) fun g t4_1 => B3 g ((Op.bin .sub) [t4_1, (.int .i64 3)]) fun g t125 => B3 g ((Op.bin .sub) [t4_1, (.int .i64 4)]) fun g t128 => LK g (lk E 14) fun g t14 => B3 g ((Op.bin .add) [t14, (.int .u32 1)]) fun g t130 => B3 g (Op.indexStr [(.str C_CodeS_3), t130]) fun g t131 => B3 g (Op.indexStr [(.str C_CodeS_3), t14]) fun g t133 => B3 g ((Op.indexSl 1) [t0_1, t125]) fun g t134 => B32 g ((Op.store 1) [t134, t131] H2) fun g u_2 H3 => B3 g ((Op.indexSl 1) [t0_1, t128]) fun g t135 => B32 g ((Op.store 1) [t135, t133] H3) fun g u_3 H4 => LK g (lk E 4) fun g t4_2 => B3 g ((Op.bin .sub) [t4_2, (.int .i64 4)]) fun g t137 => GO3 g Q .normal ((4, t137)::E) D H4) ∧
 (∀ Q E D H, W M c (internal_strconv_formatBase10_p 20) true Q E D H =
  LK true (lk E 6) fun g t6 => B3 g ((Op.bin .quo) [t6, (.int .u32 100)]) fun g t37 => B3 g ((Op.bin .mul) [t37, (.int .u32 2)]) fun g t38 => B3 g ((Op.bin .rem) [t6, (.int .u32 100)]) fun g t40 => B3 g ((Op.bin .mul) [t40, (.int .u32 2)]) fun g t41 => LK g (lk E 0) fun g t0 => LK g (lk E 4) fun g t4 => B3 g ((Op.bin .sub) [t4, (.int .i64 1)]) fun g t44 => B3 g ((Op.bin .sub) [t4, (.int .i64 2)]) fun g t47 => LK g (lk E 9) fun g t9 => B3 g ((Op.bin .add) [t9, (.int .u32 1)]) fun g t49 => B3 g (Op.indexStr [(.str C_CodeS_3), t49]) fun g t50 => B3 g (Op.indexStr [(.str C_CodeS_3), t9]) fun g t52 => B3 g ((Op.indexSl 1) [t0, t44]) fun g t53 => B32 g ((Op.store 1) [t53, t50] H) fun g u H1 => B3 g ((Op.indexSl 1) [t0, t47]) fun g t54 => B32 g ((Op.store 1) [t54, t52] H1) fun g u_1 H2 => W M c (internal_strconv_formatBase10_p 24) g Q ((11, t41)::(10, t38)::E) D H2) ∧
 (∀ Q E D H, W M c (internal_strconv_formatBase10_p 24) true Q E D H =
  LK true (lk E 0) fun g t0 => LK g (lk E 4) fun g t4 => B3 g ((Op.bin .sub) [t4, (.int .i64 3)]) fun g t57 => B3 g ((Op.bin .sub) [t4, (.int .i64 4)]) fun g t60 => LK g (lk E 8) fun g t8 => B3 g ((Op.bin .add) [t8, (.int .u32 1)]) fun g t62 => B3 g (Op.indexStr [(.str C_CodeS_3), t62]) fun g t63 => B3 g (Op.indexStr [(.str C_CodeS_3), t8]) fun g t65 => B3 g ((Op.indexSl 1) [t0, t57]) fun g t66 => B32 g ((Op.store 1) [t66, t63] H) fun g u H1 => B3 g ((Op.indexSl 1) [t0, t60]) fun g t67 => B32 g ((Op.store 1) [t67, t65] H1) fun g u_1 H2 => LK g (lk E 0) fun g t0_1 => LK g (lk E 4) fun g t4_1 => B3 g ((Op.bin .sub) [t4_1, (.int .i64 5)]) fun g t70 => B3 g ((Op.bin .sub) [t4_1, (.int .i64 6)]) fun g t73 => LK g (lk E 11) fun g t11 => B3 g ((Op.bin .add) [t11, (.int .u32 1)]) fun g t75 => B3 g (Op.indexStr [(.str C_CodeS_3), t75]) fun g t76 => B3 g (Op.indexStr [(.str C_CodeS_3), t11]) fun g t78 => B3 g ((Op.indexSl 1) [t0_1, t70]) fun g t79 => B32 g ((Op.store 1) [t79, t76] H2) fun g u_2 H3 => B3 g ((Op.indexSl 1) [t0_1, t73]) fun g t80 => B32 g ((Op.store 1) [t80, t78] H3) fun g u_3 H4 => LK g (lk E 0) fun g t0_2 => LK g (lk E 4) fun g t4_2 => B3 g ((Op.bin .sub) [t4_2, (.int .i64 7)]) fun g t83 => B3 g ((Op.bin .sub) [t4_2, (.int .i64 8)]) fun g t86 => LK g (lk E 10) fun g t10 => B3 g ((Op.bin .add) [t10, (.int .u32 1)]) fun g t88 => B3 g (Op.indexStr [(.str C_CodeS_3), t88]) fun g t89 => B3 g (Op.indexStr [(.str C_CodeS_3), t10]) fun g t91 => B3 g ((Op.indexSl 1) [t0_2, t83]) fun g t92 => B32 g ((Op.store 1) [t92, t89] H4) fun g u_4 H5 => B3 g ((Op.indexSl 1) [t0_2, t86]) fun g t93 => B32 g ((Op.store 1) [t93, t91] H5) fun g u_5 H6 => LK g (lk E 4) fun g t4_3 => B3 g ((Op.bin .sub) [t4_3, (.int .i64 8)]) fun g t95 => GO3 g Q .normal ((4, t95)::E) D H6) := by (repeat' apply And.intro) <;> (intro _ _ _ _; refine W_unf ?_; kernel_rfl)
theorem internal_strconv_formatBase10_f : (cProg Tryd.prog).func N_internal_strconv_formatBase10 = some internal_strconv_formatBase10_F ∧ internal_strconv_formatBase10_F.results = [] := pair_rfl (by kernel_rfl)
theorem internal_strconv_formatBase10_at {M : Mac} [MK M] : M.func N_internal_strconv_formatBase10 = some internal_strconv_formatBase10_F := MK.at (by decide) internal_strconv_formatBase10_f.1
theorem internal_strconv_formatBase10_s {M : Mac} [MK M] {a0 a1 : AV} {H : AHeap} {Q : AEnd → AHeap → Prop} (h : W M ⟨none, N_internal_strconv_formatBase10⟩ (internal_strconv_formatBase10_p 0) true (FIN3 M [] Q) [(0, a0), (1, a1)] [] H) : CALLE M N_internal_strconv_formatBase10 [a0, a1] H Q :=
  calle internal_strconv_formatBase10_at (ks := internal_strconv_formatBase10_K) (by kernel_rfl) (by rw [internal_strconv_formatBase10_f.2]; exact h)
def internal_strconv_log10Pow2_F : AFunc := funcAt Tryd.prog N_internal_strconv_log10Pow2
def internal_strconv_log10Pow2_K : Kp := ⟨[0, 2], false, [0]⟩
def internal_strconv_log10Pow2_p (k : Nat) : Kp × ACode := (internal_strconv_log10Pow2_K, part internal_strconv_log10Pow2_F.body k)
theorem internal_strconv_log10Pow2_w (M : Mac) (c : Ctx) : (∀ Q E D H, W M c (internal_strconv_log10Pow2_p 0) true Q E D H =
  LK true (lk E 0) fun g t0 => B3 g ((Op.bin .mul) [t0, (.int .i64 78913)]) fun g t4 => B3 g ((Op.bin .shr) [t4, (.int .u64 18)]) fun g t5 => GO3 g Q .ret ((2, t5)::(2, (.int .i64 0))::E) D H) := by intro _ _ _ _; refine W_unf ?_; kernel_rfl
theorem internal_strconv_log10Pow2_f : (cProg Tryd.prog).func N_internal_strconv_log10Pow2 = some internal_strconv_log10Pow2_F ∧ internal_strconv_log10Pow2_F.results = [.tmp 2] := pair_rfl (by kernel_rfl)
theorem internal_strconv_log10Pow2_at {M : Mac} [MK M] : M.func N_internal_strconv_log10Pow2 = some internal_strconv_log10Pow2_F := MK.at (by decide) internal_strconv_log10Pow2_f.1
theorem internal_strconv_log10Pow2_s {M : Mac} [MK M] {a0 : AV} {H : AHeap} {Q : AEnd → AHeap → Prop} (h : W M ⟨none, N_internal_strconv_log10Pow2⟩ (internal_strconv_log10Pow2_p 0) true (FIN3 M [.tmp 2] Q) [(0, a0)] [] H) : CALLE M N_internal_strconv_log10Pow2 [a0] H Q :=
  calle internal_strconv_log10Pow2_at (ks := internal_strconv_log10Pow2_K) (by kernel_rfl) (by rw [internal_strconv_log10Pow2_f.2]; exact h)
def math_bits_Len64_F : AFunc := funcAt Tryd.prog N_math_bits_Len64
def math_bits_Len64_K : Kp := ⟨[0, 2], false, [0, 2, 10, 18, 26]⟩
def math_bits_Len64_p (k : Nat) : Kp × ACode := (math_bits_Len64_K, part math_bits_Len64_F.body k)
theorem math_bits_Len64_w (M : Mac) (c : Ctx) : (∀ Q E D H, W M c (math_bits_Len64_p 0) true Q E D H =
  W M c (math_bits_Len64_p 2) true Q ((2, (.int .i64 0))::E) D H) ∧
 (∀ Q E D H, W M c (math_bits_Len64_p 2) true Q E D H =
  LK true (lk E 0) fun g t0 => B3 g ((Op.bin .geq) [t0, (.int .u64 4294967296)]) fun g t4 => IF3 g t4 (fun g => LK g (lk E 0) fun g t0_1 => B3 g ((Op.bin .shr) [t0_1, (.int .u64 32)]) fun g t6 => GO3 g (SEQ3 (W M c (math_bits_Len64_p 10)) Q) .normal ((2, (.int .i64 32))::(0, t6)::E) D H) (fun g => GO3 g (SEQ3 (W M c (math_bits_Len64_p 10)) Q) .normal E D H)) ∧
 (∀ Q E D H, W M c (math_bits_Len64_p 10) true Q E D H =
  LK true (lk E 0) fun g t0 => B3 g ((Op.bin .geq) [t0, (.int .u64 65536)]) fun g t8 => IF3 g t8 (fun g => LK g (lk E 0) fun g t0_1 => B3 g ((Op.bin .shr) [t0_1, (.int .u64 16)]) fun g t10 => LK g (lk E 2) fun g t2 => B3 g ((Op.bin .add) [t2, (.int .i64 16)]) fun g t12 => GO3 g (SEQ3 (W M c (math_bits_Len64_p 18)) Q) .normal ((2, t12)::(0, t10)::E) D H) (fun g => GO3 g (SEQ3 (W M c (math_bits_Len64_p 18)) Q) .normal E D H)) ∧
 (∀ Q E D H, W M c (math_bits_Len64_p 18) true Q E D H =
  LK true (lk E 0) fun g t0 => B3 g ((Op.bin .geq) [t0, (.int .u64 256)]) fun g t14 => IF3 g t14 (fun g => LK g (lk E 0) fun g t0_1 => B3 g ((Op.bin .shr) [t0_1, (.int .u64 8)]) fun g t16 => LK g (lk E 2) fun g t2 => B3 g ((Op.bin .add) [t2, (.int .i64 8)]) fun g t18 => GO3 g (SEQ3 (W M c (math_bits_Len64_p 26)) Q) .normal ((2, t18)::(0, t16)::E) D H) (fun g => GO3 g (SEQ3 (W M c (math_bits_Len64_p 26)) Q) .normal E D H)) ∧
 (∀ Q E D H, W M c (math_bits_Len64_p 26) true Q E D H =
  LK true (lk E 2) fun g t2 => LK g (lk E 0) fun g t0 => B3 g ((Op.wrap .u8) [t0]) fun g t21 => B3 g (Op.indexStr [(.str C_CodeS_4), t21]) fun g t22 => B3 g ((Op.wrap .i64) [t22]) fun g t23 => B3 g ((Op.bin .add) [t2, t23]) fun g t24 => GO3 g Q .ret ((2, t24)::E) D H) := by (repeat' apply And.intro) <;> (intro _ _ _ _; refine W_unf ?_; kernel_rfl)
theorem math_bits_Len64_f : (cProg Tryd.prog).func N_math_bits_Len64 = some math_bits_Len64_F ∧ math_bits_Len64_F.results = [.tmp 2] := pair_rfl (by kernel_rfl)
theorem math_bits_Len64_at {M : Mac} [MK M] : M.func N_math_bits_Len64 = some math_bits_Len64_F := MK.at (by decide) math_bits_Len64_f.1
theorem math_bits_Len64_s {M : Mac} [MK M] {a0 : AV} {H : AHeap} {Q : AEnd → AHeap → Prop} (h : W M ⟨none, N_math_bits_Len64⟩ (math_bits_Len64_p 0) true (FIN3 M [.tmp 2] Q) [(0, a0)] [] H) : CALLE M N_math_bits_Len64 [a0] H Q :=
  calle math_bits_Len64_at (ks := math_bits_Len64_K) (by kernel_rfl) (by rw [math_bits_Len64_f.2]; exact h)
def internal_strconv_bool2_int_F : AFunc := funcAt Tryd.prog N_internal_strconv_bool2_int
def internal_strconv_bool2_int_K : Kp := ⟨[0, 2], false, [0, 2, 10]⟩
def internal_strconv_bool2_int_p (k : Nat) : Kp × ACode := (internal_strconv_bool2_int_K, part internal_strconv_bool2_int_F.body k)
theorem internal_strconv_bool2_int_w (M : Mac) (c : Ctx) : (∀ Q E D H, W M c (internal_strconv_bool2_int_p 0) true Q E D H =
  W M c (internal_strconv_bool2_int_p 2) true Q ((2, (.int .i64 0))::E) D H) ∧
 (∀ Q E D H, W M c (internal_strconv_bool2_int_p 2) true Q E D H =
  LK true (lk E 0) fun g t0 => IF3 g t0 (fun g => GO3 g (SEQ3 (W M c (internal_strconv_bool2_int_p 10)) Q) .ret ((2, (.int .i64 1))::E) D H) (fun g => GO3 g (SEQ3 (W M c (internal_strconv_bool2_int_p 10)) Q) .normal E D H)) ∧
 (∀ Q E D H, W M c (internal_strconv_bool2_int_p 10) true Q E D H =
  GO3 true Q .ret ((2, (.int .i64 0))::E) D H) := by (repeat' apply And.intro) <;> (intro _ _ _ _; refine W_unf ?_; kernel_rfl)
theorem internal_strconv_bool2_int_f : (cProg Tryd.prog).func N_internal_strconv_bool2_int = some internal_strconv_bool2_int_F ∧ internal_strconv_bool2_int_F.results = [.tmp 2] := pair_rfl (by kernel_rfl)
theorem internal_strconv_bool2_int_at {M : Mac} [MK M] : M.func N_internal_strconv_bool2_int = some internal_strconv_bool2_int_F := MK.at (by decide) internal_strconv_bool2_int_f.1
theorem internal_strconv_bool2_int_s {M : Mac} [MK M] {a0 : AV} {H : AHeap} {Q : AEnd → AHeap → Prop} (h : W M ⟨none, N_internal_strconv_bool2_int⟩ (internal_strconv_bool2_int_p 0) true (FIN3 M [.tmp 2] Q) [(0, a0)] [] H) : CALLE M N_internal_strconv_bool2_int [a0] H Q :=
  calle internal_strconv_bool2_int_at (ks := internal_strconv_bool2_int_K) (by kernel_rfl) (by rw [internal_strconv_bool2_int_f.2]; exact h)
end
end Go.Am
namespace Go.Am
set_option linter.unusedVariables false
set_option maxRecDepth 100000
abbrev N_trace_Encode : Nat := 10
abbrev N_trace_Encode_1 : Nat := 24
abbrev N_trace_Text : Nat := 12
abbrev N_trace_Text_1 : Nat := 32
abbrev N_trace_all_byte : Nat := 23
abbrev N_trace_all_string : Nat := 31
abbrev N_trace_field : Nat := 50
abbrev N_trace_fine : Nat := 49
abbrev N_trace_fresh : Nat := 60
abbrev N_trace_get : Nat := 26
abbrev N_trace_line : Nat := 33
abbrev N_trace_may : Nat := 51
abbrev N_trace_put : Nat := 25
abbrev N_trace_set : Nat := 62
abbrev T_api_Event : Nat := 37
abbrev G_trace_kinds : Nat := 1
abbrev G_trace_named : Nat := 0
noncomputable section
open Go.Proofs Go.Proofs.YtkfheegmlgfdoaaDoor
def trace_Encode_F : AFunc := funcAt Tryd.prog N_trace_Encode
def trace_Encode_K : Kp := ⟨[0, 2, 3], false, [0]⟩
def trace_Encode_p (k : Nat) : Kp × ACode := (trace_Encode_K, part trace_Encode_F.body k)
theorem trace_Encode_w (M : Mac) (c : Ctx) : (∀ Q E D H, W M c (trace_Encode_p 0) true Q E D H =
  LK true (lk E 0) fun g t0 => C3 M g (.func N_trace_all_byte) [t0, (.fn (.func N_trace_Encode_1) [] [])] H fun g t5 H1 => B3 g ((Op.extract 0) [t5]) fun g t6 => B3 g ((Op.extract 1) [t5]) fun g t7 => GO3 g Q .ret ((3, t7)::(2, t6)::(3, (.int .i64 0))::(2, .nils)::E) D H1) := by intro _ _ _ _; refine W_unf ?_; kernel_rfl
theorem trace_Encode_f : (cProg Tryd.prog).func N_trace_Encode = some trace_Encode_F ∧ trace_Encode_F.results = [.tmp 2, .tmp 3] := pair_rfl (by kernel_rfl)
theorem trace_Encode_at {M : Mac} [MK M] : M.func N_trace_Encode = some trace_Encode_F := MK.at (by decide) trace_Encode_f.1
theorem trace_Encode_s {M : Mac} [MK M] {a0 : AV} {H : AHeap} {Q : AEnd → AHeap → Prop} (h : W M ⟨none, N_trace_Encode⟩ (trace_Encode_p 0) true (FIN3 M [.tmp 2, .tmp 3] Q) [(0, a0)] [] H) : CALLE M N_trace_Encode [a0] H Q :=
  calle trace_Encode_at (ks := trace_Encode_K) (by kernel_rfl) (by rw [trace_Encode_f.2]; exact h)
def trace_Text_F : AFunc := funcAt Tryd.prog N_trace_Text
def trace_Text_K : Kp := ⟨[0, 2, 3, 4, 5], false, [0]⟩
def trace_Text_p (k : Nat) : Kp × ACode := (trace_Text_K, part trace_Text_F.body k)
theorem trace_Text_w (M : Mac) (c : Ctx) : (∀ Q E D H, W M c (trace_Text_p 0) true Q E D H =
  LK true (lk E 0) fun g t0 => C3 M g (.func N_trace_all_string) [t0, (.fn (.func N_trace_Text_1) [] [])] H fun g t8 H1 => B3 g ((Op.extract 0) [t8]) fun g t9 => B3 g ((Op.extract 1) [t8]) fun g t10 => C3 M g (.func N_strings_Join) [t9, (.str [])] H1 fun g t12 H2 => GO3 g Q .ret ((3, t10)::(2, t12)::(5, t10)::(4, t9)::(3, (.int .i64 0))::(2, (.str []))::E) D H2) := by intro _ _ _ _; refine W_unf ?_; kernel_rfl
theorem trace_Text_f : (cProg Tryd.prog).func N_trace_Text = some trace_Text_F ∧ trace_Text_F.results = [.tmp 2, .tmp 3] := pair_rfl (by kernel_rfl)
theorem trace_Text_at {M : Mac} [MK M] : M.func N_trace_Text = some trace_Text_F := MK.at (by decide) trace_Text_f.1
theorem trace_Text_s {M : Mac} [MK M] {a0 : AV} {H : AHeap} {Q : AEnd → AHeap → Prop} (h : W M ⟨none, N_trace_Text⟩ (trace_Text_p 0) true (FIN3 M [.tmp 2, .tmp 3] Q) [(0, a0)] [] H) : CALLE M N_trace_Text [a0] H Q :=
  calle trace_Text_at (ks := trace_Text_K) (by kernel_rfl) (by rw [trace_Text_f.2]; exact h)
def trace_all_byte_F : AFunc := funcAt Tryd.prog N_trace_all_byte
def trace_all_byte_K : Kp := ⟨[0, 1, 4, 5, 6, 8, 9, 10, 11], false, [0, 4, 9, 15, 19, 27, 28, 29]⟩
def trace_all_byte_p (k : Nat) : Kp × ACode := (trace_all_byte_K, part trace_all_byte_F.body k)
theorem trace_all_byte_w (M : Mac) (c : Ctx) : (∀ Q E D H, W M c (trace_all_byte_p 0) true Q E D H =
  W M c (trace_all_byte_p 4) true Q ((6, .nils)::(5, (.int .i64 0))::(4, .nils)::E) D H) ∧
 (∀ Q E D H, W M c (trace_all_byte_p 4) true Q E D H =
  LK true (lk E 0) fun g t0 => B3 g (Op.lenSl [t0]) fun g t10 => LOOP3 (W M c (trace_all_byte_p 9)) (BLK3 0 (SEQ3 (W M c (trace_all_byte_p 29)) Q)) ((11, (.int .i64 0))::(10, t10)::(9, t0)::E) D H) ∧
 (∀ Q E D H, W M c (trace_all_byte_p 29) true Q E D H =
  LK true (lk E 6) fun g t6 => GO3 g Q .ret ((5, (.int .i64 0))::(4, t6)::E) D H) ∧
 (∀ Q E D H, W M c (trace_all_byte_p 9) true Q E D H =
  LK true (lk E 11) fun g t11 => LK g (lk E 10) fun g t10 => B3 g ((Op.bin .lss) [t11, t10]) fun g t12 => IF3 g t12 (fun g => GO3 g (SEQ3 (W M c (trace_all_byte_p 15)) Q) .normal E D H) (fun g => GO3 g (SEQ3 (W M c (trace_all_byte_p 15)) Q) (.exit 0) E D H)) ∧
 (∀ Q E D H, W M c (trace_all_byte_p 15) true Q E D H =
  LK true (lk E 9) fun g t9 => LK g (lk E 11) fun g t11 => B3 g ((Op.indexSl 9) [t9, t11]) fun g t13 => B3 g ((Op.loadN 9) [t13] H) fun g t14 => A3 g T_api_Event [(.int .i64 0), (.int .i64 0), (.int .i64 0), (.int .i64 0), (.int .i64 0), (.int .i64 0), (.int .i64 0), (.int .u64 0), (.int .i64 0)] H fun g t8 H1 => B32 g ((Op.store 9) [t8, t14] H1) fun g u H2 => W M c (trace_all_byte_p 19) g (BLK3 1 (SEQ3 (W M c (trace_all_byte_p 28)) Q)) ((8, t8)::E) D H2) ∧
 (∀ Q E D H, W M c (trace_all_byte_p 28) true Q E D H =
  LK true (lk E 11) fun g t11 => B3 g ((Op.bin .add) [t11, (.int .i64 1)]) fun g t22 => GO3 g Q .normal ((11, t22)::E) D H) ∧
 (∀ Q E D H, W M c (trace_all_byte_p 19) true Q E D H =
  LK true (lk E 8) fun g t8 => B3 g ((Op.loadN 9) [t8] H) fun g t15 => C3 M g (.func N_trace_fine) [t15] H fun g t16 H1 => B3 g ((Op.un .not) [t16]) fun g t17 => IF3 g t17 (fun g => GO3 g (SEQ3 (W M c (trace_all_byte_p 27)) Q) .ret ((5, (.int .i64 2))::(4, .nils)::E) D H1) (fun g => GO3 g (SEQ3 (W M c (trace_all_byte_p 27)) Q) .normal E D H1)) ∧
 (∀ Q E D H, W M c (trace_all_byte_p 27) true Q E D H =
  LK true (lk E 1) fun g t1 => LK g (lk E 6) fun g t6 => LK g (lk E 8) fun g t8 => B3 g ((Op.loadN 9) [t8] H) fun g t20 => V3 g [t1, t6, t20] fun g f vs => C3 M g f vs H fun g t21 H1 => GO3 g Q .normal ((6, t21)::E) D H1) := by (repeat' apply And.intro) <;> (intro _ _ _ _; refine W_unf ?_; kernel_rfl)
theorem trace_all_byte_f : (cProg Tryd.prog).func N_trace_all_byte = some trace_all_byte_F ∧ trace_all_byte_F.results = [.tmp 4, .tmp 5] := pair_rfl (by kernel_rfl)
theorem trace_all_byte_at {M : Mac} [MK M] : M.func N_trace_all_byte = some trace_all_byte_F := MK.at (by decide) trace_all_byte_f.1
theorem trace_all_byte_s {M : Mac} [MK M] {a0 a1 : AV} {H : AHeap} {Q : AEnd → AHeap → Prop} (h : W M ⟨none, N_trace_all_byte⟩ (trace_all_byte_p 0) true (FIN3 M [.tmp 4, .tmp 5] Q) [(0, a0), (1, a1)] [] H) : CALLE M N_trace_all_byte [a0, a1] H Q :=
  calle trace_all_byte_at (ks := trace_all_byte_K) (by kernel_rfl) (by rw [trace_all_byte_f.2]; exact h)
def trace_Encode_1_F : AFunc := funcAt Tryd.prog N_trace_Encode_1
def trace_Encode_1_K : Kp := ⟨[0, 1, 3, 4, 6, 7, 28, 29], false, [0, 4, 6, 11, 17, 23]⟩
def trace_Encode_1_p (k : Nat) : Kp × ACode := (trace_Encode_1_K, part trace_Encode_1_F.body k)
theorem trace_Encode_1_w (M : Mac) (c : Ctx) : (∀ Q E D H, W M c (trace_Encode_1_p 0) true Q E D H =
  LK true (lk E 1) fun g t1 => A3 g T_api_Event (AV.cells t1) H fun g t3 H1 => LK g (lk E 0) fun g t0 => B3 g ((Op.fieldAddr 0) [t3]) fun g t10 => B3 g (Op.load1 [t10] H1) fun g t11 => B3 g ((Op.wrap .u8) [t11]) fun g t12 => B32 g ((Op.buildSlice T_uint8 1 [(.int .u8 0)] [(0, 1)]) [t12]) fun g o2 k2 => B32 g ((Op.append T_uint8 1 1) [t0, (k2 H1.next)] (H1.alloc o2)) fun g t14 H3 => W M c (trace_Encode_1_p 4) g Q ((0, t14)::(4, .nils)::(3, t3)::E) D H3) ∧
 (∀ Q E D H, W M c (trace_Encode_1_p 4) true Q E D H =
  LK true (lk E 0) fun g t0 => LK g (lk E 3) fun g t3 => B3 g ((Op.fieldAddr 2) [t3]) fun g t16 => B3 g (Op.load1 [t16] H) fun g t17 => B3 g ((Op.wrap .u64) [t17]) fun g t18 => B3 g ((Op.fieldAddr 1) [t3]) fun g t20 => B3 g (Op.load1 [t20] H) fun g t21 => B3 g ((Op.wrap .u64) [t21]) fun g t22 => C3 M g (.func N_trace_put) [t0, t18] H fun g t19 H1 => CK3 g (Op.load1 [t20] H1) (some t21) fun g => C3 M g (.func N_trace_put) [t19, t22] H1 fun g t23 H2 => W M c (trace_Encode_1_p 6) g Q ((0, t23)::E) D H2) ∧
 (∀ Q E D H, W M c (trace_Encode_1_p 6) true Q E D H =
  LK true (lk E 3) fun g t3 => B3 g ((Op.fieldAddr 0) [t3]) fun g t24 => B3 g (Op.load1 [t24] H) fun g t25 => B3 g ((Op.indexArr 9 1) [(.ptr G_trace_named 0), t25]) fun g t26 => B3 g (Op.load1 [t26] H) fun g t27 => B32 g (Op.rangeStr [t27]) fun g o1 k1 => LOOP3 (W M c (trace_Encode_1_p 11)) (BLK3 0 (SEQ3 (W M c (trace_Encode_1_p 23)) Q)) ((28, (k1 H.next))::E) D (H.alloc o1)) ∧
 (∀ Q E D H, W M c (trace_Encode_1_p 23) true Q E D H =
  LK true (lk E 0) fun g t0 => GO3 g Q .ret ((4, t0)::E) D H) ∧
 (∀ Q E D H, W M c (trace_Encode_1_p 11) true Q E D H =
  LK true (lk E 28) fun g t28 => B32 g (Op.nextStr [t28] H) fun g t29 H1 => B3 g ((Op.extract 0) [t29]) fun g t30 => IF3 g t30 (fun g => GO3 g (SEQ3 (W M c (trace_Encode_1_p 17)) Q) .normal ((29, t29)::E) D H1) (fun g => GO3 g (SEQ3 (W M c (trace_Encode_1_p 17)) Q) (.exit 0) ((29, t29)::E) D H1)) ∧
 (∀ Q E D H, W M c (trace_Encode_1_p 17) true Q E D H =
  LK true (lk E 29) fun g t29 => B3 g ((Op.extract 2) [t29]) fun g t31 => LK g (lk E 3) fun g t3 => B3 g ((Op.loadN 9) [t3] H) fun g t33 => C3 M g (.func N_trace_get) [t33, t31] H fun g t35 H1 => B3 g ((Op.extract 0) [t35]) fun g t36 => B3 g ((Op.extract 1) [t35]) fun g t37 => LK g (lk E 0) fun g t0 => C3 M g (.func N_trace_put) [t0, t36] H1 fun g t40 H2 => GO3 g (BLK3 1 Q) .normal ((0, t40)::(7, t36)::(6, t31)::E) D H2) := by (repeat' apply And.intro) <;> (intro _ _ _ _; refine W_unf ?_; kernel_rfl)
theorem trace_Encode_1_f : (cProg Tryd.prog).func N_trace_Encode_1 = some trace_Encode_1_F ∧ trace_Encode_1_F.results = [.tmp 4] := pair_rfl (by kernel_rfl)
theorem trace_Encode_1_at {M : Mac} [MK M] : M.func N_trace_Encode_1 = some trace_Encode_1_F := MK.at (by decide) trace_Encode_1_f.1
theorem trace_Encode_1_s {M : Mac} [MK M] {a0 a1 : AV} {H : AHeap} {Q : AEnd → AHeap → Prop} (h : W M ⟨none, N_trace_Encode_1⟩ (trace_Encode_1_p 0) true (FIN3 M [.tmp 4] Q) [(0, a0), (1, a1)] [] H) : CALLE M N_trace_Encode_1 [a0, a1] H Q :=
  calle trace_Encode_1_at (ks := trace_Encode_1_K) (by kernel_rfl) (by rw [trace_Encode_1_f.2]; exact h)
def trace_all_string_F : AFunc := funcAt Tryd.prog N_trace_all_string
def trace_all_string_K : Kp := ⟨[0, 1, 4, 5, 6, 8, 9, 10, 11], false, [0, 4, 9, 15, 19, 27, 28, 29]⟩
def trace_all_string_p (k : Nat) : Kp × ACode := (trace_all_string_K, part trace_all_string_F.body k)
theorem trace_all_string_w (M : Mac) (c : Ctx) : (∀ Q E D H, W M c (trace_all_string_p 0) true Q E D H =
  W M c (trace_all_string_p 4) true Q ((6, .nils)::(5, (.int .i64 0))::(4, .nils)::E) D H) ∧
 (∀ Q E D H, W M c (trace_all_string_p 4) true Q E D H =
  LK true (lk E 0) fun g t0 => B3 g (Op.lenSl [t0]) fun g t10 => LOOP3 (W M c (trace_all_string_p 9)) (BLK3 0 (SEQ3 (W M c (trace_all_string_p 29)) Q)) ((11, (.int .i64 0))::(10, t10)::(9, t0)::E) D H) ∧
 (∀ Q E D H, W M c (trace_all_string_p 29) true Q E D H =
  LK true (lk E 6) fun g t6 => GO3 g Q .ret ((5, (.int .i64 0))::(4, t6)::E) D H) ∧
 (∀ Q E D H, W M c (trace_all_string_p 9) true Q E D H =
  LK true (lk E 11) fun g t11 => LK g (lk E 10) fun g t10 => B3 g ((Op.bin .lss) [t11, t10]) fun g t12 => IF3 g t12 (fun g => GO3 g (SEQ3 (W M c (trace_all_string_p 15)) Q) .normal E D H) (fun g => GO3 g (SEQ3 (W M c (trace_all_string_p 15)) Q) (.exit 0) E D H)) ∧
 (∀ Q E D H, W M c (trace_all_string_p 15) true Q E D H =
  LK true (lk E 9) fun g t9 => LK g (lk E 11) fun g t11 => B3 g ((Op.indexSl 9) [t9, t11]) fun g t13 => B3 g ((Op.loadN 9) [t13] H) fun g t14 => A3 g T_api_Event [(.int .i64 0), (.int .i64 0), (.int .i64 0), (.int .i64 0), (.int .i64 0), (.int .i64 0), (.int .i64 0), (.int .u64 0), (.int .i64 0)] H fun g t8 H1 => B32 g ((Op.store 9) [t8, t14] H1) fun g u H2 => W M c (trace_all_string_p 19) g (BLK3 1 (SEQ3 (W M c (trace_all_string_p 28)) Q)) ((8, t8)::E) D H2) ∧
 (∀ Q E D H, W M c (trace_all_string_p 28) true Q E D H =
  LK true (lk E 11) fun g t11 => B3 g ((Op.bin .add) [t11, (.int .i64 1)]) fun g t22 => GO3 g Q .normal ((11, t22)::E) D H) ∧
 (∀ Q E D H, W M c (trace_all_string_p 19) true Q E D H =
  LK true (lk E 8) fun g t8 => B3 g ((Op.loadN 9) [t8] H) fun g t15 => C3 M g (.func N_trace_fine) [t15] H fun g t16 H1 => B3 g ((Op.un .not) [t16]) fun g t17 => IF3 g t17 (fun g => GO3 g (SEQ3 (W M c (trace_all_string_p 27)) Q) .ret ((5, (.int .i64 2))::(4, .nils)::E) D H1) (fun g => GO3 g (SEQ3 (W M c (trace_all_string_p 27)) Q) .normal E D H1)) ∧
 (∀ Q E D H, W M c (trace_all_string_p 27) true Q E D H =
  LK true (lk E 1) fun g t1 => LK g (lk E 6) fun g t6 => LK g (lk E 8) fun g t8 => B3 g ((Op.loadN 9) [t8] H) fun g t20 => V3 g [t1, t6, t20] fun g f vs => C3 M g f vs H fun g t21 H1 => GO3 g Q .normal ((6, t21)::E) D H1) := by (repeat' apply And.intro) <;> (intro _ _ _ _; refine W_unf ?_; kernel_rfl)
theorem trace_all_string_f : (cProg Tryd.prog).func N_trace_all_string = some trace_all_string_F ∧ trace_all_string_F.results = [.tmp 4, .tmp 5] := pair_rfl (by kernel_rfl)
theorem trace_all_string_at {M : Mac} [MK M] : M.func N_trace_all_string = some trace_all_string_F := MK.at (by decide) trace_all_string_f.1
theorem trace_all_string_s {M : Mac} [MK M] {a0 a1 : AV} {H : AHeap} {Q : AEnd → AHeap → Prop} (h : W M ⟨none, N_trace_all_string⟩ (trace_all_string_p 0) true (FIN3 M [.tmp 4, .tmp 5] Q) [(0, a0), (1, a1)] [] H) : CALLE M N_trace_all_string [a0, a1] H Q :=
  calle trace_all_string_at (ks := trace_all_string_K) (by kernel_rfl) (by rw [trace_all_string_f.2]; exact h)
def trace_Text_1_F : AFunc := funcAt Tryd.prog N_trace_Text_1
def trace_Text_1_K : Kp := ⟨[0, 1, 3, 4], false, [0]⟩
def trace_Text_1_p (k : Nat) : Kp × ACode := (trace_Text_1_K, part trace_Text_1_F.body k)
theorem trace_Text_1_w (M : Mac) (c : Ctx) : (∀ Q E D H, W M c (trace_Text_1_p 0) true Q E D H =
  LK true (lk E 1) fun g t1 => A3 g T_api_Event (AV.cells t1) H fun g t3 H1 => LK g (lk E 0) fun g t0 => B3 g ((Op.loadN 9) [t3] H1) fun g t6 => C3 M g (.func N_trace_line) [t6] H1 fun g t7 H2 => B3 g ((Op.bin .add) [t7, (.str [10])]) fun g t8 => B32 g ((Op.buildSlice T_string 1 [(.str [])] [(0, 1)]) [t8]) fun g o3 k3 => B32 g ((Op.append T_string 1 16) [t0, (k3 H2.next)] (H2.alloc o3)) fun g t10 H4 => GO3 g Q .ret ((4, t10)::(4, .nils)::(3, t3)::E) D H4) := by intro _ _ _ _; refine W_unf ?_; kernel_rfl
theorem trace_Text_1_f : (cProg Tryd.prog).func N_trace_Text_1 = some trace_Text_1_F ∧ trace_Text_1_F.results = [.tmp 4] := pair_rfl (by kernel_rfl)
theorem trace_Text_1_at {M : Mac} [MK M] : M.func N_trace_Text_1 = some trace_Text_1_F := MK.at (by decide) trace_Text_1_f.1
theorem trace_Text_1_s {M : Mac} [MK M] {a0 a1 : AV} {H : AHeap} {Q : AEnd → AHeap → Prop} (h : W M ⟨none, N_trace_Text_1⟩ (trace_Text_1_p 0) true (FIN3 M [.tmp 4] Q) [(0, a0), (1, a1)] [] H) : CALLE M N_trace_Text_1 [a0, a1] H Q :=
  calle trace_Text_1_at (ks := trace_Text_1_K) (by kernel_rfl) (by rw [trace_Text_1_f.2]; exact h)
def trace_fine_F : AFunc := funcAt Tryd.prog N_trace_fine
def trace_fine_K : Kp := ⟨[0, 1, 2, 3, 5, 6, 7, 44, 45], false, [0, 2, 10, 14, 19, 25, 30, 37]⟩
def trace_fine_p (k : Nat) : Kp × ACode := (trace_fine_K, part trace_fine_F.body k)
theorem trace_fine_w (M : Mac) (c : Ctx) : (∀ Q E D H, W M c (trace_fine_p 0) true Q E D H =
  LK true (lk E 0) fun g t0 => A3 g T_api_Event (AV.cells t0) H fun g t1 H1 => W M c (trace_fine_p 2) g Q ((2, (.bool false))::(1, t1)::E) D H1) ∧
 (∀ Q E D H, W M c (trace_fine_p 2) true Q E D H =
  LK true (lk E 1) fun g t1 => B3 g ((Op.fieldAddr 0) [t1]) fun g t8 => B3 g (Op.load1 [t8] H) fun g t9 => B3 g ((Op.bin .lss) [t9, (.int .i64 1)]) fun g t10 => JN (fun (k : Bool → AV → AV → AV → AHeap → Prop) => B3 g (wantV false (some t10)) fun g w => IG3 g w (fun g => B3 g ((Op.fieldAddr 0) [t1]) fun g t12 => B3 g (Op.load1 [t12] H) fun g t13 => B3 g ((Op.bin .gtr) [t13, (.int .i64 8)]) fun g t14 => k g t14 t13 t12 H) (fun g => k g uu uu uu H)) (fun g t14_1 t13_1 t12_1 H1 => B3 g (Op.pick [t10, (.bool true), t14_1]) fun g t15 => JN (fun (k : Bool → AV → AV → AV → AHeap → Prop) => B3 g (wantV false (some t15)) fun g w => IG3 g w (fun g => B3 g ((Op.fieldAddr 2) [t1]) fun g t17 => B3 g (Op.load1 [t17] H1) fun g t18 => B3 g ((Op.bin .lss) [t18, (.int .i64 0)]) fun g t19 => k g t19 t18 t17 H1) (fun g => k g uu uu uu H1)) (fun g t19_1 t18_1 t17_1 H2 => B3 g (Op.pick [t15, (.bool true), t19_1]) fun g t20 => JN (fun (k : Bool → AV → AV → AV → AHeap → Prop) => B3 g (wantV false (some t20)) fun g w => IG3 g w (fun g => B3 g ((Op.fieldAddr 2) [t1]) fun g t22 => B3 g (Op.load1 [t22] H2) fun g t23 => B3 g ((Op.bin .geq) [t23, (.int .i64 4)]) fun g t24 => k g t24 t23 t22 H2) (fun g => k g uu uu uu H2)) (fun g t24_1 t23_1 t22_1 H3 => B3 g (Op.pick [t20, (.bool true), t24_1]) fun g t25 => JN (fun (k : Bool → AV → AV → AV → AHeap → Prop) => B3 g (wantV false (some t25)) fun g w => IG3 g w (fun g => B3 g ((Op.fieldAddr 1) [t1]) fun g t27 => B3 g (Op.load1 [t27] H3) fun g t28 => B3 g ((Op.bin .lss) [t28, (.int .i64 0)]) fun g t29 => k g t29 t28 t27 H3) (fun g => k g uu uu uu H3)) (fun g t29_1 t28_1 t27_1 H4 => B3 g (Op.pick [t25, (.bool true), t29_1]) fun g t30 => IF3 g t30 (fun g => GO3 g (SEQ3 (W M c (trace_fine_p 10)) Q) .ret ((2, (.bool false))::E) D H4) (fun g => GO3 g (SEQ3 (W M c (trace_fine_p 10)) Q) .normal E D H4)))))) ∧
 (∀ Q E D H, W M c (trace_fine_p 10) true Q E D H =
  LK true (lk E 1) fun g t1 => B3 g ((Op.fieldAddr 0) [t1]) fun g t31 => B3 g (Op.load1 [t31] H) fun g t32 => C3 M g (.func N_trace_fresh) [t32] H fun g t33 H1 => A3 g T_api_Event [(.int .i64 0), (.int .i64 0), (.int .i64 0), (.int .i64 0), (.int .i64 0), (.int .i64 0), (.int .i64 0), (.int .u64 0), (.int .i64 0)] H1 fun g t3 H2 => B32 g ((Op.store 9) [t3, t33] H2) fun g u H3 => LK g (lk E 1) fun g t1_1 => B3 g ((Op.fieldAddr 2) [t1_1]) fun g t34 => B3 g (Op.load1 [t34] H3) fun g t35 => B3 g ((Op.fieldAddr 1) [t1_1]) fun g t36 => B3 g (Op.load1 [t36] H3) fun g t37 => B3 g ((Op.fieldAddr 2) [t3]) fun g t38 => B32 g ((Op.store 1) [t38, t35] H3) fun g u_1 H4 => CK3 g (Op.load1 [t36] H4) (some t37) fun g => B3 g ((Op.fieldAddr 1) [t3]) fun g t39 => B32 g ((Op.store 1) [t39, t37] H4) fun g u_2 H5 => W M c (trace_fine_p 14) g Q ((3, t3)::E) D H5) ∧
 (∀ Q E D H, W M c (trace_fine_p 14) true Q E D H =
  LK true (lk E 1) fun g t1 => B3 g ((Op.fieldAddr 0) [t1]) fun g t40 => B3 g (Op.load1 [t40] H) fun g t41 => B3 g ((Op.indexArr 9 1) [(.ptr G_trace_named 0), t41]) fun g t42 => B3 g (Op.load1 [t42] H) fun g t43 => B32 g (Op.rangeStr [t43]) fun g o1 k1 => LOOP3 (W M c (trace_fine_p 19)) (BLK3 0 (SEQ3 (W M c (trace_fine_p 37)) Q)) ((44, (k1 H.next))::E) D (H.alloc o1)) ∧
 (∀ Q E D H, W M c (trace_fine_p 37) true Q E D H =
  LK true (lk E 3) fun g t3 => B3 g ((Op.loadN 9) [t3] H) fun g t62 => LK g (lk E 1) fun g t1 => B3 g ((Op.loadN 9) [t1] H) fun g t63 => B3 g ((Op.eq (.agg (.part 0 none .int (.part 1 none .int (.part 2 none .int (.part 3 none .int (.part 4 none .int (.part 5 none .int (.part 6 none .int (.part 7 none .int (.part 8 none .int .nil)))))))))) false) [t62, t63] H) fun g t64 => GO3 g Q .ret ((2, t64)::E) D H) ∧
 (∀ Q E D H, W M c (trace_fine_p 19) true Q E D H =
  LK true (lk E 44) fun g t44 => B32 g (Op.nextStr [t44] H) fun g t45 H1 => B3 g ((Op.extract 0) [t45]) fun g t46 => IF3 g t46 (fun g => GO3 g (SEQ3 (W M c (trace_fine_p 25)) Q) .normal ((45, t45)::E) D H1) (fun g => GO3 g (SEQ3 (W M c (trace_fine_p 25)) Q) (.exit 0) ((45, t45)::E) D H1)) ∧
 (∀ Q E D H, W M c (trace_fine_p 25) true Q E D H =
  LK true (lk E 45) fun g t45 => B3 g ((Op.extract 2) [t45]) fun g t47 => LK g (lk E 1) fun g t1 => B3 g ((Op.loadN 9) [t1] H) fun g t49 => C3 M g (.func N_trace_get) [t49, t47] H fun g t51 H1 => B3 g ((Op.extract 0) [t51]) fun g t52 => B3 g ((Op.extract 1) [t51]) fun g t53 => W M c (trace_fine_p 30) g (BLK3 1 Q) ((7, t53)::(6, t52)::(5, t47)::E) D H1) ∧
 (∀ Q E D H, W M c (trace_fine_p 30) true Q E D H =
  LK true (lk E 7) fun g t7 => B3 g ((Op.un .not) [t7]) fun g t55 => JN (fun (k : Bool → AV → AV → AV → AV → AHeap → Prop) => B3 g (wantV false (some t55)) fun g w => IG3 g w (fun g => LK g (lk E 5) fun g t5 => LK g (lk E 6) fun g t6 => LK g (lk E 3) fun g t3 => C3 M g (.func N_trace_set) [t3, t5, t6] H fun g t59 H1 => B3 g ((Op.un .not) [t59]) fun g t60 => k g t60 t59 t6 t5 H1) (fun g => k g uu uu uu uu H)) (fun g t60_1 t59_1 t58_1 t57_1 H2 => B3 g (Op.pick [t55, (.bool true), t60_1]) fun g t61 => IF3 g t61 (fun g => GO3 g Q .ret ((2, (.bool false))::E) D H2) (fun g => GO3 g Q .normal E D H2))) := by (repeat' apply And.intro) <;> (intro _ _ _ _; refine W_unf ?_; kernel_rfl)
theorem trace_fine_f : (cProg Tryd.prog).func N_trace_fine = some trace_fine_F ∧ trace_fine_F.results = [.tmp 2] := pair_rfl (by kernel_rfl)
theorem trace_fine_at {M : Mac} [MK M] : M.func N_trace_fine = some trace_fine_F := MK.at (by decide) trace_fine_f.1
theorem trace_fine_s {M : Mac} [MK M] {a0 : AV} {H : AHeap} {Q : AEnd → AHeap → Prop} (h : W M ⟨none, N_trace_fine⟩ (trace_fine_p 0) true (FIN3 M [.tmp 2] Q) [(0, a0)] [] H) : CALLE M N_trace_fine [a0] H Q :=
  calle trace_fine_at (ks := trace_fine_K) (by kernel_rfl) (by rw [trace_fine_f.2]; exact h)
def trace_put_F : AFunc := funcAt Tryd.prog N_trace_put
def trace_put_K : Kp := ⟨[0, 1, 4], false, [0, 2, 5, 11, 15]⟩
def trace_put_p (k : Nat) : Kp × ACode := (trace_put_K, part trace_put_F.body k)
theorem trace_put_w (M : Mac) (c : Ctx) : (∀ Q E D H, W M c (trace_put_p 0) true Q E D H =
  W M c (trace_put_p 2) true Q ((4, .nils)::E) D H) ∧
 (∀ Q E D H, W M c (trace_put_p 2) true Q E D H =
  LOOP3 (W M c (trace_put_p 5)) (BLK3 0 (SEQ3 (W M c (trace_put_p 15)) Q)) E D H) ∧
 (∀ Q E D H, W M c (trace_put_p 15) true Q E D H =
  LK true (lk E 0) fun g t0 => LK g (lk E 1) fun g t1 => B3 g ((Op.wrap .u8) [t1]) fun g t17 => B32 g ((Op.buildSlice T_uint8 1 [(.int .u8 0)] [(0, 1)]) [t17]) fun g o1 k1 => B32 g ((Op.append T_uint8 1 1) [t0, (k1 H.next)] (H.alloc o1)) fun g t19 H2 => GO3 g Q .ret ((4, t19)::E) D H2) ∧
 (∀ Q E D H, W M c (trace_put_p 5) true Q E D H =
  LK true (lk E 1) fun g t1 => B3 g ((Op.bin .geq) [t1, (.int .u64 128)]) fun g t6 => IF3 g t6 (fun g => GO3 g (SEQ3 (W M c (trace_put_p 11)) Q) .normal E D H) (fun g => GO3 g (SEQ3 (W M c (trace_put_p 11)) Q) (.exit 0) E D H)) ∧
 (∀ Q E D H, W M c (trace_put_p 11) true Q E D H =
  LK true (lk E 0) fun g t0 => LK g (lk E 1) fun g t1 => B3 g ((Op.wrap .u8) [t1]) fun g t9 => B3 g ((Op.bin .or) [t9, (.int .u8 128)]) fun g t10 => B32 g ((Op.buildSlice T_uint8 1 [(.int .u8 0)] [(0, 1)]) [t10]) fun g o1 k1 => B32 g ((Op.append T_uint8 1 1) [t0, (k1 H.next)] (H.alloc o1)) fun g t12 H2 => LK g (lk E 1) fun g t1_1 => B3 g ((Op.bin .shr) [t1_1, (.int .u64 7)]) fun g t14 => GO3 g (BLK3 1 Q) .normal ((1, t14)::(0, t12)::E) D H2) := by (repeat' apply And.intro) <;> (intro _ _ _ _; refine W_unf ?_; kernel_rfl)
theorem trace_put_f : (cProg Tryd.prog).func N_trace_put = some trace_put_F ∧ trace_put_F.results = [.tmp 4] := pair_rfl (by kernel_rfl)
theorem trace_put_at {M : Mac} [MK M] : M.func N_trace_put = some trace_put_F := MK.at (by decide) trace_put_f.1
theorem trace_put_s {M : Mac} [MK M] {a0 a1 : AV} {H : AHeap} {Q : AEnd → AHeap → Prop} (h : W M ⟨none, N_trace_put⟩ (trace_put_p 0) true (FIN3 M [.tmp 4] Q) [(0, a0), (1, a1)] [] H) : CALLE M N_trace_put [a0, a1] H Q :=
  calle trace_put_at (ks := trace_put_K) (by kernel_rfl) (by rw [trace_put_f.2]; exact h)
def trace_get_F : AFunc := funcAt Tryd.prog N_trace_get
def trace_get_K : Kp := ⟨[0, 1, 2, 4, 5, 6, 7], false, [0, 2, 10]⟩
def trace_get_p (k : Nat) : Kp × ACode := (trace_get_K, part trace_get_F.body k)
theorem trace_get_w (M : Mac) (c : Ctx) : (∀ Q E D H, W M c (trace_get_p 0) true Q E D H =
  LK true (lk E 0) fun g t0 => A3 g T_api_Event (AV.cells t0) H fun g t2 H1 => W M c (trace_get_p 2) g Q ((5, (.bool false))::(4, (.int .u64 0))::(2, t2)::E) D H1) ∧
 (∀ Q E D H, W M c (trace_get_p 2) true Q E D H =
  LK true (lk E 1) fun g t1 => B3 g ((Op.bin .eql) [t1, (.int .i32 118)]) fun g t9 => IF3 g t9 (fun g => LK g (lk E 2) fun g t2 => B3 g ((Op.fieldAddr 7) [t2]) fun g t10 => B3 g (Op.load1 [t10] H) fun g t11 => GO3 g (SEQ3 (W M c (trace_get_p 10)) Q) .ret ((5, (.bool true))::(4, t11)::E) D H) (fun g => GO3 g (SEQ3 (W M c (trace_get_p 10)) Q) .normal E D H)) ∧
 (∀ Q E D H, W M c (trace_get_p 10) true Q E D H =
  LK true (lk E 1) fun g t1 => LK g (lk E 2) fun g t2 => C3 M g (.func N_trace_field) [t2, t1] H fun g t14 H1 => B3 g ((Op.extract 0) [t14]) fun g t15 => B3 g ((Op.extract 1) [t14]) fun g t16 => B3 g (Op.nilCheck [t15]) fun g t18 => B3 g (Op.load1 [t18] H1) fun g t19 => B3 g ((Op.wrap .u64) [t19]) fun g t20 => B3 g (Op.nilCheck [t15]) fun g t22 => B3 g (Op.load1 [t22] H1) fun g t23 => C3 M g (.func N_trace_may) [t23, t16] H1 fun g t25 H2 => CK3 g (Op.load1 [t18] H2) (some t19) fun g => GO3 g Q .ret ((5, t25)::(4, t20)::(7, t16)::(6, t15)::E) D H2) := by (repeat' apply And.intro) <;> (intro _ _ _ _; refine W_unf ?_; kernel_rfl)
theorem trace_get_f : (cProg Tryd.prog).func N_trace_get = some trace_get_F ∧ trace_get_F.results = [.tmp 4, .tmp 5] := pair_rfl (by kernel_rfl)
theorem trace_get_at {M : Mac} [MK M] : M.func N_trace_get = some trace_get_F := MK.at (by decide) trace_get_f.1
theorem trace_get_s {M : Mac} [MK M] {a0 a1 : AV} {H : AHeap} {Q : AEnd → AHeap → Prop} (h : W M ⟨none, N_trace_get⟩ (trace_get_p 0) true (FIN3 M [.tmp 4, .tmp 5] Q) [(0, a0), (1, a1)] [] H) : CALLE M N_trace_get [a0, a1] H Q :=
  calle trace_get_at (ks := trace_get_K) (by kernel_rfl) (by rw [trace_get_f.2]; exact h)
def trace_line_F : AFunc := funcAt Tryd.prog N_trace_line
def trace_line_K : Kp := ⟨[0, 1, 2, 3, 5, 6, 8, 10, 26, 27], false, [0, 4, 9, 15, 20, 22, 28, 34, 35]⟩
def trace_line_p (k : Nat) : Kp × ACode := (trace_line_K, part trace_line_F.body k)
theorem trace_line_w (M : Mac) (c : Ctx) : (∀ Q E D H, W M c (trace_line_p 0) true Q E D H =
  LK true (lk E 0) fun g t0 => A3 g T_api_Event (AV.cells t0) H fun g t1 H1 => B3 g ((Op.fieldAddr 1) [t1]) fun g t11 => B3 g (Op.load1 [t11] H1) fun g t12 => B3 g ((Op.fieldAddr 2) [t1]) fun g t14 => B3 g (Op.load1 [t14] H1) fun g t15 => B3 g ((Op.fieldAddr 0) [t1]) fun g t17 => B3 g (Op.load1 [t17] H1) fun g t18 => B3 g ((Op.indexArr 9 1) [(.ptr G_trace_kinds 0), t18]) fun g t19 => B3 g (Op.load1 [t19] H1) fun g t20 => C3 M g (.func N_strconv_Itoa) [t12] H1 fun g t13 H2 => CK3 g (Op.load1 [t14] H2) (some t15) fun g => CK3 g (Op.load1 [t17] H2) (some t18) fun g => CK3 g (Op.load1 [t19] H2) (some t20) fun g => C3 M g (.func N_strconv_Itoa) [t15] H2 fun g t16 H3 => CK3 g (Op.load1 [t17] H3) (some t18) fun g => CK3 g (Op.load1 [t19] H3) (some t20) fun g => B32 g ((Op.buildSlice T_string 3 [(.str [])] [(0, 1), (1, 1), (2, 1)]) [t13, t16, t20]) fun g o4 k4 => W M c (trace_line_p 4) g Q ((3, (k4 H3.next))::(2, (.str []))::(1, t1)::E) D (H3.alloc o4)) ∧
 (∀ Q E D H, W M c (trace_line_p 4) true Q E D H =
  LK true (lk E 1) fun g t1 => B3 g ((Op.fieldAddr 0) [t1]) fun g t22 => B3 g (Op.load1 [t22] H) fun g t23 => B3 g ((Op.indexArr 9 1) [(.ptr G_trace_named 0), t23]) fun g t24 => B3 g (Op.load1 [t24] H) fun g t25 => B32 g (Op.rangeStr [t25]) fun g o1 k1 => LOOP3 (W M c (trace_line_p 9)) (BLK3 0 (SEQ3 (W M c (trace_line_p 35)) Q)) ((26, (k1 H.next))::E) D (H.alloc o1)) ∧
 (∀ Q E D H, W M c (trace_line_p 35) true Q E D H =
  LK true (lk E 3) fun g t3 => C3 M g (.func N_strings_Join) [t3, (.str [32])] H fun g t57 H1 => GO3 g Q .ret ((2, t57)::E) D H1) ∧
 (∀ Q E D H, W M c (trace_line_p 9) true Q E D H =
  LK true (lk E 26) fun g t26 => B32 g (Op.nextStr [t26] H) fun g t27 H1 => B3 g ((Op.extract 0) [t27]) fun g t28 => IF3 g t28 (fun g => GO3 g (SEQ3 (W M c (trace_line_p 15)) Q) .normal ((27, t27)::E) D H1) (fun g => GO3 g (SEQ3 (W M c (trace_line_p 15)) Q) (.exit 0) ((27, t27)::E) D H1)) ∧
 (∀ Q E D H, W M c (trace_line_p 15) true Q E D H =
  LK true (lk E 27) fun g t27 => B3 g ((Op.extract 2) [t27]) fun g t29 => LK g (lk E 1) fun g t1 => B3 g ((Op.loadN 9) [t1] H) fun g t31 => C3 M g (.func N_trace_get) [t31, t29] H fun g t33 H1 => B3 g ((Op.extract 0) [t33]) fun g t34 => B3 g ((Op.extract 1) [t33]) fun g t35 => W M c (trace_line_p 20) g (BLK3 1 Q) ((6, t34)::(5, t29)::E) D H1) ∧
 (∀ Q E D H, W M c (trace_line_p 20) true Q E D H =
  LK true (lk E 6) fun g t6 => C3 M g (.func N_strconv_FormatUint) [t6, (.int .i64 10)] H fun g t37 H1 => W M c (trace_line_p 22) g Q ((8, t37)::E) D H1) ∧
 (∀ Q E D H, W M c (trace_line_p 22) true Q E D H =
  LK true (lk E 5) fun g t5 => B3 g ((Op.bin .neq) [t5, (.int .i32 118)]) fun g t39 => IF3 g t39 (fun g => LK g (lk E 5) fun g t5_1 => LK g (lk E 1) fun g t1 => C3 M g (.func N_trace_field) [t1, t5_1] H fun g t42 H1 => B3 g ((Op.extract 0) [t42]) fun g t43 => B3 g ((Op.extract 1) [t42]) fun g t44 => W M c (trace_line_p 28) g (SEQ3 (W M c (trace_line_p 34)) Q) ((10, t44)::E) D H1) (fun g => GO3 g (SEQ3 (W M c (trace_line_p 34)) Q) .normal E D H)) ∧
 (∀ Q E D H, W M c (trace_line_p 34) true Q E D H =
  LK true (lk E 3) fun g t3 => LK g (lk E 8) fun g t8 => B32 g ((Op.buildSlice T_string 1 [(.str [])] [(0, 1)]) [t8]) fun g o1 k1 => B32 g ((Op.append T_string 1 16) [t3, (k1 H.next)] (H.alloc o1)) fun g t55 H2 => GO3 g Q .normal ((3, t55)::E) D H2) ∧
 (∀ Q E D H, W M c (trace_line_p 28) true Q E D H =
  LK true (lk E 10) fun g t10 => B3 g (Op.lenSl [t10]) fun g t46 => B3 g ((Op.bin .gtr) [t46, (.int .i64 0)]) fun g t47 => IF3 g t47 (fun g => LK g (lk E 10) fun g t10_1 => LK g (lk E 6) fun g t6 => B3 g ((Op.indexSl 1) [t10_1, t6]) fun g t50 => B3 g (Op.load1 [t50] H) fun g t51 => GO3 g Q .normal ((8, t51)::E) D H) (fun g => GO3 g Q .normal E D H)) := by (repeat' apply And.intro) <;> (intro _ _ _ _; refine W_unf ?_; kernel_rfl)
theorem trace_line_f : (cProg Tryd.prog).func N_trace_line = some trace_line_F ∧ trace_line_F.results = [.tmp 2] := pair_rfl (by kernel_rfl)
theorem trace_line_at {M : Mac} [MK M] : M.func N_trace_line = some trace_line_F := MK.at (by decide) trace_line_f.1
theorem trace_line_s {M : Mac} [MK M] {a0 : AV} {H : AHeap} {Q : AEnd → AHeap → Prop} (h : W M ⟨none, N_trace_line⟩ (trace_line_p 0) true (FIN3 M [.tmp 2] Q) [(0, a0)] [] H) : CALLE M N_trace_line [a0] H Q :=
  calle trace_line_at (ks := trace_line_K) (by kernel_rfl) (by rw [trace_line_f.2]; exact h)
def trace_fresh_F : AFunc := funcAt Tryd.prog N_trace_fresh
def trace_fresh_K : Kp := ⟨[0, 2, 3, 9], false, [0, 4, 10]⟩
def trace_fresh_p (k : Nat) : Kp × ACode := (trace_fresh_K, part trace_fresh_F.body k)
theorem trace_fresh_w (M : Mac) (c : Ctx) : (∀ Q E D H, W M c (trace_fresh_p 0) true Q E D H =
  A3 true T_api_Event [(.int .i64 0), (.int .i64 0), (.int .i64 0), (.int .i64 0), (.int .i64 0), (.int .i64 0), (.int .i64 0), (.int .u64 0), (.int .i64 0)] H fun g t2 H1 => LK g (lk E 0) fun g t0 => B3 g ((Op.build [(.int .i64 0), (.int .i64 0), (.int .i64 0), (.int .i64 0), (.int .i64 0), (.int .i64 0), (.int .i64 0), (.int .u64 0), (.int .i64 0)] [(0, 1)]) [t0]) fun g t5 => A3 g T_api_Event [(.int .i64 0), (.int .i64 0), (.int .i64 0), (.int .i64 0), (.int .i64 0), (.int .i64 0), (.int .i64 0), (.int .u64 0), (.int .i64 0)] H1 fun g t3 H2 => B32 g ((Op.store 9) [t3, t5] H2) fun g u H3 => W M c (trace_fresh_p 4) g Q ((3, t3)::(2, t2)::E) D H3) ∧
 (∀ Q E D H, W M c (trace_fresh_p 4) true Q E D H =
  LK true (lk E 0) fun g t0 => B3 g ((Op.bin .geq) [t0, (.int .i64 7)]) fun g t7 => IF3 g t7 (fun g => LK g (lk E 3) fun g t3 => B3 g ((Op.fieldAddr 3) [t3]) fun g t8 => B32 g ((Op.store 1) [t8, (.int .i64 (-1))] H) fun g u H1 => GO3 g (SEQ3 (W M c (trace_fresh_p 10)) Q) .normal E D H1) (fun g => GO3 g (SEQ3 (W M c (trace_fresh_p 10)) Q) .normal E D H)) ∧
 (∀ Q E D H, W M c (trace_fresh_p 10) true Q E D H =
  LK true (lk E 3) fun g t3 => B3 g ((Op.loadN 9) [t3] H) fun g t9 => LK g (lk E 2) fun g t2 => B32 g ((Op.store 9) [t2, t9] H) fun g u H1 => GO3 g Q .ret ((9, t9)::E) D H1) := by (repeat' apply And.intro) <;> (intro _ _ _ _; refine W_unf ?_; kernel_rfl)
theorem trace_fresh_f : (cProg Tryd.prog).func N_trace_fresh = some trace_fresh_F ∧ trace_fresh_F.results = [.cellN 9 2] := pair_rfl (by kernel_rfl)
theorem trace_fresh_at {M : Mac} [MK M] : M.func N_trace_fresh = some trace_fresh_F := MK.at (by decide) trace_fresh_f.1
theorem trace_fresh_s {M : Mac} [MK M] {a0 : AV} {H : AHeap} {Q : AEnd → AHeap → Prop} (h : W M ⟨none, N_trace_fresh⟩ (trace_fresh_p 0) true (FIN3 M [.cellN 9 2] Q) [(0, a0)] [] H) : CALLE M N_trace_fresh [a0] H Q :=
  calle trace_fresh_at (ks := trace_fresh_K) (by kernel_rfl) (by rw [trace_fresh_f.2]; exact h)
def trace_set_F : AFunc := funcAt Tryd.prog N_trace_set
def trace_set_K : Kp := ⟨[0, 1, 2, 6, 7, 8], false, [0, 2, 12]⟩
def trace_set_p (k : Nat) : Kp × ACode := (trace_set_K, part trace_set_F.body k)
theorem trace_set_w (M : Mac) (c : Ctx) : (∀ Q E D H, W M c (trace_set_p 0) true Q E D H =
  W M c (trace_set_p 2) true Q ((6, (.bool false))::E) D H) ∧
 (∀ Q E D H, W M c (trace_set_p 2) true Q E D H =
  LK true (lk E 1) fun g t1 => B3 g ((Op.bin .eql) [t1, (.int .i32 118)]) fun g t10 => IF3 g t10 (fun g => LK g (lk E 0) fun g t0 => LK g (lk E 2) fun g t2 => B3 g (Op.nilCheck [t0]) fun g t13 => B3 g ((Op.fieldAddr 7) [t13]) fun g t14 => B32 g ((Op.store 1) [t14, t2] H) fun g u H1 => GO3 g (SEQ3 (W M c (trace_set_p 12)) Q) .ret ((6, (.bool true))::E) D H1) (fun g => GO3 g (SEQ3 (W M c (trace_set_p 12)) Q) .normal E D H)) ∧
 (∀ Q E D H, W M c (trace_set_p 12) true Q E D H =
  LK true (lk E 0) fun g t0 => LK g (lk E 1) fun g t1 => C3 M g (.func N_trace_field) [t0, t1] H fun g t18 H1 => B3 g ((Op.extract 0) [t18]) fun g t19 => B3 g ((Op.extract 1) [t18]) fun g t20 => LK g (lk E 2) fun g t2 => B3 g ((Op.wrap .i64) [t2]) fun g t23 => B3 g (Op.nilCheck [t19]) fun g t24 => B32 g ((Op.store 1) [t24, t23] H1) fun g u H2 => LK g (lk E 2) fun g t2_1 => B3 g ((Op.bin .leq) [t2_1, (.int .u64 9223372036854775807)]) fun g t26 => JN (fun (k : Bool → AV → AV → AV → AV → AV → AHeap → Prop) => B3 g (wantV true (some t26)) fun g w => IG3 g w (fun g => B3 g (Op.nilCheck [t19]) fun g t29 => B3 g (Op.load1 [t29] H2) fun g t30 => C3 M g (.func N_trace_may) [t30, t20] H2 fun g t32 H3 => k g t32 t20 t30 t29 t19 H3) (fun g => k g uu uu uu uu uu H2)) (fun g t32_1 t31_1 t30_1 t29_1 t28_1 H4 => B3 g (Op.pick [t26, t32_1, (.bool false)]) fun g t33 => GO3 g Q .ret ((6, t33)::(8, t20)::(7, t19)::E) D H4)) := by (repeat' apply And.intro) <;> (intro _ _ _ _; refine W_unf ?_; kernel_rfl)
theorem trace_set_f : (cProg Tryd.prog).func N_trace_set = some trace_set_F ∧ trace_set_F.results = [.tmp 6] := pair_rfl (by kernel_rfl)
theorem trace_set_at {M : Mac} [MK M] : M.func N_trace_set = some trace_set_F := MK.at (by decide) trace_set_f.1
theorem trace_set_s {M : Mac} [MK M] {a0 a1 a2 : AV} {H : AHeap} {Q : AEnd → AHeap → Prop} (h : W M ⟨none, N_trace_set⟩ (trace_set_p 0) true (FIN3 M [.tmp 6] Q) [(0, a0), (1, a1), (2, a2)] [] H) : CALLE M N_trace_set [a0, a1, a2] H Q :=
  calle trace_set_at (ks := trace_set_K) (by kernel_rfl) (by rw [trace_set_f.2]; exact h)
def trace_field_F : AFunc := funcAt Tryd.prog N_trace_field
def trace_field_K : Kp := ⟨[0, 1, 4, 5, 6], false, [0, 2, 18, 31]⟩
def trace_field_p (k : Nat) : Kp × ACode := (trace_field_K, part trace_field_F.body k)
theorem trace_field_w (M : Mac) (c : Ctx) : (∀ Q E D H, W M c (trace_field_p 0) true Q E D H =
  W M c (trace_field_p 2) true Q ((5, .nils)::(4, .nilp)::E) D H) ∧
 (∀ Q E D H, W M c (trace_field_p 2) true Q E D H =
  LK true (lk E 1) fun g t1 => B3 g ((Op.bin .eql) [t1, (.int .i32 98)]) fun g t8 => IF3 g t8 (fun g => LK g (lk E 0) fun g t0 => B3 g (Op.nilCheck [t0]) fun g t10 => B3 g ((Op.fieldAddr 3) [t10]) fun g t11 => GO3 g (BLK3 0 (SEQ3 (W M c (trace_field_p 31)) Q)) .ret ((5, .nils)::(4, t11)::(6, t1)::E) D H) (fun g => B3 g ((Op.bin .eql) [t1, (.int .i32 116)]) fun g t13 => IF3 g t13 (fun g => LK g (lk E 0) fun g t0 => B3 g (Op.nilCheck [t0]) fun g t15 => B3 g ((Op.fieldAddr 4) [t15]) fun g t16 => GO3 g (BLK3 0 (SEQ3 (W M c (trace_field_p 31)) Q)) .ret ((5, .nils)::(4, t16)::(6, t1)::E) D H) (fun g => W M c (trace_field_p 18) g (BLK3 0 (SEQ3 (W M c (trace_field_p 31)) Q)) ((6, t1)::E) D H))) ∧
 (∀ Q E D H, W M c (trace_field_p 31) true Q E D H =
  LK true (lk E 0) fun g t0 => B3 g (Op.nilCheck [t0]) fun g t29 => B3 g ((Op.fieldAddr 8) [t29]) fun g t30 => B32 g ((Op.buildSlice T_string 9 [(.str [])] [(0, 1), (1, 1), (2, 1), (3, 1), (4, 1), (5, 1), (6, 1), (7, 1), (8, 1)]) [(.str []), (.str [99, 111, 110, 102, 108, 105, 99, 116]), (.str [115, 117, 98]), (.str [99, 97, 112, 97, 99, 105, 116, 121]), (.str [101, 118, 105, 99, 116]), (.str [115, 112, 117, 114, 105, 111, 117, 115]), (.str [98, 117, 115, 121]), (.str [105, 108, 108, 101, 103, 97, 108]), (.str [115, 111, 102, 116])]) fun g o1 k1 => GO3 g Q .ret ((5, (k1 H.next))::(4, t30)::E) D (H.alloc o1)) ∧
 (∀ Q E D H, W M c (trace_field_p 18) true Q E D H =
  LK true (lk E 6) fun g t6 => B3 g ((Op.bin .eql) [t6, (.int .i32 108)]) fun g t18 => IF3 g t18 (fun g => LK g (lk E 0) fun g t0 => B3 g (Op.nilCheck [t0]) fun g t20 => B3 g ((Op.fieldAddr 5) [t20]) fun g t21 => B32 g ((Op.buildSlice T_string 5 [(.str [])] [(0, 1), (1, 1), (2, 1), (3, 1), (4, 1)]) [(.str []), (.str [102, 97, 115, 116]), (.str [115, 108, 111, 119]), (.str [115, 111, 102, 116]), (.str [115, 101, 114, 105, 97, 108])]) fun g o1 k1 => GO3 g Q .ret ((5, (k1 H.next))::(4, t21)::E) D (H.alloc o1)) (fun g => LK g (lk E 6) fun g t6_1 => B3 g ((Op.bin .eql) [t6_1, (.int .i32 97)]) fun g t24 => IF3 g t24 (fun g => LK g (lk E 0) fun g t0 => B3 g (Op.nilCheck [t0]) fun g t26 => B3 g ((Op.fieldAddr 6) [t26]) fun g t27 => GO3 g Q .ret ((5, .nils)::(4, t27)::E) D H) (fun g => GO3 g Q .normal E D H))) := by (repeat' apply And.intro) <;> (intro _ _ _ _; refine W_unf ?_; kernel_rfl)
theorem trace_field_f : (cProg Tryd.prog).func N_trace_field = some trace_field_F ∧ trace_field_F.results = [.tmp 4, .tmp 5] := pair_rfl (by kernel_rfl)
theorem trace_field_at {M : Mac} [MK M] : M.func N_trace_field = some trace_field_F := MK.at (by decide) trace_field_f.1
theorem trace_field_s {M : Mac} [MK M] {a0 a1 : AV} {H : AHeap} {Q : AEnd → AHeap → Prop} (h : W M ⟨none, N_trace_field⟩ (trace_field_p 0) true (FIN3 M [.tmp 4, .tmp 5] Q) [(0, a0), (1, a1)] [] H) : CALLE M N_trace_field [a0, a1] H Q :=
  calle trace_field_at (ks := trace_field_K) (by kernel_rfl) (by rw [trace_field_f.2]; exact h)
def trace_may_F : AFunc := funcAt Tryd.prog N_trace_may
def trace_may_K : Kp := ⟨[0, 1, 4], false, [0]⟩
def trace_may_p (k : Nat) : Kp × ACode := (trace_may_K, part trace_may_F.body k)
theorem trace_may_w (M : Mac) (c : Ctx) : (∀ Q E D H, W M c (trace_may_p 0) true Q E D H =
  LK true (lk E 0) fun g t0 => B3 g ((Op.bin .geq) [t0, (.int .i64 0)]) fun g t6 => JN (fun (k : Bool → AV → AV → AV → AV → AHeap → Prop) => B3 g (wantV true (some t6)) fun g w => IG3 g w (fun g => LK g (lk E 1) fun g t1 => B3 g (Op.lenSl [t1]) fun g t9 => B3 g ((Op.bin .eql) [t9, (.int .i64 0)]) fun g t10 => k g t10 t10 t9 t1 H) (fun g => k g uu uu uu uu H)) (fun g t11_1 t10_1 t9_1 t8_1 H1 => JN (fun (k : Bool → AV → AV → AV → AHeap → Prop) => B3 g (wantV false (some t11_1)) fun g w => IG3 g w (fun g => B3 g ((Op.bin .geq) [t0, (.int .i64 1)]) fun g t13 => k g t13 t13 t0 H1) (fun g => k g uu uu uu H1)) (fun g t14_1 t13_1 t12_1 H2 => JN (fun (k : Bool → AV → AV → AV → AV → AHeap → Prop) => B3 g (wantV true (some t14_1)) fun g w => IG3 g w (fun g => LK g (lk E 1) fun g t1_1 => B3 g (Op.lenSl [t1_1]) fun g t17 => B3 g ((Op.bin .lss) [t0, t17]) fun g t18 => k g t18 t17 t1_1 t0 H2) (fun g => k g uu uu uu uu H2)) (fun g t18_1 t17_1 t16_1 t15_1 H3 => JN (fun (k : Bool → AV → AHeap → Prop) => B3 g (wantV false (some t11_1)) fun g w => IG3 g w (fun g => B3 g (Op.pick [t14_1, t18_1, (.bool false)]) fun g t19 => k g t19 H3) (fun g => k g uu H3)) (fun g t19_1 H4 => JN (fun (k : Bool → AV → AHeap → Prop) => B3 g (wantV true (some t6)) fun g w => IG3 g w (fun g => B3 g (Op.pick [t11_1, (.bool true), t19_1]) fun g t20 => k g t20 H4) (fun g => k g uu H4)) (fun g t20_1 H5 => B3 g (Op.pick [t6, t20_1, (.bool false)]) fun g t21 => GO3 g Q .ret ((4, t21)::(4, (.bool false))::E) D H5)))))) := by intro _ _ _ _; refine W_unf ?_; kernel_rfl
theorem trace_may_f : (cProg Tryd.prog).func N_trace_may = some trace_may_F ∧ trace_may_F.results = [.tmp 4] := pair_rfl (by kernel_rfl)
theorem trace_may_at {M : Mac} [MK M] : M.func N_trace_may = some trace_may_F := MK.at (by decide) trace_may_f.1
theorem trace_may_s {M : Mac} [MK M] {a0 a1 : AV} {H : AHeap} {Q : AEnd → AHeap → Prop} (h : W M ⟨none, N_trace_may⟩ (trace_may_p 0) true (FIN3 M [.tmp 4] Q) [(0, a0), (1, a1)] [] H) : CALLE M N_trace_may [a0, a1] H Q :=
  calle trace_may_at (ks := trace_may_K) (by kernel_rfl) (by rw [trace_may_f.2]; exact h)
end
end Go.Am
namespace Go.Am
set_option linter.unusedVariables false
set_option maxRecDepth 100000
abbrev N_law23_TraceJoined : Nat := 4
abbrev N_ref23_Same : Nat := 14
abbrev N_trace_Between : Nat := 17
abbrev N_trace_Between_1 : Nat := 39
abbrev N_trace_Of : Nat := 16
abbrev N_trace_Of_1 : Nat := 38
abbrev N_trace_sift_api_Event : Nat := 37
abbrev T__20 : Nat := 39
abbrev T_int : Nat := 3
noncomputable section
open Go.Proofs Go.Proofs.YtkfheegmlgfdoaaDoor
def law23_TraceJoined_F : AFunc := funcAt Tryd.prog N_law23_TraceJoined
def law23_TraceJoined_K : Kp := ⟨[0, 1, 2, 5, 6, 7, 8, 9, 10, 11, 12, 13, 14, 15, 17, 19, 20, 21, 22, 23], false, [0, 4, 12, 16, 20, 24, 28, 30, 38, 42]⟩
def law23_TraceJoined_p (k : Nat) : Kp × ACode := (law23_TraceJoined_K, part law23_TraceJoined_F.body k)
theorem law23_TraceJoined_w (M : Mac) (c : Ctx) : (∀ Q E D H, W M c (law23_TraceJoined_p 0) true Q E D H =
  LK true (lk E 2) fun g t2 => A3 g T__20 (AV.cells t2) H fun g t5 H1 => C3 M g (.func N_law23_alive) [] H1 fun g t24 H2 => W M c (law23_TraceJoined_p 4) g Q ((7, t24)::(6, (.bool false))::(5, t5)::E) D H2) ∧
 (∀ Q E D H, W M c (law23_TraceJoined_p 4) true Q E D H =
  LK true (lk E 0) fun g t0 => B3 g (Op.lenSl [t0]) fun g t26 => B3 g ((Op.bin .gtr) [t26, (.int .i64 150)]) fun g t27 => JN (fun (k : Bool → AV → AV → AV → AHeap → Prop) => B3 g (wantV false (some t27)) fun g w => IG3 g w (fun g => LK g (lk E 1) fun g t1 => B3 g (Op.lenSl [t1]) fun g t30 => B3 g ((Op.bin .gtr) [t30, (.int .i64 150)]) fun g t31 => k g t31 t30 t1 H) (fun g => k g uu uu uu H)) (fun g t31_1 t30_1 t29_1 H1 => B3 g (Op.pick [t27, (.bool true), t31_1]) fun g t32 => JN (fun (k : Bool → AV → AV → AHeap → Prop) => B3 g (wantV false (some t32)) fun g w => IG3 g w (fun g => LK g (lk E 7) fun g t7 => B3 g ((Op.un .not) [t7]) fun g t35 => k g t35 t7 H1) (fun g => k g uu uu H1)) (fun g t35_1 t34_1 H2 => B3 g (Op.pick [t32, (.bool true), t35_1]) fun g t36 => IF3 g t36 (fun g => LK g (lk E 7) fun g t7_1 => GO3 g (SEQ3 (W M c (law23_TraceJoined_p 12)) Q) .ret ((6, t7_1)::E) D H2) (fun g => GO3 g (SEQ3 (W M c (law23_TraceJoined_p 12)) Q) .normal E D H2)))) ∧
 (∀ Q E D H, W M c (law23_TraceJoined_p 12) true Q E D H =
  LK true (lk E 0) fun g t0 => B32 g ((Op.append T_api_Event 9 72) [.nils, t0] H) fun g t40 H1 => LK g (lk E 1) fun g t1 => B32 g ((Op.append T_api_Event 9 72) [t40, t1] H1) fun g t42 H2 => W M c (law23_TraceJoined_p 16) g Q ((8, t42)::(8, .nils)::E) D H2) ∧
 (∀ Q E D H, W M c (law23_TraceJoined_p 16) true Q E D H =
  LK true (lk E 0) fun g t0 => C3 M g (.func N_trace_Encode) [t0] H fun g t45 H1 => B3 g ((Op.extract 0) [t45]) fun g t46 => B3 g ((Op.extract 1) [t45]) fun g t47 => LK g (lk E 1) fun g t1 => C3 M g (.func N_trace_Encode) [t1] H1 fun g t50 H2 => B3 g ((Op.extract 0) [t50]) fun g t51 => B3 g ((Op.extract 1) [t50]) fun g t52 => W M c (law23_TraceJoined_p 20) g Q ((12, t52)::(11, t51)::(10, t47)::(9, t46)::E) D H2) ∧
 (∀ Q E D H, W M c (law23_TraceJoined_p 20) true Q E D H =
  LK true (lk E 8) fun g t8 => C3 M g (.func N_trace_Encode) [t8] H fun g t55 H1 => B3 g ((Op.extract 0) [t55]) fun g t56 => B3 g ((Op.extract 1) [t55]) fun g t57 => LK g (lk E 0) fun g t0 => C3 M g (.func N_trace_Text) [t0] H1 fun g t60 H2 => B3 g ((Op.extract 0) [t60]) fun g t61 => B3 g ((Op.extract 1) [t60]) fun g t62 => W M c (law23_TraceJoined_p 24) g Q ((15, t61)::(14, t57)::(13, t56)::E) D H2) ∧
 (∀ Q E D H, W M c (law23_TraceJoined_p 24) true Q E D H =
  LK true (lk E 1) fun g t1 => C3 M g (.func N_trace_Text) [t1] H fun g t65 H1 => B3 g ((Op.extract 0) [t65]) fun g t66 => B3 g ((Op.extract 1) [t65]) fun g t67 => LK g (lk E 8) fun g t8 => C3 M g (.func N_trace_Text) [t8] H1 fun g t70 H2 => B3 g ((Op.extract 0) [t70]) fun g t71 => B3 g ((Op.extract 1) [t70]) fun g t72 => W M c (law23_TraceJoined_p 28) g Q ((20, t72)::(19, t71)::(17, t66)::E) D H2) ∧
 (∀ Q E D H, W M c (law23_TraceJoined_p 28) true Q E D H =
  LK true (lk E 10) fun g t10 => B3 g ((Op.bin .eql) [t10, (.int .i64 0)]) fun g t74 => JN (fun (k : Bool → AV → AV → AHeap → Prop) => B3 g (wantV true (some t74)) fun g w => IG3 g w (fun g => LK g (lk E 12) fun g t12 => B3 g ((Op.bin .eql) [t12, (.int .i64 0)]) fun g t77 => k g t77 t12 H) (fun g => k g uu uu H)) (fun g t77_1 t76_1 H1 => B3 g (Op.pick [t74, t77_1, (.bool false)]) fun g t78 => W M c (law23_TraceJoined_p 30) g Q ((21, t78)::E) D H1)) ∧
 (∀ Q E D H, W M c (law23_TraceJoined_p 30) true Q E D H =
  LK true (lk E 21) fun g t21 => LK g (lk E 14) fun g t14 => B3 g ((Op.bin .eql) [t14, (.int .i64 0)]) fun g t81 => B3 g ((Op.eq .bool true) [t21, t81] H) fun g t82 => JN (fun (k : Bool → AV → AV → AV → AHeap → Prop) => B3 g (wantV false (some t82)) fun g w => IG3 g w (fun g => LK g (lk E 20) fun g t20 => B3 g ((Op.bin .neq) [t14, t20]) fun g t86 => k g t86 t20 t14 H) (fun g => k g uu uu uu H)) (fun g t86_1 t85_1 t84_1 H1 => B3 g (Op.pick [t82, (.bool true), t86_1]) fun g t87 => JN (fun (k : Bool → AV → AV → AHeap → Prop) => B3 g (wantV false (some t87)) fun g w => IG3 g w (fun g => k g t21 t21 H1) (fun g => k g uu uu H1)) (fun g t90_1 t89_1 H2 => JN (fun (k : Bool → AV → AV → AV → AV → AV → AV → AV → AV → AV → AHeap → Prop) => B3 g (wantV true (some t90_1)) fun g w => IG3 g w (fun g => LK g (lk E 13) fun g t13 => B3 g (Op.strOfBytes [t13] H2) fun g t92 => LK g (lk E 9) fun g t9 => B3 g (Op.strOfBytes [t9] H2) fun g t94 => LK g (lk E 11) fun g t11 => B3 g (Op.strOfBytes [t11] H2) fun g t96 => B3 g ((Op.bin .add) [t94, t96]) fun g t97 => B3 g ((Op.bin .neq) [t92, t97]) fun g t98 => k g t98 t98 t97 t96 t11 t94 t9 t92 t13 H2) (fun g => k g uu uu uu uu uu uu uu uu uu H2)) (fun g t99_1 t98_1 t97_1 t96_1 t95_1 t94_1 t93_1 t92_1 t91_1 H3 => JN (fun (k : Bool → AV → AV → AV → AV → AV → AHeap → Prop) => B3 g (wantV false (some t99_1)) fun g w => IG3 g w (fun g => LK g (lk E 19) fun g t19 => LK g (lk E 15) fun g t15 => LK g (lk E 17) fun g t17 => B3 g ((Op.bin .add) [t15, t17]) fun g t103 => B3 g ((Op.bin .neq) [t19, t103]) fun g t104 => k g t104 t103 t17 t15 t19 H3) (fun g => k g uu uu uu uu uu H3)) (fun g t104_1 t103_1 t102_1 t101_1 t100_1 H4 => JN (fun (k : Bool → AV → AHeap → Prop) => B3 g (wantV true (some t90_1)) fun g w => IG3 g w (fun g => B3 g (Op.pick [t99_1, (.bool true), t104_1]) fun g t105 => k g t105 H4) (fun g => k g uu H4)) (fun g t105_1 H5 => JN (fun (k : Bool → AV → AHeap → Prop) => B3 g (wantV false (some t87)) fun g w => IG3 g w (fun g => B3 g (Op.pick [t90_1, t105_1, (.bool false)]) fun g t106 => k g t106 H5) (fun g => k g uu H5)) (fun g t106_1 H6 => B3 g (Op.pick [t87, (.bool true), t106_1]) fun g t107 => IF3 g t107 (fun g => GO3 g (SEQ3 (W M c (law23_TraceJoined_p 38)) Q) .ret ((6, (.bool false))::E) D H6) (fun g => GO3 g (SEQ3 (W M c (law23_TraceJoined_p 38)) Q) .normal E D H6)))))))) ∧
 (∀ Q E D H, W M c (law23_TraceJoined_p 38) true Q E D H =
  LK true (lk E 0) fun g t0 => LK g (lk E 5) fun g t5 => B3 g ((Op.indexArr 2 1) [t5, (.int .i64 0)]) fun g t110 => B3 g (Op.load1 [t110] H) fun g t111 => LK g (lk E 1) fun g t1 => B3 g ((Op.indexArr 2 1) [t5, (.int .i64 0)]) fun g t115 => B3 g (Op.load1 [t115] H) fun g t116 => C3 M g (.func N_trace_Of) [t0, t111] H fun g t112 H1 => CK3 g (Op.load1 [t115] H1) (some t116) fun g => B32 g ((Op.append T_api_Event 9 72) [.nils, t112] H1) fun g t113 H2 => CK3 g (Op.load1 [t115] H2) (some t116) fun g => C3 M g (.func N_trace_Of) [t1, t116] H2 fun g t117 H3 => B32 g ((Op.append T_api_Event 9 72) [t113, t117] H3) fun g t118 H4 => W M c (law23_TraceJoined_p 42) g Q ((22, t118)::(22, .nils)::E) D H4) ∧
 (∀ Q E D H, W M c (law23_TraceJoined_p 42) true Q E D H =
  LK true (lk E 0) fun g t0 => LK g (lk E 5) fun g t5 => B3 g ((Op.indexArr 2 1) [t5, (.int .i64 1)]) fun g t121 => B3 g (Op.load1 [t121] H) fun g t122 => LK g (lk E 1) fun g t1 => B3 g ((Op.indexArr 2 1) [t5, (.int .i64 1)]) fun g t126 => B3 g (Op.load1 [t126] H) fun g t127 => C3 M g (.func N_trace_Between) [t0, (.int .i64 0), t122] H fun g t123 H1 => CK3 g (Op.load1 [t126] H1) (some t127) fun g => B32 g ((Op.append T_api_Event 9 72) [.nils, t123] H1) fun g t124 H2 => CK3 g (Op.load1 [t126] H2) (some t127) fun g => C3 M g (.func N_trace_Between) [t1, (.int .i64 0), t127] H2 fun g t128 H3 => B32 g ((Op.append T_api_Event 9 72) [t124, t128] H3) fun g t129 H4 => LK g (lk E 7) fun g t7 => JN (fun (k : Bool → AV → AV → AV → AV → AV → AV → AHeap → Prop) => B3 g (wantV true (some t7)) fun g w => IG3 g w (fun g => LK g (lk E 8) fun g t8 => LK g (lk E 5) fun g t5_1 => B3 g ((Op.indexArr 2 1) [t5_1, (.int .i64 0)]) fun g t133 => B3 g (Op.load1 [t133] H4) fun g t134 => C3 M g (.func N_trace_Of) [t8, t134] H4 fun g t135 H5 => LK g (lk E 22) fun g t22 => C3 M g (.func N_ref23_Same) [t135, t22] H5 fun g t137 H6 => k g t137 t22 t135 t134 t133 t8 H6) (fun g => k g uu uu uu uu uu uu H4)) (fun g t137_1 t136_1 t135_1 t134_1 t133_1 t132_1 H7 => B3 g (Op.pick [t7, t137_1, (.bool false)]) fun g t138 => JN (fun (k : Bool → AV → AV → AV → AV → AV → AV → AHeap → Prop) => B3 g (wantV true (some t138)) fun g w => IG3 g w (fun g => LK g (lk E 8) fun g t8_1 => LK g (lk E 5) fun g t5_2 => B3 g ((Op.indexArr 2 1) [t5_2, (.int .i64 1)]) fun g t141 => B3 g (Op.load1 [t141] H7) fun g t142 => C3 M g (.func N_trace_Between) [t8_1, (.int .i64 0), t142] H7 fun g t143 H8 => C3 M g (.func N_ref23_Same) [t143, t129] H8 fun g t145 H9 => k g t145 t129 t143 t142 t141 t8_1 H9) (fun g => k g uu uu uu uu uu uu H7)) (fun g t145_1 t144_1 t143_1 t142_1 t141_1 t140_1 H10 => B3 g (Op.pick [t138, t145_1, (.bool false)]) fun g t146 => GO3 g Q .ret ((6, t146)::(23, t129)::(23, .nils)::E) D H10))) := by (repeat' apply And.intro) <;> (intro _ _ _ _; refine W_unf ?_; kernel_rfl)
theorem law23_TraceJoined_f : (cProg Tryd.prog).func N_law23_TraceJoined = some law23_TraceJoined_F ∧ law23_TraceJoined_F.results = [.tmp 6] := pair_rfl (by kernel_rfl)
theorem law23_TraceJoined_at {M : Mac} [MK M] : M.func N_law23_TraceJoined = some law23_TraceJoined_F := MK.at (by decide) law23_TraceJoined_f.1
theorem law23_TraceJoined_s {M : Mac} [MK M] {a0 a1 a2 : AV} {H : AHeap} {Q : AEnd → AHeap → Prop} (h : W M ⟨none, N_law23_TraceJoined⟩ (law23_TraceJoined_p 0) true (FIN3 M [.tmp 6] Q) [(0, a0), (1, a1), (2, a2)] [] H) : CALLE M N_law23_TraceJoined [a0, a1, a2] H Q :=
  calle law23_TraceJoined_at (ks := law23_TraceJoined_K) (by kernel_rfl) (by rw [law23_TraceJoined_f.2]; exact h)
def ref23_Same_F : AFunc := funcAt Tryd.prog N_ref23_Same
def ref23_Same_K : Kp := ⟨[0, 1, 4, 5], false, [0, 2, 10, 15, 21, 30, 31]⟩
def ref23_Same_p (k : Nat) : Kp × ACode := (ref23_Same_K, part ref23_Same_F.body k)
theorem ref23_Same_w (M : Mac) (c : Ctx) : (∀ Q E D H, W M c (ref23_Same_p 0) true Q E D H =
  W M c (ref23_Same_p 2) true Q ((4, (.bool false))::E) D H) ∧
 (∀ Q E D H, W M c (ref23_Same_p 2) true Q E D H =
  LK true (lk E 0) fun g t0 => B3 g (Op.lenSl [t0]) fun g t7 => LK g (lk E 1) fun g t1 => B3 g (Op.lenSl [t1]) fun g t9 => B3 g ((Op.bin .neq) [t7, t9]) fun g t10 => IF3 g t10 (fun g => GO3 g (SEQ3 (W M c (ref23_Same_p 10)) Q) .ret ((4, (.bool false))::E) D H) (fun g => GO3 g (SEQ3 (W M c (ref23_Same_p 10)) Q) .normal E D H)) ∧
 (∀ Q E D H, W M c (ref23_Same_p 10) true Q E D H =
  LOOP3 (W M c (ref23_Same_p 15)) (BLK3 0 (SEQ3 (W M c (ref23_Same_p 31)) Q)) ((5, (.int .i64 0))::E) D H) ∧
 (∀ Q E D H, W M c (ref23_Same_p 31) true Q E D H =
  GO3 true Q .ret ((4, (.bool true))::E) D H) ∧
 (∀ Q E D H, W M c (ref23_Same_p 15) true Q E D H =
  LK true (lk E 5) fun g t5 => LK g (lk E 0) fun g t0 => B3 g (Op.lenSl [t0]) fun g t13 => B3 g ((Op.bin .lss) [t5, t13]) fun g t14 => IF3 g t14 (fun g => GO3 g (SEQ3 (W M c (ref23_Same_p 21)) Q) .normal E D H) (fun g => GO3 g (SEQ3 (W M c (ref23_Same_p 21)) Q) (.exit 0) E D H)) ∧
 (∀ Q E D H, W M c (ref23_Same_p 21) true Q E D H =
  LK true (lk E 0) fun g t0 => LK g (lk E 5) fun g t5 => B3 g ((Op.indexSl 9) [t0, t5]) fun g t19 => B3 g ((Op.loadN 9) [t19] H) fun g t20 => LK g (lk E 1) fun g t1 => B3 g ((Op.indexSl 9) [t1, t5]) fun g t23 => B3 g ((Op.loadN 9) [t23] H) fun g t24 => B3 g ((Op.eq (.agg (.part 0 none .int (.part 1 none .int (.part 2 none .int (.part 3 none .int (.part 4 none .int (.part 5 none .int (.part 6 none .int (.part 7 none .int (.part 8 none .int .nil)))))))))) true) [t20, t24] H) fun g t25 => IF3 g t25 (fun g => GO3 g (BLK3 1 (SEQ3 (W M c (ref23_Same_p 30)) Q)) .ret ((4, (.bool false))::E) D H) (fun g => GO3 g (BLK3 1 (SEQ3 (W M c (ref23_Same_p 30)) Q)) .normal E D H)) ∧
 (∀ Q E D H, W M c (ref23_Same_p 30) true Q E D H =
  LK true (lk E 5) fun g t5 => B3 g ((Op.bin .add) [t5, (.int .i64 1)]) fun g t16 => GO3 g Q .normal ((5, t16)::E) D H) := by (repeat' apply And.intro) <;> (intro _ _ _ _; refine W_unf ?_; kernel_rfl)
theorem ref23_Same_f : (cProg Tryd.prog).func N_ref23_Same = some ref23_Same_F ∧ ref23_Same_F.results = [.tmp 4] := pair_rfl (by kernel_rfl)
theorem ref23_Same_at {M : Mac} [MK M] : M.func N_ref23_Same = some ref23_Same_F := MK.at (by decide) ref23_Same_f.1
theorem ref23_Same_s {M : Mac} [MK M] {a0 a1 : AV} {H : AHeap} {Q : AEnd → AHeap → Prop} (h : W M ⟨none, N_ref23_Same⟩ (ref23_Same_p 0) true (FIN3 M [.tmp 4] Q) [(0, a0), (1, a1)] [] H) : CALLE M N_ref23_Same [a0, a1] H Q :=
  calle ref23_Same_at (ks := ref23_Same_K) (by kernel_rfl) (by rw [ref23_Same_f.2]; exact h)
def trace_Of_F : AFunc := funcAt Tryd.prog N_trace_Of
def trace_Of_K : Kp := ⟨[0, 1, 3, 4], false, [0]⟩
def trace_Of_p (k : Nat) : Kp × ACode := (trace_Of_K, part trace_Of_F.body k)
theorem trace_Of_w (M : Mac) (c : Ctx) : (∀ Q E D H, W M c (trace_Of_p 0) true Q E D H =
  LK true (lk E 1) fun g t1 => A3 g T_int (AV.cells t1) H fun g t3 H1 => LK g (lk E 0) fun g t0 => B3 g ((Op.mkFunc N_trace_Of_1 0) [t3]) fun g t6 => C3 M g (.func N_trace_sift_api_Event) [t0, t6] H1 fun g t7 H2 => GO3 g Q .ret ((4, t7)::(4, .nils)::(3, t3)::E) D H2) := by intro _ _ _ _; refine W_unf ?_; kernel_rfl
theorem trace_Of_f : (cProg Tryd.prog).func N_trace_Of = some trace_Of_F ∧ trace_Of_F.results = [.tmp 4] := pair_rfl (by kernel_rfl)
theorem trace_Of_at {M : Mac} [MK M] : M.func N_trace_Of = some trace_Of_F := MK.at (by decide) trace_Of_f.1
theorem trace_Of_s {M : Mac} [MK M] {a0 a1 : AV} {H : AHeap} {Q : AEnd → AHeap → Prop} (h : W M ⟨none, N_trace_Of⟩ (trace_Of_p 0) true (FIN3 M [.tmp 4] Q) [(0, a0), (1, a1)] [] H) : CALLE M N_trace_Of [a0, a1] H Q :=
  calle trace_Of_at (ks := trace_Of_K) (by kernel_rfl) (by rw [trace_Of_f.2]; exact h)
def trace_Between_F : AFunc := funcAt Tryd.prog N_trace_Between
def trace_Between_K : Kp := ⟨[0, 1, 2, 4, 5, 6], false, [0]⟩
def trace_Between_p (k : Nat) : Kp × ACode := (trace_Between_K, part trace_Between_F.body k)
theorem trace_Between_w (M : Mac) (c : Ctx) : (∀ Q E D H, W M c (trace_Between_p 0) true Q E D H =
  LK true (lk E 1) fun g t1 => A3 g T_int (AV.cells t1) H fun g t4 H1 => LK g (lk E 2) fun g t2 => A3 g T_int (AV.cells t2) H1 fun g t5 H2 => LK g (lk E 0) fun g t0 => B3 g ((Op.mkFunc N_trace_Between_1 0) [t4, t5]) fun g t8 => C3 M g (.func N_trace_sift_api_Event) [t0, t8] H2 fun g t9 H3 => GO3 g Q .ret ((6, t9)::(6, .nils)::(5, t5)::(4, t4)::E) D H3) := by intro _ _ _ _; refine W_unf ?_; kernel_rfl
theorem trace_Between_f : (cProg Tryd.prog).func N_trace_Between = some trace_Between_F ∧ trace_Between_F.results = [.tmp 6] := pair_rfl (by kernel_rfl)
theorem trace_Between_at {M : Mac} [MK M] : M.func N_trace_Between = some trace_Between_F := MK.at (by decide) trace_Between_f.1
theorem trace_Between_s {M : Mac} [MK M] {a0 a1 a2 : AV} {H : AHeap} {Q : AEnd → AHeap → Prop} (h : W M ⟨none, N_trace_Between⟩ (trace_Between_p 0) true (FIN3 M [.tmp 6] Q) [(0, a0), (1, a1), (2, a2)] [] H) : CALLE M N_trace_Between [a0, a1, a2] H Q :=
  calle trace_Between_at (ks := trace_Between_K) (by kernel_rfl) (by rw [trace_Between_f.2]; exact h)
def trace_sift_api_Event_F : AFunc := funcAt Tryd.prog N_trace_sift_api_Event
def trace_sift_api_Event_K : Kp := ⟨[0, 1, 4, 5, 7, 8, 9, 10], false, [0, 4, 9, 15, 24, 25]⟩
def trace_sift_api_Event_p (k : Nat) : Kp × ACode := (trace_sift_api_Event_K, part trace_sift_api_Event_F.body k)
theorem trace_sift_api_Event_w (M : Mac) (c : Ctx) : (∀ Q E D H, W M c (trace_sift_api_Event_p 0) true Q E D H =
  W M c (trace_sift_api_Event_p 4) true Q ((5, .nils)::(4, .nils)::E) D H) ∧
 (∀ Q E D H, W M c (trace_sift_api_Event_p 4) true Q E D H =
  LK true (lk E 0) fun g t0 => B3 g (Op.lenSl [t0]) fun g t9 => LOOP3 (W M c (trace_sift_api_Event_p 9)) (BLK3 0 (SEQ3 (W M c (trace_sift_api_Event_p 25)) Q)) ((10, (.int .i64 0))::(9, t9)::(8, t0)::E) D H) ∧
 (∀ Q E D H, W M c (trace_sift_api_Event_p 25) true Q E D H =
  LK true (lk E 5) fun g t5 => GO3 g Q .ret ((4, t5)::E) D H) ∧
 (∀ Q E D H, W M c (trace_sift_api_Event_p 9) true Q E D H =
  LK true (lk E 10) fun g t10 => LK g (lk E 9) fun g t9 => B3 g ((Op.bin .lss) [t10, t9]) fun g t11 => IF3 g t11 (fun g => GO3 g (SEQ3 (W M c (trace_sift_api_Event_p 15)) Q) .normal E D H) (fun g => GO3 g (SEQ3 (W M c (trace_sift_api_Event_p 15)) Q) (.exit 0) E D H)) ∧
 (∀ Q E D H, W M c (trace_sift_api_Event_p 15) true Q E D H =
  LK true (lk E 8) fun g t8 => LK g (lk E 10) fun g t10 => B3 g ((Op.indexSl 9) [t8, t10]) fun g t12 => B3 g ((Op.loadN 9) [t12] H) fun g t13 => A3 g T_api_Event [(.int .i64 0), (.int .i64 0), (.int .i64 0), (.int .i64 0), (.int .i64 0), (.int .i64 0), (.int .i64 0), (.int .u64 0), (.int .i64 0)] H fun g t7 H1 => B32 g ((Op.store 9) [t7, t13] H1) fun g u H2 => LK g (lk E 1) fun g t1 => B3 g ((Op.loadN 9) [t7] H2) fun g t15 => V3 g [t1, t15] fun g f vs => C3 M g f vs H2 fun g t16 H3 => IF3 g t16 (fun g => LK g (lk E 5) fun g t5 => B3 g ((Op.loadN 9) [t7] H3) fun g t18 => B32 g ((Op.buildSlice T_api_Event 1 [(.int .i64 0), (.int .i64 0), (.int .i64 0), (.int .i64 0), (.int .i64 0), (.int .i64 0), (.int .i64 0), (.int .u64 0), (.int .i64 0)] [(0, 9)]) [t18]) fun g o4 k4 => B32 g ((Op.append T_api_Event 9 72) [t5, (k4 H3.next)] (H3.alloc o4)) fun g t20 H5 => GO3 g (BLK3 1 (SEQ3 (W M c (trace_sift_api_Event_p 24)) Q)) .normal ((5, t20)::(7, t7)::E) D H5) (fun g => GO3 g (BLK3 1 (SEQ3 (W M c (trace_sift_api_Event_p 24)) Q)) .normal ((7, t7)::E) D H3)) ∧
 (∀ Q E D H, W M c (trace_sift_api_Event_p 24) true Q E D H =
  LK true (lk E 10) fun g t10 => B3 g ((Op.bin .add) [t10, (.int .i64 1)]) fun g t21 => GO3 g Q .normal ((10, t21)::E) D H) := by (repeat' apply And.intro) <;> (intro _ _ _ _; refine W_unf ?_; kernel_rfl)
theorem trace_sift_api_Event_f : (cProg Tryd.prog).func N_trace_sift_api_Event = some trace_sift_api_Event_F ∧ trace_sift_api_Event_F.results = [.tmp 4] := pair_rfl (by kernel_rfl)
theorem trace_sift_api_Event_at {M : Mac} [MK M] : M.func N_trace_sift_api_Event = some trace_sift_api_Event_F := MK.at (by decide) trace_sift_api_Event_f.1
theorem trace_sift_api_Event_s {M : Mac} [MK M] {a0 a1 : AV} {H : AHeap} {Q : AEnd → AHeap → Prop} (h : W M ⟨none, N_trace_sift_api_Event⟩ (trace_sift_api_Event_p 0) true (FIN3 M [.tmp 4] Q) [(0, a0), (1, a1)] [] H) : CALLE M N_trace_sift_api_Event [a0, a1] H Q :=
  calle trace_sift_api_Event_at (ks := trace_sift_api_Event_K) (by kernel_rfl) (by rw [trace_sift_api_Event_f.2]; exact h)
def trace_Of_1_F : AFunc := funcAt Tryd.prog N_trace_Of_1
def trace_Of_1_K : Kp := ⟨[0, 1, 2, 3], false, [0]⟩
def trace_Of_1_p (k : Nat) : Kp × ACode := (trace_Of_1_K, part trace_Of_1_F.body k)
theorem trace_Of_1_w (M : Mac) (c : Ctx) : (∀ Q E D H, W M c (trace_Of_1_p 0) true Q E D H =
  LK true (lk E 0) fun g t0 => A3 g T_api_Event (AV.cells t0) H fun g t2 H1 => B3 g ((Op.fieldAddr 2) [t2]) fun g t4 => B3 g (Op.load1 [t4] H1) fun g t5 => LK g (lk E 1) fun g t1 => B3 g (Op.load1 [t1] H1) fun g t6 => B3 g ((Op.bin .eql) [t5, t6]) fun g t7 => GO3 g Q .ret ((3, t7)::(3, (.bool false))::(2, t2)::E) D H1) := by intro _ _ _ _; refine W_unf ?_; kernel_rfl
theorem trace_Of_1_f : (cProg Tryd.prog).func N_trace_Of_1 = some trace_Of_1_F ∧ trace_Of_1_F.results = [.tmp 3] := pair_rfl (by kernel_rfl)
theorem trace_Of_1_at {M : Mac} [MK M] : M.func N_trace_Of_1 = some trace_Of_1_F := MK.at (by decide) trace_Of_1_f.1
theorem trace_Of_1_s {M : Mac} [MK M] {a0 a1 : AV} {H : AHeap} {Q : AEnd → AHeap → Prop} (h : W M ⟨none, N_trace_Of_1⟩ (trace_Of_1_p 0) true (FIN3 M [.tmp 3] Q) [(0, a0), (1, a1)] [] H) : CALLE M N_trace_Of_1 [a0, a1] H Q :=
  calle trace_Of_1_at (ks := trace_Of_1_K) (by kernel_rfl) (by rw [trace_Of_1_f.2]; exact h)
def trace_Between_1_F : AFunc := funcAt Tryd.prog N_trace_Between_1
def trace_Between_1_K : Kp := ⟨[0, 1, 2, 3, 4], false, [0]⟩
def trace_Between_1_p (k : Nat) : Kp × ACode := (trace_Between_1_K, part trace_Between_1_F.body k)
theorem trace_Between_1_w (M : Mac) (c : Ctx) : (∀ Q E D H, W M c (trace_Between_1_p 0) true Q E D H =
  LK true (lk E 0) fun g t0 => A3 g T_api_Event (AV.cells t0) H fun g t3 H1 => B3 g ((Op.fieldAddr 1) [t3]) fun g t5 => B3 g (Op.load1 [t5] H1) fun g t6 => LK g (lk E 1) fun g t1 => B3 g (Op.load1 [t1] H1) fun g t7 => B3 g ((Op.bin .geq) [t6, t7]) fun g t8 => JN (fun (k : Bool → AV → AV → AV → AV → AHeap → Prop) => B3 g (wantV true (some t8)) fun g w => IG3 g w (fun g => B3 g ((Op.fieldAddr 1) [t3]) fun g t10 => B3 g (Op.load1 [t10] H1) fun g t11 => LK g (lk E 2) fun g t2 => B3 g (Op.load1 [t2] H1) fun g t12 => B3 g ((Op.bin .lss) [t11, t12]) fun g t13 => k g t13 t12 t11 t10 H1) (fun g => k g uu uu uu uu H1)) (fun g t13_1 t12_1 t11_1 t10_1 H2 => B3 g (Op.pick [t8, t13_1, (.bool false)]) fun g t14 => GO3 g Q .ret ((4, t14)::(4, (.bool false))::(3, t3)::E) D H2)) := by intro _ _ _ _; refine W_unf ?_; kernel_rfl
theorem trace_Between_1_f : (cProg Tryd.prog).func N_trace_Between_1 = some trace_Between_1_F ∧ trace_Between_1_F.results = [.tmp 4] := pair_rfl (by kernel_rfl)
theorem trace_Between_1_at {M : Mac} [MK M] : M.func N_trace_Between_1 = some trace_Between_1_F := MK.at (by decide) trace_Between_1_f.1
theorem trace_Between_1_s {M : Mac} [MK M] {a0 a1 a2 : AV} {H : AHeap} {Q : AEnd → AHeap → Prop} (h : W M ⟨none, N_trace_Between_1⟩ (trace_Between_1_p 0) true (FIN3 M [.tmp 4] Q) [(0, a0), (1, a1), (2, a2)] [] H) : CALLE M N_trace_Between_1 [a0, a1, a2] H Q :=
  calle trace_Between_1_at (ks := trace_Between_1_K) (by kernel_rfl) (by rw [trace_Between_1_f.2]; exact h)
end
end Go.Am
namespace Go.Am
set_option linter.unusedVariables false
set_option maxRecDepth 100000
abbrev N_law23_TraceWrites : Nat := 3
abbrev N_law23_twin : Nat := 9
abbrev N_ref23_Encode : Nat := 11
abbrev N_ref23_Get : Nat := 30
abbrev N_ref23_Line : Nat := 35
abbrev N_ref23_May : Nat := 27
abbrev N_ref23_Named : Nat := 29
abbrev N_ref23_Set : Nat := 44
abbrev N_ref23_Text : Nat := 13
abbrev N_ref23_Word : Nat := 58
abbrev N_ref23_Words : Nat := 59
abbrev N_ref23_digits : Nat := 57
abbrev N_ref23_fresh : Nat := 43
abbrev N_ref23_put : Nat := 28
noncomputable section
open Go.Proofs Go.Proofs.YtkfheegmlgfdoaaDoor
def law23_TraceWrites_F : AFunc := funcAt Tryd.prog N_law23_TraceWrites
def law23_TraceWrites_K : Kp := ⟨[0, 2, 3, 4, 5, 6, 7, 8, 9, 10, 11], false, [0, 2, 10, 14, 18]⟩
def law23_TraceWrites_p (k : Nat) : Kp × ACode := (law23_TraceWrites_K, part law23_TraceWrites_F.body k)
theorem law23_TraceWrites_w (M : Mac) (c : Ctx) : (∀ Q E D H, W M c (law23_TraceWrites_p 0) true Q E D H =
  W M c (law23_TraceWrites_p 2) true Q ((2, (.bool false))::E) D H) ∧
 (∀ Q E D H, W M c (law23_TraceWrites_p 2) true Q E D H =
  LK true (lk E 0) fun g t0 => B3 g (Op.lenSl [t0]) fun g t13 => B3 g ((Op.bin .gtr) [t13, (.int .i64 300)]) fun g t14 => IF3 g t14 (fun g => GO3 g (SEQ3 (W M c (law23_TraceWrites_p 10)) Q) .ret ((2, (.bool true))::E) D H) (fun g => GO3 g (SEQ3 (W M c (law23_TraceWrites_p 10)) Q) .normal E D H)) ∧
 (∀ Q E D H, W M c (law23_TraceWrites_p 10) true Q E D H =
  LK true (lk E 0) fun g t0 => C3 M g (.func N_law23_twin) [t0] H fun g t16 H1 => LK g (lk E 0) fun g t0_1 => B3 g (Op.lenSl [t0_1]) fun g t20 => B3 g ((Op.sliceSl 9 [none, (some 0), none]) [t16, t20]) fun g t21 => C3 M g (.func N_trace_Encode) [t21] H1 fun g t22 H2 => B3 g ((Op.extract 0) [t22]) fun g t23 => B3 g ((Op.extract 1) [t22]) fun g t24 => W M c (law23_TraceWrites_p 14) g Q ((5, t24)::(4, t23)::(3, t16)::E) D H2) ∧
 (∀ Q E D H, W M c (law23_TraceWrites_p 14) true Q E D H =
  LK true (lk E 0) fun g t0 => C3 M g (.func N_ref23_Encode) [t0] H fun g t27 H1 => B3 g ((Op.extract 0) [t27]) fun g t28 => B3 g ((Op.extract 1) [t27]) fun g t29 => LK g (lk E 3) fun g t3 => LK g (lk E 0) fun g t0_1 => B3 g (Op.lenSl [t0_1]) fun g t33 => B3 g ((Op.sliceSl 9 [none, (some 0), none]) [t3, t33]) fun g t34 => C3 M g (.func N_trace_Text) [t34] H1 fun g t35 H2 => B3 g ((Op.extract 0) [t35]) fun g t36 => B3 g ((Op.extract 1) [t35]) fun g t37 => W M c (law23_TraceWrites_p 18) g Q ((9, t37)::(8, t36)::(7, t29)::(6, t28)::E) D H2) ∧
 (∀ Q E D H, W M c (law23_TraceWrites_p 18) true Q E D H =
  LK true (lk E 0) fun g t0 => C3 M g (.func N_ref23_Text) [t0] H fun g t40 H1 => B3 g ((Op.extract 0) [t40]) fun g t41 => B3 g ((Op.extract 1) [t40]) fun g t42 => LK g (lk E 5) fun g t5 => LK g (lk E 7) fun g t7 => B3 g ((Op.bin .eql) [t5, t7]) fun g t45 => JN (fun (k : Bool → AV → AV → AV → AV → AV → AHeap → Prop) => B3 g (wantV true (some t45)) fun g w => IG3 g w (fun g => LK g (lk E 4) fun g t4 => B3 g (Op.strOfBytes [t4] H1) fun g t48 => LK g (lk E 6) fun g t6 => B3 g (Op.strOfBytes [t6] H1) fun g t50 => B3 g ((Op.bin .eql) [t48, t50]) fun g t51 => k g t51 t50 t6 t48 t4 H1) (fun g => k g uu uu uu uu uu H1)) (fun g t51_1 t50_1 t49_1 t48_1 t47_1 H2 => B3 g (Op.pick [t45, t51_1, (.bool false)]) fun g t52 => JN (fun (k : Bool → AV → AV → AV → AHeap → Prop) => B3 g (wantV true (some t52)) fun g w => IG3 g w (fun g => LK g (lk E 9) fun g t9 => B3 g ((Op.bin .eql) [t9, t42]) fun g t56 => k g t56 t42 t9 H2) (fun g => k g uu uu uu H2)) (fun g t56_1 t55_1 t54_1 H3 => B3 g (Op.pick [t52, t56_1, (.bool false)]) fun g t57 => JN (fun (k : Bool → AV → AV → AV → AHeap → Prop) => B3 g (wantV true (some t57)) fun g w => IG3 g w (fun g => LK g (lk E 8) fun g t8 => B3 g ((Op.bin .eql) [t8, t41]) fun g t61 => k g t61 t41 t8 H3) (fun g => k g uu uu uu H3)) (fun g t61_1 t60_1 t59_1 H4 => B3 g (Op.pick [t57, t61_1, (.bool false)]) fun g t62 => JN (fun (k : Bool → AV → AV → AV → AV → AV → AV → AHeap → Prop) => B3 g (wantV true (some t62)) fun g w => IG3 g w (fun g => LK g (lk E 3) fun g t3 => LK g (lk E 0) fun g t0_1 => B3 g (Op.lenSl [t0_1]) fun g t66 => B3 g ((Op.sliceSl 9 [none, (some 0), none]) [t3, t66]) fun g t67 => C3 M g (.func N_ref23_Same) [t67, t0_1] H4 fun g t69 H5 => k g t69 t0_1 t67 t66 t0_1 t3 H5) (fun g => k g uu uu uu uu uu uu H4)) (fun g t69_1 t68_1 t67_1 t66_1 t65_1 t64_1 H6 => B3 g (Op.pick [t62, t69_1, (.bool false)]) fun g t70 => JN (fun (k : Bool → AV → AV → AV → AV → AV → AV → AV → AHeap → Prop) => B3 g (wantV true (some t70)) fun g w => IG3 g w (fun g => LK g (lk E 3) fun g t3_1 => LK g (lk E 0) fun g t0_2 => B3 g (Op.lenSl [t0_2]) fun g t74 => B3 g ((Op.indexSl 9) [t3_1, t74]) fun g t75 => B3 g ((Op.fieldAddr 0) [t75]) fun g t76 => B3 g (Op.load1 [t76] H6) fun g t77 => B3 g ((Op.bin .eql) [t77, (.int .i64 77)]) fun g t78 => k g t78 t77 t76 t75 t74 t0_2 t3_1 H6) (fun g => k g uu uu uu uu uu uu uu H6)) (fun g t78_1 t77_1 t76_1 t75_1 t74_1 t73_1 t72_1 H7 => B3 g (Op.pick [t70, t78_1, (.bool false)]) fun g t79 => GO3 g Q .ret ((2, t79)::(11, t42)::(10, t41)::E) D H7)))))) := by (repeat' apply And.intro) <;> (intro _ _ _ _; refine W_unf ?_; kernel_rfl)
theorem law23_TraceWrites_f : (cProg Tryd.prog).func N_law23_TraceWrites = some law23_TraceWrites_F ∧ law23_TraceWrites_F.results = [.tmp 2] := pair_rfl (by kernel_rfl)
theorem law23_TraceWrites_at {M : Mac} [MK M] : M.func N_law23_TraceWrites = some law23_TraceWrites_F := MK.at (by decide) law23_TraceWrites_f.1
theorem law23_TraceWrites_s {M : Mac} [MK M] {a0 : AV} {H : AHeap} {Q : AEnd → AHeap → Prop} (h : W M ⟨none, N_law23_TraceWrites⟩ (law23_TraceWrites_p 0) true (FIN3 M [.tmp 2] Q) [(0, a0)] [] H) : CALLE M N_law23_TraceWrites [a0] H Q :=
  calle law23_TraceWrites_at (ks := law23_TraceWrites_K) (by kernel_rfl) (by rw [law23_TraceWrites_f.2]; exact h)
def law23_twin_F : AFunc := funcAt Tryd.prog N_law23_twin
def law23_twin_K : Kp := ⟨[0, 2, 3], false, [0]⟩
def law23_twin_p (k : Nat) : Kp × ACode := (law23_twin_K, part law23_twin_F.body k)
theorem law23_twin_w (M : Mac) (c : Ctx) : (∀ Q E D H, W M c (law23_twin_p 0) true Q E D H =
  LK true (lk E 0) fun g t0 => B32 g ((Op.append T_api_Event 9 72) [.nils, t0] H) fun g t6 H1 => B3 g ((Op.build [(.int .i64 0), (.int .i64 0), (.int .i64 0), (.int .i64 0), (.int .i64 0), (.int .i64 0), (.int .i64 0), (.int .u64 0), (.int .i64 0)] [(0, 1)]) [(.int .i64 77)]) fun g t7 => B32 g ((Op.buildSlice T_api_Event 1 [(.int .i64 0), (.int .i64 0), (.int .i64 0), (.int .i64 0), (.int .i64 0), (.int .i64 0), (.int .i64 0), (.int .u64 0), (.int .i64 0)] [(0, 9)]) [t7]) fun g o2 k2 => B32 g ((Op.append T_api_Event 9 72) [t6, (k2 H1.next)] (H1.alloc o2)) fun g t9 H3 => GO3 g Q .ret ((2, t9)::(3, t9)::(3, .nils)::(2, .nils)::E) D H3) := by intro _ _ _ _; refine W_unf ?_; kernel_rfl
theorem law23_twin_f : (cProg Tryd.prog).func N_law23_twin = some law23_twin_F ∧ law23_twin_F.results = [.tmp 2] := pair_rfl (by kernel_rfl)
theorem law23_twin_at {M : Mac} [MK M] : M.func N_law23_twin = some law23_twin_F := MK.at (by decide) law23_twin_f.1
theorem law23_twin_s {M : Mac} [MK M] {a0 : AV} {H : AHeap} {Q : AEnd → AHeap → Prop} (h : W M ⟨none, N_law23_twin⟩ (law23_twin_p 0) true (FIN3 M [.tmp 2] Q) [(0, a0)] [] H) : CALLE M N_law23_twin [a0] H Q :=
  calle law23_twin_at (ks := law23_twin_K) (by kernel_rfl) (by rw [law23_twin_f.2]; exact h)
def ref23_Encode_F : AFunc := funcAt Tryd.prog N_ref23_Encode
def ref23_Encode_K : Kp := ⟨[0, 2, 3, 4, 5, 6, 7, 8, 9], false, [0, 4, 9, 15, 19, 27, 31, 35, 39, 45, 50, 51, 52]⟩
def ref23_Encode_p (k : Nat) : Kp × ACode := (ref23_Encode_K, part ref23_Encode_F.body k)
theorem ref23_Encode_w (M : Mac) (c : Ctx) : (∀ Q E D H, W M c (ref23_Encode_p 0) true Q E D H =
  W M c (ref23_Encode_p 4) true Q ((4, .nils)::(3, (.int .i64 0))::(2, .nils)::E) D H) ∧
 (∀ Q E D H, W M c (ref23_Encode_p 4) true Q E D H =
  LOOP3 (W M c (ref23_Encode_p 9)) (BLK3 0 (SEQ3 (W M c (ref23_Encode_p 52)) Q)) ((5, (.int .i64 0))::E) D H) ∧
 (∀ Q E D H, W M c (ref23_Encode_p 52) true Q E D H =
  LK true (lk E 4) fun g t4 => GO3 g Q .ret ((3, (.int .i64 0))::(2, t4)::E) D H) ∧
 (∀ Q E D H, W M c (ref23_Encode_p 9) true Q E D H =
  LK true (lk E 5) fun g t5 => LK g (lk E 0) fun g t0 => B3 g (Op.lenSl [t0]) fun g t13 => B3 g ((Op.bin .lss) [t5, t13]) fun g t14 => IF3 g t14 (fun g => GO3 g (SEQ3 (W M c (ref23_Encode_p 15)) Q) .normal E D H) (fun g => GO3 g (SEQ3 (W M c (ref23_Encode_p 15)) Q) (.exit 0) E D H)) ∧
 (∀ Q E D H, W M c (ref23_Encode_p 15) true Q E D H =
  LK true (lk E 0) fun g t0 => LK g (lk E 5) fun g t5 => B3 g ((Op.indexSl 9) [t0, t5]) fun g t19 => B3 g ((Op.loadN 9) [t19] H) fun g t20 => C3 M g (.func N_ref23_May) [t20] H fun g t21 H1 => W M c (ref23_Encode_p 19) g (BLK3 1 (SEQ3 (W M c (ref23_Encode_p 51)) Q)) ((6, t21)::E) D H1) ∧
 (∀ Q E D H, W M c (ref23_Encode_p 51) true Q E D H =
  LK true (lk E 5) fun g t5 => B3 g ((Op.bin .add) [t5, (.int .i64 1)]) fun g t16 => GO3 g Q .normal ((5, t16)::E) D H) ∧
 (∀ Q E D H, W M c (ref23_Encode_p 19) true Q E D H =
  LK true (lk E 6) fun g t6 => B3 g ((Op.un .not) [t6]) fun g t23 => IF3 g t23 (fun g => GO3 g (SEQ3 (W M c (ref23_Encode_p 27)) Q) .ret ((3, (.int .i64 2))::(2, .nils)::E) D H) (fun g => GO3 g (SEQ3 (W M c (ref23_Encode_p 27)) Q) .normal E D H)) ∧
 (∀ Q E D H, W M c (ref23_Encode_p 27) true Q E D H =
  LK true (lk E 4) fun g t4 => LK g (lk E 0) fun g t0 => LK g (lk E 5) fun g t5 => B3 g ((Op.indexSl 9) [t0, t5]) fun g t27 => B3 g ((Op.fieldAddr 0) [t27]) fun g t28 => B3 g (Op.load1 [t28] H) fun g t29 => B3 g ((Op.wrap .u8) [t29]) fun g t30 => B32 g ((Op.buildSlice T_uint8 1 [(.int .u8 0)] [(0, 1)]) [t30]) fun g o1 k1 => B32 g ((Op.append T_uint8 1 1) [t4, (k1 H.next)] (H.alloc o1)) fun g t32 H2 => LK g (lk E 0) fun g t0_1 => LK g (lk E 5) fun g t5_1 => B3 g ((Op.indexSl 9) [t0_1, t5_1]) fun g t36 => B3 g ((Op.fieldAddr 2) [t36]) fun g t37 => B3 g (Op.load1 [t37] H2) fun g t38 => B3 g ((Op.wrap .u64) [t38]) fun g t39 => C3 M g (.func N_ref23_put) [t32, t39] H2 fun g t40 H3 => W M c (ref23_Encode_p 31) g Q ((4, t40)::(4, t32)::E) D H3) ∧
 (∀ Q E D H, W M c (ref23_Encode_p 31) true Q E D H =
  LK true (lk E 4) fun g t4 => LK g (lk E 0) fun g t0 => LK g (lk E 5) fun g t5 => B3 g ((Op.indexSl 9) [t0, t5]) fun g t44 => B3 g ((Op.fieldAddr 1) [t44]) fun g t45 => B3 g (Op.load1 [t45] H) fun g t46 => B3 g ((Op.wrap .u64) [t46]) fun g t47 => C3 M g (.func N_ref23_put) [t4, t47] H fun g t48 H1 => LK g (lk E 0) fun g t0_1 => LK g (lk E 5) fun g t5_1 => B3 g ((Op.indexSl 9) [t0_1, t5_1]) fun g t51 => B3 g ((Op.fieldAddr 0) [t51]) fun g t52 => B3 g (Op.load1 [t52] H1) fun g t53 => C3 M g (.func N_ref23_Named) [t53] H1 fun g t54 H2 => W M c (ref23_Encode_p 35) g Q ((7, t54)::(4, t48)::E) D H2) ∧
 (∀ Q E D H, W M c (ref23_Encode_p 35) true Q E D H =
  LOOP3 (W M c (ref23_Encode_p 39)) (BLK3 2 Q) ((8, (.int .i64 0))::E) D H) ∧
 (∀ Q E D H, W M c (ref23_Encode_p 39) true Q E D H =
  LK true (lk E 8) fun g t8 => LK g (lk E 7) fun g t7 => B3 g (Op.lenStr [t7]) fun g t57 => B3 g ((Op.bin .lss) [t8, t57]) fun g t58 => IF3 g t58 (fun g => GO3 g (SEQ3 (W M c (ref23_Encode_p 45)) Q) .normal E D H) (fun g => GO3 g (SEQ3 (W M c (ref23_Encode_p 45)) Q) (.exit 2) E D H)) ∧
 (∀ Q E D H, W M c (ref23_Encode_p 45) true Q E D H =
  LK true (lk E 0) fun g t0 => LK g (lk E 5) fun g t5 => B3 g ((Op.indexSl 9) [t0, t5]) fun g t64 => B3 g ((Op.loadN 9) [t64] H) fun g t65 => LK g (lk E 7) fun g t7 => LK g (lk E 8) fun g t8 => B3 g (Op.indexStr [t7, t8]) fun g t68 => C3 M g (.func N_ref23_Get) [t65, t68] H fun g t69 H1 => B3 g ((Op.extract 0) [t69]) fun g t70 => B3 g ((Op.extract 1) [t69]) fun g t71 => LK g (lk E 4) fun g t4 => C3 M g (.func N_ref23_put) [t4, t70] H1 fun g t74 H2 => GO3 g (BLK3 3 (SEQ3 (W M c (ref23_Encode_p 50)) Q)) .normal ((4, t74)::(9, t70)::E) D H2) ∧
 (∀ Q E D H, W M c (ref23_Encode_p 50) true Q E D H =
  LK true (lk E 8) fun g t8 => B3 g ((Op.bin .add) [t8, (.int .i64 1)]) fun g t60 => GO3 g Q .normal ((8, t60)::E) D H) := by (repeat' apply And.intro) <;> (intro _ _ _ _; refine W_unf ?_; kernel_rfl)
theorem ref23_Encode_f : (cProg Tryd.prog).func N_ref23_Encode = some ref23_Encode_F ∧ ref23_Encode_F.results = [.tmp 2, .tmp 3] := pair_rfl (by kernel_rfl)
theorem ref23_Encode_at {M : Mac} [MK M] : M.func N_ref23_Encode = some ref23_Encode_F := MK.at (by decide) ref23_Encode_f.1
theorem ref23_Encode_s {M : Mac} [MK M] {a0 : AV} {H : AHeap} {Q : AEnd → AHeap → Prop} (h : W M ⟨none, N_ref23_Encode⟩ (ref23_Encode_p 0) true (FIN3 M [.tmp 2, .tmp 3] Q) [(0, a0)] [] H) : CALLE M N_ref23_Encode [a0] H Q :=
  calle ref23_Encode_at (ks := ref23_Encode_K) (by kernel_rfl) (by rw [ref23_Encode_f.2]; exact h)
def ref23_Text_F : AFunc := funcAt Tryd.prog N_ref23_Text
def ref23_Text_K : Kp := ⟨[0, 2, 3, 4, 5, 6, 7], false, [0, 4, 9, 15, 19, 27, 30, 31]⟩
def ref23_Text_p (k : Nat) : Kp × ACode := (ref23_Text_K, part ref23_Text_F.body k)
theorem ref23_Text_w (M : Mac) (c : Ctx) : (∀ Q E D H, W M c (ref23_Text_p 0) true Q E D H =
  W M c (ref23_Text_p 4) true Q ((4, (.str []))::(3, (.int .i64 0))::(2, (.str []))::E) D H) ∧
 (∀ Q E D H, W M c (ref23_Text_p 4) true Q E D H =
  LOOP3 (W M c (ref23_Text_p 9)) (BLK3 0 (SEQ3 (W M c (ref23_Text_p 31)) Q)) ((5, (.int .i64 0))::E) D H) ∧
 (∀ Q E D H, W M c (ref23_Text_p 31) true Q E D H =
  LK true (lk E 4) fun g t4 => GO3 g Q .ret ((3, (.int .i64 0))::(2, t4)::E) D H) ∧
 (∀ Q E D H, W M c (ref23_Text_p 9) true Q E D H =
  LK true (lk E 5) fun g t5 => LK g (lk E 0) fun g t0 => B3 g (Op.lenSl [t0]) fun g t10 => B3 g ((Op.bin .lss) [t5, t10]) fun g t11 => IF3 g t11 (fun g => GO3 g (SEQ3 (W M c (ref23_Text_p 15)) Q) .normal E D H) (fun g => GO3 g (SEQ3 (W M c (ref23_Text_p 15)) Q) (.exit 0) E D H)) ∧
 (∀ Q E D H, W M c (ref23_Text_p 15) true Q E D H =
  LK true (lk E 0) fun g t0 => LK g (lk E 5) fun g t5 => B3 g ((Op.indexSl 9) [t0, t5]) fun g t16 => B3 g ((Op.loadN 9) [t16] H) fun g t17 => C3 M g (.func N_ref23_May) [t17] H fun g t18 H1 => W M c (ref23_Text_p 19) g (BLK3 1 (SEQ3 (W M c (ref23_Text_p 30)) Q)) ((6, t18)::E) D H1) ∧
 (∀ Q E D H, W M c (ref23_Text_p 30) true Q E D H =
  LK true (lk E 5) fun g t5 => B3 g ((Op.bin .add) [t5, (.int .i64 1)]) fun g t13 => GO3 g Q .normal ((5, t13)::E) D H) ∧
 (∀ Q E D H, W M c (ref23_Text_p 19) true Q E D H =
  LK true (lk E 6) fun g t6 => B3 g ((Op.un .not) [t6]) fun g t20 => IF3 g t20 (fun g => GO3 g (SEQ3 (W M c (ref23_Text_p 27)) Q) .ret ((3, (.int .i64 2))::(2, (.str []))::E) D H) (fun g => GO3 g (SEQ3 (W M c (ref23_Text_p 27)) Q) .normal E D H)) ∧
 (∀ Q E D H, W M c (ref23_Text_p 27) true Q E D H =
  LK true (lk E 0) fun g t0 => LK g (lk E 5) fun g t5 => B3 g ((Op.indexSl 9) [t0, t5]) fun g t23 => B3 g ((Op.loadN 9) [t23] H) fun g t24 => C3 M g (.func N_ref23_Line) [t24] H fun g t25 H1 => LK g (lk E 4) fun g t4 => B3 g ((Op.bin .add) [t4, t25]) fun g t28 => B3 g ((Op.bin .add) [t28, (.str [10])]) fun g t29 => GO3 g Q .normal ((4, t29)::(7, t25)::E) D H1) := by (repeat' apply And.intro) <;> (intro _ _ _ _; refine W_unf ?_; kernel_rfl)
theorem ref23_Text_f : (cProg Tryd.prog).func N_ref23_Text = some ref23_Text_F ∧ ref23_Text_F.results = [.tmp 2, .tmp 3] := pair_rfl (by kernel_rfl)
theorem ref23_Text_at {M : Mac} [MK M] : M.func N_ref23_Text = some ref23_Text_F := MK.at (by decide) ref23_Text_f.1
theorem ref23_Text_s {M : Mac} [MK M] {a0 : AV} {H : AHeap} {Q : AEnd → AHeap → Prop} (h : W M ⟨none, N_ref23_Text⟩ (ref23_Text_p 0) true (FIN3 M [.tmp 2, .tmp 3] Q) [(0, a0)] [] H) : CALLE M N_ref23_Text [a0] H Q :=
  calle ref23_Text_at (ks := ref23_Text_K) (by kernel_rfl) (by rw [ref23_Text_f.2]; exact h)
def ref23_May_F : AFunc := funcAt Tryd.prog N_ref23_May
def ref23_May_K : Kp := ⟨[0, 1, 2, 3, 4, 5, 6, 7, 8, 9], false, [0, 2, 10, 14, 19, 25, 31, 39, 40, 41]⟩
def ref23_May_p (k : Nat) : Kp × ACode := (ref23_May_K, part ref23_May_F.body k)
theorem ref23_May_w (M : Mac) (c : Ctx) : (∀ Q E D H, W M c (ref23_May_p 0) true Q E D H =
  LK true (lk E 0) fun g t0 => A3 g T_api_Event (AV.cells t0) H fun g t1 H1 => W M c (ref23_May_p 2) g Q ((2, (.bool false))::(1, t1)::E) D H1) ∧
 (∀ Q E D H, W M c (ref23_May_p 2) true Q E D H =
  LK true (lk E 1) fun g t1 => B3 g ((Op.fieldAddr 0) [t1]) fun g t10 => B3 g (Op.load1 [t10] H) fun g t11 => B3 g ((Op.bin .lss) [t11, (.int .i64 1)]) fun g t12 => JN (fun (k : Bool → AV → AV → AV → AHeap → Prop) => B3 g (wantV false (some t12)) fun g w => IG3 g w (fun g => B3 g ((Op.fieldAddr 0) [t1]) fun g t14 => B3 g (Op.load1 [t14] H) fun g t15 => B3 g ((Op.bin .gtr) [t15, (.int .i64 8)]) fun g t16 => k g t16 t15 t14 H) (fun g => k g uu uu uu H)) (fun g t16_1 t15_1 t14_1 H1 => B3 g (Op.pick [t12, (.bool true), t16_1]) fun g t17 => JN (fun (k : Bool → AV → AV → AV → AHeap → Prop) => B3 g (wantV false (some t17)) fun g w => IG3 g w (fun g => B3 g ((Op.fieldAddr 2) [t1]) fun g t19 => B3 g (Op.load1 [t19] H1) fun g t20 => B3 g ((Op.bin .lss) [t20, (.int .i64 0)]) fun g t21 => k g t21 t20 t19 H1) (fun g => k g uu uu uu H1)) (fun g t21_1 t20_1 t19_1 H2 => B3 g (Op.pick [t17, (.bool true), t21_1]) fun g t22 => JN (fun (k : Bool → AV → AV → AV → AHeap → Prop) => B3 g (wantV false (some t22)) fun g w => IG3 g w (fun g => B3 g ((Op.fieldAddr 2) [t1]) fun g t24 => B3 g (Op.load1 [t24] H2) fun g t25 => B3 g ((Op.bin .geq) [t25, (.int .i64 4)]) fun g t26 => k g t26 t25 t24 H2) (fun g => k g uu uu uu H2)) (fun g t26_1 t25_1 t24_1 H3 => B3 g (Op.pick [t22, (.bool true), t26_1]) fun g t27 => JN (fun (k : Bool → AV → AV → AV → AHeap → Prop) => B3 g (wantV false (some t27)) fun g w => IG3 g w (fun g => B3 g ((Op.fieldAddr 1) [t1]) fun g t29 => B3 g (Op.load1 [t29] H3) fun g t30 => B3 g ((Op.bin .lss) [t30, (.int .i64 0)]) fun g t31 => k g t31 t30 t29 H3) (fun g => k g uu uu uu H3)) (fun g t31_1 t30_1 t29_1 H4 => B3 g (Op.pick [t27, (.bool true), t31_1]) fun g t32 => IF3 g t32 (fun g => GO3 g (SEQ3 (W M c (ref23_May_p 10)) Q) .ret ((2, (.bool false))::E) D H4) (fun g => GO3 g (SEQ3 (W M c (ref23_May_p 10)) Q) .normal E D H4)))))) ∧
 (∀ Q E D H, W M c (ref23_May_p 10) true Q E D H =
  LK true (lk E 1) fun g t1 => B3 g ((Op.fieldAddr 0) [t1]) fun g t33 => B3 g (Op.load1 [t33] H) fun g t34 => B3 g ((Op.fieldAddr 2) [t1]) fun g t35 => B3 g (Op.load1 [t35] H) fun g t36 => B3 g ((Op.fieldAddr 1) [t1]) fun g t37 => B3 g (Op.load1 [t37] H) fun g t38 => C3 M g (.func N_ref23_fresh) [t34, t36, t38] H fun g t39 H1 => A3 g T_api_Event [(.int .i64 0), (.int .i64 0), (.int .i64 0), (.int .i64 0), (.int .i64 0), (.int .i64 0), (.int .i64 0), (.int .u64 0), (.int .i64 0)] H1 fun g t3 H2 => B32 g ((Op.store 9) [t3, t39] H2) fun g u H3 => LK g (lk E 1) fun g t1_1 => B3 g ((Op.fieldAddr 0) [t1_1]) fun g t40 => B3 g (Op.load1 [t40] H3) fun g t41 => C3 M g (.func N_ref23_Named) [t41] H3 fun g t42 H4 => W M c (ref23_May_p 14) g Q ((4, t42)::(3, t3)::E) D H4) ∧
 (∀ Q E D H, W M c (ref23_May_p 14) true Q E D H =
  LOOP3 (W M c (ref23_May_p 19)) (BLK3 0 (SEQ3 (W M c (ref23_May_p 41)) Q)) ((5, (.int .i64 0))::E) D H) ∧
 (∀ Q E D H, W M c (ref23_May_p 41) true Q E D H =
  LK true (lk E 1) fun g t1 => B3 g ((Op.loadN 9) [t1] H) fun g t73 => LK g (lk E 3) fun g t3 => B3 g ((Op.loadN 9) [t3] H) fun g t74 => B3 g ((Op.eq (.agg (.part 0 none .int (.part 1 none .int (.part 2 none .int (.part 3 none .int (.part 4 none .int (.part 5 none .int (.part 6 none .int (.part 7 none .int (.part 8 none .int .nil)))))))))) false) [t73, t74] H) fun g t75 => GO3 g Q .ret ((2, t75)::E) D H) ∧
 (∀ Q E D H, W M c (ref23_May_p 19) true Q E D H =
  LK true (lk E 5) fun g t5 => LK g (lk E 4) fun g t4 => B3 g (Op.lenStr [t4]) fun g t45 => B3 g ((Op.bin .lss) [t5, t45]) fun g t46 => IF3 g t46 (fun g => GO3 g (SEQ3 (W M c (ref23_May_p 25)) Q) .normal E D H) (fun g => GO3 g (SEQ3 (W M c (ref23_May_p 25)) Q) (.exit 0) E D H)) ∧
 (∀ Q E D H, W M c (ref23_May_p 25) true Q E D H =
  LK true (lk E 1) fun g t1 => B3 g ((Op.loadN 9) [t1] H) fun g t50 => LK g (lk E 4) fun g t4 => LK g (lk E 5) fun g t5 => B3 g (Op.indexStr [t4, t5]) fun g t53 => C3 M g (.func N_ref23_Get) [t50, t53] H fun g t54 H1 => B3 g ((Op.extract 0) [t54]) fun g t55 => B3 g ((Op.extract 1) [t54]) fun g t56 => LK g (lk E 3) fun g t3 => B3 g ((Op.loadN 9) [t3] H1) fun g t58 => LK g (lk E 4) fun g t4_1 => LK g (lk E 5) fun g t5_1 => B3 g (Op.indexStr [t4_1, t5_1]) fun g t61 => C3 M g (.func N_ref23_Set) [t58, t61, t55] H1 fun g t63 H2 => B3 g ((Op.extract 0) [t63]) fun g t64 => B3 g ((Op.extract 1) [t63]) fun g t65 => A3 g T_api_Event [(.int .i64 0), (.int .i64 0), (.int .i64 0), (.int .i64 0), (.int .i64 0), (.int .i64 0), (.int .i64 0), (.int .u64 0), (.int .i64 0)] H2 fun g t8 H3 => B32 g ((Op.store 9) [t8, t64] H3) fun g u H4 => W M c (ref23_May_p 31) g (BLK3 1 (SEQ3 (W M c (ref23_May_p 40)) Q)) ((9, t65)::(8, t8)::(7, t56)::(6, t55)::E) D H4) ∧
 (∀ Q E D H, W M c (ref23_May_p 40) true Q E D H =
  LK true (lk E 5) fun g t5 => B3 g ((Op.bin .add) [t5, (.int .i64 1)]) fun g t48 => GO3 g Q .normal ((5, t48)::E) D H) ∧
 (∀ Q E D H, W M c (ref23_May_p 31) true Q E D H =
  LK true (lk E 7) fun g t7 => B3 g ((Op.un .not) [t7]) fun g t67 => JN (fun (k : Bool → AV → AV → AHeap → Prop) => B3 g (wantV false (some t67)) fun g w => IG3 g w (fun g => LK g (lk E 9) fun g t9 => B3 g ((Op.un .not) [t9]) fun g t70 => k g t70 t9 H) (fun g => k g uu uu H)) (fun g t70_1 t69_1 H1 => B3 g (Op.pick [t67, (.bool true), t70_1]) fun g t71 => IF3 g t71 (fun g => GO3 g (SEQ3 (W M c (ref23_May_p 39)) Q) .ret ((2, (.bool false))::E) D H1) (fun g => GO3 g (SEQ3 (W M c (ref23_May_p 39)) Q) .normal E D H1))) ∧
 (∀ Q E D H, W M c (ref23_May_p 39) true Q E D H =
  LK true (lk E 8) fun g t8 => B3 g ((Op.loadN 9) [t8] H) fun g t72 => LK g (lk E 3) fun g t3 => B32 g ((Op.store 9) [t3, t72] H) fun g u H1 => GO3 g Q .normal E D H1) := by (repeat' apply And.intro) <;> (intro _ _ _ _; refine W_unf ?_; kernel_rfl)
theorem ref23_May_f : (cProg Tryd.prog).func N_ref23_May = some ref23_May_F ∧ ref23_May_F.results = [.tmp 2] := pair_rfl (by kernel_rfl)
theorem ref23_May_at {M : Mac} [MK M] : M.func N_ref23_May = some ref23_May_F := MK.at (by decide) ref23_May_f.1
theorem ref23_May_s {M : Mac} [MK M] {a0 : AV} {H : AHeap} {Q : AEnd → AHeap → Prop} (h : W M ⟨none, N_ref23_May⟩ (ref23_May_p 0) true (FIN3 M [.tmp 2] Q) [(0, a0)] [] H) : CALLE M N_ref23_May [a0] H Q :=
  calle ref23_May_at (ks := ref23_May_K) (by kernel_rfl) (by rw [ref23_May_f.2]; exact h)
def ref23_put_F : AFunc := funcAt Tryd.prog N_ref23_put
def ref23_put_K : Kp := ⟨[0, 1, 4, 5], false, [0, 2, 7, 13, 18, 19]⟩
def ref23_put_p (k : Nat) : Kp × ACode := (ref23_put_K, part ref23_put_F.body k)
theorem ref23_put_w (M : Mac) (c : Ctx) : (∀ Q E D H, W M c (ref23_put_p 0) true Q E D H =
  W M c (ref23_put_p 2) true Q ((4, .nils)::E) D H) ∧
 (∀ Q E D H, W M c (ref23_put_p 2) true Q E D H =
  LOOP3 (W M c (ref23_put_p 7)) (BLK3 0 (SEQ3 (W M c (ref23_put_p 19)) Q)) ((5, (.int .i64 0))::E) D H) ∧
 (∀ Q E D H, W M c (ref23_put_p 19) true Q E D H =
  LK true (lk E 0) fun g t0 => LK g (lk E 1) fun g t1 => B3 g ((Op.wrap .u8) [t1]) fun g t25 => B32 g ((Op.buildSlice T_uint8 1 [(.int .u8 0)] [(0, 1)]) [t25]) fun g o1 k1 => B32 g ((Op.append T_uint8 1 1) [t0, (k1 H.next)] (H.alloc o1)) fun g t27 H2 => GO3 g Q .ret ((4, t27)::E) D H2) ∧
 (∀ Q E D H, W M c (ref23_put_p 7) true Q E D H =
  LK true (lk E 5) fun g t5 => B3 g ((Op.bin .lss) [t5, (.int .i64 10)]) fun g t7 => JN (fun (k : Bool → AV → AV → AHeap → Prop) => B3 g (wantV true (some t7)) fun g w => IG3 g w (fun g => LK g (lk E 1) fun g t1 => B3 g ((Op.bin .geq) [t1, (.int .u64 128)]) fun g t10 => k g t10 t1 H) (fun g => k g uu uu H)) (fun g t10_1 t9_1 H1 => B3 g (Op.pick [t7, t10_1, (.bool false)]) fun g t11 => IF3 g t11 (fun g => GO3 g (SEQ3 (W M c (ref23_put_p 13)) Q) .normal E D H1) (fun g => GO3 g (SEQ3 (W M c (ref23_put_p 13)) Q) (.exit 0) E D H1))) ∧
 (∀ Q E D H, W M c (ref23_put_p 13) true Q E D H =
  LK true (lk E 0) fun g t0 => LK g (lk E 1) fun g t1 => B3 g ((Op.bin .rem) [t1, (.int .u64 128)]) fun g t16 => B3 g ((Op.wrap .u8) [t16]) fun g t17 => B3 g ((Op.bin .add) [t17, (.int .u8 128)]) fun g t18 => B32 g ((Op.buildSlice T_uint8 1 [(.int .u8 0)] [(0, 1)]) [t18]) fun g o1 k1 => B32 g ((Op.append T_uint8 1 1) [t0, (k1 H.next)] (H.alloc o1)) fun g t20 H2 => LK g (lk E 1) fun g t1_1 => B3 g ((Op.bin .quo) [t1_1, (.int .u64 128)]) fun g t22 => GO3 g (BLK3 1 (SEQ3 (W M c (ref23_put_p 18)) Q)) .normal ((1, t22)::(0, t20)::E) D H2) ∧
 (∀ Q E D H, W M c (ref23_put_p 18) true Q E D H =
  LK true (lk E 5) fun g t5 => B3 g ((Op.bin .add) [t5, (.int .i64 1)]) fun g t13 => GO3 g Q .normal ((5, t13)::E) D H) := by (repeat' apply And.intro) <;> (intro _ _ _ _; refine W_unf ?_; kernel_rfl)
theorem ref23_put_f : (cProg Tryd.prog).func N_ref23_put = some ref23_put_F ∧ ref23_put_F.results = [.tmp 4] := pair_rfl (by kernel_rfl)
theorem ref23_put_at {M : Mac} [MK M] : M.func N_ref23_put = some ref23_put_F := MK.at (by decide) ref23_put_f.1
theorem ref23_put_s {M : Mac} [MK M] {a0 a1 : AV} {H : AHeap} {Q : AEnd → AHeap → Prop} (h : W M ⟨none, N_ref23_put⟩ (ref23_put_p 0) true (FIN3 M [.tmp 4] Q) [(0, a0), (1, a1)] [] H) : CALLE M N_ref23_put [a0, a1] H Q :=
  calle ref23_put_at (ks := ref23_put_K) (by kernel_rfl) (by rw [ref23_put_f.2]; exact h)
def ref23_Named_F : AFunc := funcAt Tryd.prog N_ref23_Named
def ref23_Named_K : Kp := ⟨[0, 2, 3], false, [0]⟩
def ref23_Named_p (k : Nat) : Kp × ACode := (ref23_Named_K, part ref23_Named_F.body k)
theorem ref23_Named_w (M : Mac) (c : Ctx) : (∀ Q E D H, W M c (ref23_Named_p 0) true Q E D H =
  B32 true ((Op.buildSlice T_string 9 [(.str [])] [(0, 1), (1, 1), (2, 1), (3, 1), (4, 1), (5, 1), (6, 1), (7, 1), (8, 1)]) [(.str []), (.str [98, 116, 108]), (.str [98, 116, 97, 118]), (.str [98, 116, 97, 118]), (.str [98, 116]), (.str [98, 116]), (.str [98, 116, 99]), (.str [97, 118]), (.str [97, 118])]) fun g o1 k1 => LK g (lk E 0) fun g t0 => B3 g ((Op.indexSl 1) [(k1 H.next), t0]) fun g t7 => B3 g (Op.load1 [t7] (H.alloc o1)) fun g t8 => GO3 g Q .ret ((2, t8)::(3, (k1 H.next))::(2, (.str []))::E) D (H.alloc o1)) := by intro _ _ _ _; refine W_unf ?_; kernel_rfl
theorem ref23_Named_f : (cProg Tryd.prog).func N_ref23_Named = some ref23_Named_F ∧ ref23_Named_F.results = [.tmp 2] := pair_rfl (by kernel_rfl)
theorem ref23_Named_at {M : Mac} [MK M] : M.func N_ref23_Named = some ref23_Named_F := MK.at (by decide) ref23_Named_f.1
theorem ref23_Named_s {M : Mac} [MK M] {a0 : AV} {H : AHeap} {Q : AEnd → AHeap → Prop} (h : W M ⟨none, N_ref23_Named⟩ (ref23_Named_p 0) true (FIN3 M [.tmp 2] Q) [(0, a0)] [] H) : CALLE M N_ref23_Named [a0] H Q :=
  calle ref23_Named_at (ks := ref23_Named_K) (by kernel_rfl) (by rw [ref23_Named_f.2]; exact h)
def ref23_Get_F : AFunc := funcAt Tryd.prog N_ref23_Get
def ref23_Get_K : Kp := ⟨[0, 1, 2, 4, 5, 6, 7], false, [0, 4, 18, 26, 39]⟩
def ref23_Get_p (k : Nat) : Kp × ACode := (ref23_Get_K, part ref23_Get_F.body k)
theorem ref23_Get_w (M : Mac) (c : Ctx) : (∀ Q E D H, W M c (ref23_Get_p 0) true Q E D H =
  LK true (lk E 0) fun g t0 => A3 g T_api_Event (AV.cells t0) H fun g t2 H1 => W M c (ref23_Get_p 4) g Q ((6, (.int .i64 0))::(5, (.bool false))::(4, (.int .u64 0))::(2, t2)::E) D H1) ∧
 (∀ Q E D H, W M c (ref23_Get_p 4) true Q E D H =
  LK true (lk E 1) fun g t1 => B3 g ((Op.bin .eql) [t1, (.int .u8 118)]) fun g t9 => IF3 g t9 (fun g => LK g (lk E 2) fun g t2 => B3 g ((Op.fieldAddr 7) [t2]) fun g t10 => B3 g (Op.load1 [t10] H) fun g t11 => GO3 g (BLK3 0 (SEQ3 (W M c (ref23_Get_p 39)) Q)) .ret ((5, (.bool true))::(4, t11)::(7, t1)::E) D H) (fun g => B3 g ((Op.bin .eql) [t1, (.int .u8 98)]) fun g t13 => IF3 g t13 (fun g => LK g (lk E 2) fun g t2 => B3 g ((Op.fieldAddr 3) [t2]) fun g t14 => B3 g (Op.load1 [t14] H) fun g t15 => GO3 g (BLK3 0 (SEQ3 (W M c (ref23_Get_p 39)) Q)) .normal ((6, t15)::(7, t1)::E) D H) (fun g => W M c (ref23_Get_p 18) g (BLK3 0 (SEQ3 (W M c (ref23_Get_p 39)) Q)) ((7, t1)::E) D H))) ∧
 (∀ Q E D H, W M c (ref23_Get_p 39) true Q E D H =
  LK true (lk E 6) fun g t6 => B3 g ((Op.wrap .u64) [t6]) fun g t51 => B3 g ((Op.bin .geq) [t6, (.int .i64 0)]) fun g t53 => GO3 g Q .ret ((5, t53)::(4, t51)::E) D H) ∧
 (∀ Q E D H, W M c (ref23_Get_p 18) true Q E D H =
  LK true (lk E 7) fun g t7 => B3 g ((Op.bin .eql) [t7, (.int .u8 116)]) fun g t17 => IF3 g t17 (fun g => LK g (lk E 2) fun g t2 => B3 g ((Op.fieldAddr 4) [t2]) fun g t18 => B3 g (Op.load1 [t18] H) fun g t19 => GO3 g Q .normal ((6, t19)::E) D H) (fun g => LK g (lk E 7) fun g t7_1 => B3 g ((Op.bin .eql) [t7_1, (.int .u8 97)]) fun g t21 => IF3 g t21 (fun g => LK g (lk E 2) fun g t2 => B3 g ((Op.fieldAddr 6) [t2]) fun g t22 => B3 g (Op.load1 [t22] H) fun g t23 => GO3 g Q .normal ((6, t23)::E) D H) (fun g => W M c (ref23_Get_p 26) g Q E D H))) ∧
 (∀ Q E D H, W M c (ref23_Get_p 26) true Q E D H =
  LK true (lk E 7) fun g t7 => B3 g ((Op.bin .eql) [t7, (.int .u8 108)]) fun g t25 => IF3 g t25 (fun g => LK g (lk E 2) fun g t2 => B3 g ((Op.fieldAddr 5) [t2]) fun g t26 => B3 g (Op.load1 [t26] H) fun g t27 => B3 g ((Op.wrap .u64) [t27]) fun g t28 => B3 g ((Op.fieldAddr 5) [t2]) fun g t29 => B3 g (Op.load1 [t29] H) fun g t30 => B3 g ((Op.bin .geq) [t30, (.int .i64 1)]) fun g t31 => JN (fun (k : Bool → AV → AV → AV → AHeap → Prop) => B3 g (wantV true (some t31)) fun g w => IG3 g w (fun g => B3 g ((Op.fieldAddr 5) [t2]) fun g t33 => B3 g (Op.load1 [t33] H) fun g t34 => B3 g ((Op.bin .leq) [t34, (.int .i64 4)]) fun g t35 => k g t35 t34 t33 H) (fun g => k g uu uu uu H)) (fun g t35_1 t34_1 t33_1 H1 => B3 g (Op.pick [t31, t35_1, (.bool false)]) fun g t36 => GO3 g Q .ret ((5, t36)::(4, t28)::E) D H1)) (fun g => LK g (lk E 7) fun g t7_1 => B3 g ((Op.bin .eql) [t7_1, (.int .u8 99)]) fun g t38 => IF3 g t38 (fun g => LK g (lk E 2) fun g t2 => B3 g ((Op.fieldAddr 8) [t2]) fun g t39 => B3 g (Op.load1 [t39] H) fun g t40 => B3 g ((Op.wrap .u64) [t40]) fun g t41 => B3 g ((Op.fieldAddr 8) [t2]) fun g t42 => B3 g (Op.load1 [t42] H) fun g t43 => B3 g ((Op.bin .geq) [t43, (.int .i64 1)]) fun g t44 => JN (fun (k : Bool → AV → AV → AV → AHeap → Prop) => B3 g (wantV true (some t44)) fun g w => IG3 g w (fun g => B3 g ((Op.fieldAddr 8) [t2]) fun g t46 => B3 g (Op.load1 [t46] H) fun g t47 => B3 g ((Op.bin .leq) [t47, (.int .i64 8)]) fun g t48 => k g t48 t47 t46 H) (fun g => k g uu uu uu H)) (fun g t48_1 t47_1 t46_1 H1 => B3 g (Op.pick [t44, t48_1, (.bool false)]) fun g t49 => GO3 g Q .ret ((5, t49)::(4, t41)::E) D H1)) (fun g => GO3 g Q .normal E D H))) := by (repeat' apply And.intro) <;> (intro _ _ _ _; refine W_unf ?_; kernel_rfl)
theorem ref23_Get_f : (cProg Tryd.prog).func N_ref23_Get = some ref23_Get_F ∧ ref23_Get_F.results = [.tmp 4, .tmp 5] := pair_rfl (by kernel_rfl)
theorem ref23_Get_at {M : Mac} [MK M] : M.func N_ref23_Get = some ref23_Get_F := MK.at (by decide) ref23_Get_f.1
theorem ref23_Get_s {M : Mac} [MK M] {a0 a1 : AV} {H : AHeap} {Q : AEnd → AHeap → Prop} (h : W M ⟨none, N_ref23_Get⟩ (ref23_Get_p 0) true (FIN3 M [.tmp 4, .tmp 5] Q) [(0, a0), (1, a1)] [] H) : CALLE M N_ref23_Get [a0, a1] H Q :=
  calle ref23_Get_at (ks := ref23_Get_K) (by kernel_rfl) (by rw [ref23_Get_f.2]; exact h)
def ref23_Line_F : AFunc := funcAt Tryd.prog N_ref23_Line
def ref23_Line_K : Kp := ⟨[0, 1, 2, 3, 4, 5, 6, 8, 9], false, [0, 4, 6, 11, 17, 23, 30, 31]⟩
def ref23_Line_p (k : Nat) : Kp × ACode := (ref23_Line_K, part ref23_Line_F.body k)
theorem ref23_Line_w (M : Mac) (c : Ctx) : (∀ Q E D H, W M c (ref23_Line_p 0) true Q E D H =
  LK true (lk E 0) fun g t0 => A3 g T_api_Event (AV.cells t0) H fun g t1 H1 => B3 g ((Op.fieldAddr 1) [t1]) fun g t10 => B3 g (Op.load1 [t10] H1) fun g t11 => B3 g ((Op.wrap .u64) [t11]) fun g t12 => B3 g ((Op.fieldAddr 2) [t1]) fun g t15 => B3 g (Op.load1 [t15] H1) fun g t16 => B3 g ((Op.wrap .u64) [t16]) fun g t17 => B3 g ((Op.fieldAddr 0) [t1]) fun g t21 => B3 g (Op.load1 [t21] H1) fun g t22 => C3 M g (.func N_ref23_digits) [t12] H1 fun g t13 H2 => CK3 g (Op.load1 [t15] H2) (some t16) fun g => CK3 g (Op.load1 [t21] H2) (some t22) fun g => B3 g ((Op.bin .add) [t13, (.str [32])]) fun g t14 => C3 M g (.func N_ref23_digits) [t17] H2 fun g t18 H3 => CK3 g (Op.load1 [t21] H3) (some t22) fun g => B3 g ((Op.bin .add) [t14, t18]) fun g t19 => B3 g ((Op.bin .add) [t19, (.str [32])]) fun g t20 => C3 M g (.func N_ref23_Word) [t22] H3 fun g t23 H4 => B3 g ((Op.bin .add) [t20, t23]) fun g t24 => W M c (ref23_Line_p 4) g Q ((3, t24)::(2, (.str []))::(1, t1)::E) D H4) ∧
 (∀ Q E D H, W M c (ref23_Line_p 4) true Q E D H =
  LK true (lk E 1) fun g t1 => B3 g ((Op.fieldAddr 0) [t1]) fun g t25 => B3 g (Op.load1 [t25] H) fun g t26 => C3 M g (.func N_ref23_Named) [t26] H fun g t27 H1 => W M c (ref23_Line_p 6) g Q ((4, t27)::E) D H1) ∧
 (∀ Q E D H, W M c (ref23_Line_p 6) true Q E D H =
  LOOP3 (W M c (ref23_Line_p 11)) (BLK3 0 (SEQ3 (W M c (ref23_Line_p 31)) Q)) ((5, (.int .i64 0))::E) D H) ∧
 (∀ Q E D H, W M c (ref23_Line_p 31) true Q E D H =
  LK true (lk E 3) fun g t3 => GO3 g Q .ret ((2, t3)::E) D H) ∧
 (∀ Q E D H, W M c (ref23_Line_p 11) true Q E D H =
  LK true (lk E 5) fun g t5 => LK g (lk E 4) fun g t4 => B3 g (Op.lenStr [t4]) fun g t30 => B3 g ((Op.bin .lss) [t5, t30]) fun g t31 => IF3 g t31 (fun g => GO3 g (SEQ3 (W M c (ref23_Line_p 17)) Q) .normal E D H) (fun g => GO3 g (SEQ3 (W M c (ref23_Line_p 17)) Q) (.exit 0) E D H)) ∧
 (∀ Q E D H, W M c (ref23_Line_p 17) true Q E D H =
  LK true (lk E 1) fun g t1 => B3 g ((Op.loadN 9) [t1] H) fun g t35 => LK g (lk E 4) fun g t4 => LK g (lk E 5) fun g t5 => B3 g (Op.indexStr [t4, t5]) fun g t38 => C3 M g (.func N_ref23_Get) [t35, t38] H fun g t39 H1 => B3 g ((Op.extract 0) [t39]) fun g t40 => B3 g ((Op.extract 1) [t39]) fun g t41 => LK g (lk E 4) fun g t4_1 => LK g (lk E 5) fun g t5_1 => B3 g (Op.indexStr [t4_1, t5_1]) fun g t44 => C3 M g (.func N_ref23_Words) [t44] H1 fun g t45 H2 => W M c (ref23_Line_p 23) g (BLK3 1 (SEQ3 (W M c (ref23_Line_p 30)) Q)) ((8, t45)::(6, t40)::E) D H2) ∧
 (∀ Q E D H, W M c (ref23_Line_p 30) true Q E D H =
  LK true (lk E 5) fun g t5 => B3 g ((Op.bin .add) [t5, (.int .i64 1)]) fun g t33 => GO3 g Q .normal ((5, t33)::E) D H) ∧
 (∀ Q E D H, W M c (ref23_Line_p 23) true Q E D H =
  LK true (lk E 8) fun g t8 => B3 g (Op.lenSl [t8]) fun g t47 => B3 g ((Op.bin .gtr) [t47, (.int .i64 0)]) fun g t48 => IF3 g t48 (fun g => LK g (lk E 3) fun g t3 => B3 g ((Op.bin .add) [t3, (.str [32])]) fun g t50 => LK g (lk E 8) fun g t8_1 => LK g (lk E 6) fun g t6 => B3 g ((Op.indexSl 1) [t8_1, t6]) fun g t53 => B3 g (Op.load1 [t53] H) fun g t54 => B3 g ((Op.bin .add) [t50, t54]) fun g t55 => GO3 g Q .normal ((3, t55)::E) D H) (fun g => LK g (lk E 6) fun g t6 => C3 M g (.func N_ref23_digits) [t6] H fun g t57 H1 => LK g (lk E 3) fun g t3 => B3 g ((Op.bin .add) [t3, (.str [32])]) fun g t59 => B3 g ((Op.bin .add) [t59, t57]) fun g t61 => GO3 g Q .normal ((3, t61)::(9, t57)::E) D H1)) := by (repeat' apply And.intro) <;> (intro _ _ _ _; refine W_unf ?_; kernel_rfl)
theorem ref23_Line_f : (cProg Tryd.prog).func N_ref23_Line = some ref23_Line_F ∧ ref23_Line_F.results = [.tmp 2] := pair_rfl (by kernel_rfl)
theorem ref23_Line_at {M : Mac} [MK M] : M.func N_ref23_Line = some ref23_Line_F := MK.at (by decide) ref23_Line_f.1
theorem ref23_Line_s {M : Mac} [MK M] {a0 : AV} {H : AHeap} {Q : AEnd → AHeap → Prop} (h : W M ⟨none, N_ref23_Line⟩ (ref23_Line_p 0) true (FIN3 M [.tmp 2] Q) [(0, a0)] [] H) : CALLE M N_ref23_Line [a0] H Q :=
  calle ref23_Line_at (ks := ref23_Line_K) (by kernel_rfl) (by rw [ref23_Line_f.2]; exact h)
def ref23_fresh_F : AFunc := funcAt Tryd.prog N_ref23_fresh
def ref23_fresh_K : Kp := ⟨[0, 1, 2, 6, 7, 9], false, [0, 4, 10]⟩
def ref23_fresh_p (k : Nat) : Kp × ACode := (ref23_fresh_K, part ref23_fresh_F.body k)
theorem ref23_fresh_w (M : Mac) (c : Ctx) : (∀ Q E D H, W M c (ref23_fresh_p 0) true Q E D H =
  A3 true T_api_Event [(.int .i64 0), (.int .i64 0), (.int .i64 0), (.int .i64 0), (.int .i64 0), (.int .i64 0), (.int .i64 0), (.int .u64 0), (.int .i64 0)] H fun g t6 H1 => LK g (lk E 0) fun g t0 => LK g (lk E 1) fun g t1 => LK g (lk E 2) fun g t2 => B3 g ((Op.build [(.int .i64 0), (.int .i64 0), (.int .i64 0), (.int .i64 0), (.int .i64 0), (.int .i64 0), (.int .i64 0), (.int .u64 0), (.int .i64 0)] [(0, 1), (2, 1), (1, 1)]) [t0, t1, t2]) fun g t11 => A3 g T_api_Event [(.int .i64 0), (.int .i64 0), (.int .i64 0), (.int .i64 0), (.int .i64 0), (.int .i64 0), (.int .i64 0), (.int .u64 0), (.int .i64 0)] H1 fun g t7 H2 => B32 g ((Op.store 9) [t7, t11] H2) fun g u H3 => W M c (ref23_fresh_p 4) g Q ((7, t7)::(9, t1)::(6, t6)::E) D H3) ∧
 (∀ Q E D H, W M c (ref23_fresh_p 4) true Q E D H =
  LK true (lk E 0) fun g t0 => B3 g ((Op.bin .geq) [t0, (.int .i64 7)]) fun g t13 => IF3 g t13 (fun g => LK g (lk E 7) fun g t7 => B3 g ((Op.fieldAddr 3) [t7]) fun g t14 => B32 g ((Op.store 1) [t14, (.int .i64 (-1))] H) fun g u H1 => GO3 g (SEQ3 (W M c (ref23_fresh_p 10)) Q) .normal E D H1) (fun g => GO3 g (SEQ3 (W M c (ref23_fresh_p 10)) Q) .normal E D H)) ∧
 (∀ Q E D H, W M c (ref23_fresh_p 10) true Q E D H =
  LK true (lk E 7) fun g t7 => B3 g ((Op.loadN 9) [t7] H) fun g t15 => LK g (lk E 6) fun g t6 => B32 g ((Op.store 9) [t6, t15] H) fun g u H1 => GO3 g Q .ret E D H1) := by (repeat' apply And.intro) <;> (intro _ _ _ _; refine W_unf ?_; kernel_rfl)
theorem ref23_fresh_f : (cProg Tryd.prog).func N_ref23_fresh = some ref23_fresh_F ∧ ref23_fresh_F.results = [.cellN 9 6] := pair_rfl (by kernel_rfl)
theorem ref23_fresh_at {M : Mac} [MK M] : M.func N_ref23_fresh = some ref23_fresh_F := MK.at (by decide) ref23_fresh_f.1
theorem ref23_fresh_s {M : Mac} [MK M] {a0 a1 a2 : AV} {H : AHeap} {Q : AEnd → AHeap → Prop} (h : W M ⟨none, N_ref23_fresh⟩ (ref23_fresh_p 0) true (FIN3 M [.cellN 9 6] Q) [(0, a0), (1, a1), (2, a2)] [] H) : CALLE M N_ref23_fresh [a0, a1, a2] H Q :=
  calle ref23_fresh_at (ks := ref23_fresh_K) (by kernel_rfl) (by rw [ref23_fresh_f.2]; exact h)
def ref23_Set_F : AFunc := funcAt Tryd.prog N_ref23_Set
def ref23_Set_K : Kp := ⟨[0, 1, 2, 3, 6, 7, 8, 9, 19], false, [0, 2, 12, 20, 22, 34, 46, 55]⟩
def ref23_Set_p (k : Nat) : Kp × ACode := (ref23_Set_K, part ref23_Set_F.body k)
theorem ref23_Set_w (M : Mac) (c : Ctx) : (∀ Q E D H, W M c (ref23_Set_p 0) true Q E D H =
  LK true (lk E 0) fun g t0 => A3 g T_api_Event (AV.cells t0) H fun g t3 H1 => A3 g T_api_Event [(.int .i64 0), (.int .i64 0), (.int .i64 0), (.int .i64 0), (.int .i64 0), (.int .i64 0), (.int .i64 0), (.int .u64 0), (.int .i64 0)] H1 fun g t6 H2 => W M c (ref23_Set_p 2) g Q ((7, (.bool false))::(6, t6)::(3, t3)::E) D H2) ∧
 (∀ Q E D H, W M c (ref23_Set_p 2) true Q E D H =
  LK true (lk E 1) fun g t1 => B3 g ((Op.bin .eql) [t1, (.int .u8 118)]) fun g t10 => IF3 g t10 (fun g => LK g (lk E 2) fun g t2 => LK g (lk E 3) fun g t3 => B3 g ((Op.fieldAddr 7) [t3]) fun g t12 => B32 g ((Op.store 1) [t12, t2] H) fun g u H1 => LK g (lk E 3) fun g t3_1 => B3 g ((Op.loadN 9) [t3_1] H1) fun g t13 => LK g (lk E 6) fun g t6 => B32 g ((Op.store 9) [t6, t13] H1) fun g u_1 H2 => GO3 g (SEQ3 (W M c (ref23_Set_p 12)) Q) .ret ((7, (.bool true))::(9, t1)::E) D H2) (fun g => GO3 g (SEQ3 (W M c (ref23_Set_p 12)) Q) .normal ((9, t1)::E) D H)) ∧
 (∀ Q E D H, W M c (ref23_Set_p 12) true Q E D H =
  LK true (lk E 2) fun g t2 => B3 g ((Op.bin .gtr) [t2, (.int .u64 9223372036854775807)]) fun g t15 => IF3 g t15 (fun g => LK g (lk E 3) fun g t3 => B3 g ((Op.loadN 9) [t3] H) fun g t16 => LK g (lk E 6) fun g t6 => B32 g ((Op.store 9) [t6, t16] H) fun g u H1 => GO3 g (SEQ3 (W M c (ref23_Set_p 20)) Q) .ret ((7, (.bool false))::E) D H1) (fun g => GO3 g (SEQ3 (W M c (ref23_Set_p 20)) Q) .normal E D H)) ∧
 (∀ Q E D H, W M c (ref23_Set_p 20) true Q E D H =
  LK true (lk E 2) fun g t2 => B3 g ((Op.wrap .i64) [t2]) fun g t18 => W M c (ref23_Set_p 22) g Q ((8, t18)::E) D H) ∧
 (∀ Q E D H, W M c (ref23_Set_p 22) true Q E D H =
  LK true (lk E 1) fun g t1 => B3 g ((Op.bin .eql) [t1, (.int .u8 98)]) fun g t21 => IF3 g t21 (fun g => LK g (lk E 8) fun g t8 => LK g (lk E 3) fun g t3 => B3 g ((Op.fieldAddr 3) [t3]) fun g t23 => B32 g ((Op.store 1) [t23, t8] H) fun g u H1 => GO3 g (BLK3 0 (SEQ3 (W M c (ref23_Set_p 55)) Q)) .normal ((19, t1)::E) D H1) (fun g => B3 g ((Op.bin .eql) [t1, (.int .u8 116)]) fun g t25 => IF3 g t25 (fun g => LK g (lk E 8) fun g t8 => LK g (lk E 3) fun g t3 => B3 g ((Op.fieldAddr 4) [t3]) fun g t27 => B32 g ((Op.store 1) [t27, t8] H) fun g u H1 => GO3 g (BLK3 0 (SEQ3 (W M c (ref23_Set_p 55)) Q)) .normal ((19, t1)::E) D H1) (fun g => W M c (ref23_Set_p 34) g (BLK3 0 (SEQ3 (W M c (ref23_Set_p 55)) Q)) ((19, t1)::E) D H))) ∧
 (∀ Q E D H, W M c (ref23_Set_p 55) true Q E D H =
  LK true (lk E 3) fun g t3 => B3 g ((Op.loadN 9) [t3] H) fun g t54 => LK g (lk E 6) fun g t6 => B32 g ((Op.store 9) [t6, t54] H) fun g u H1 => GO3 g Q .ret ((7, (.bool true))::E) D H1) ∧
 (∀ Q E D H, W M c (ref23_Set_p 34) true Q E D H =
  LK true (lk E 19) fun g t19 => B3 g ((Op.bin .eql) [t19, (.int .u8 97)]) fun g t29 => IF3 g t29 (fun g => LK g (lk E 8) fun g t8 => LK g (lk E 3) fun g t3 => B3 g ((Op.fieldAddr 6) [t3]) fun g t31 => B32 g ((Op.store 1) [t31, t8] H) fun g u H1 => GO3 g Q .normal E D H1) (fun g => LK g (lk E 19) fun g t19_1 => B3 g ((Op.bin .eql) [t19_1, (.int .u8 108)]) fun g t33 => IF3 g t33 (fun g => LK g (lk E 8) fun g t8 => LK g (lk E 3) fun g t3 => B3 g ((Op.fieldAddr 5) [t3]) fun g t35 => B32 g ((Op.store 1) [t35, t8] H) fun g u H1 => LK g (lk E 3) fun g t3_1 => B3 g ((Op.loadN 9) [t3_1] H1) fun g t36 => LK g (lk E 8) fun g t8_1 => B3 g ((Op.bin .geq) [t8_1, (.int .i64 1)]) fun g t38 => JN (fun (k : Bool → AV → AV → AHeap → Prop) => B3 g (wantV true (some t38)) fun g w => IG3 g w (fun g => B3 g ((Op.bin .leq) [t8_1, (.int .i64 4)]) fun g t41 => k g t41 t8_1 H1) (fun g => k g uu uu H1)) (fun g t41_1 t40_1 H2 => B3 g (Op.pick [t38, t41_1, (.bool false)]) fun g t42 => LK g (lk E 6) fun g t6 => B32 g ((Op.store 9) [t6, t36] H2) fun g u_1 H3 => GO3 g Q .ret ((7, t42)::E) D H3)) (fun g => W M c (ref23_Set_p 46) g Q E D H))) ∧
 (∀ Q E D H, W M c (ref23_Set_p 46) true Q E D H =
  LK true (lk E 19) fun g t19 => B3 g ((Op.bin .eql) [t19, (.int .u8 99)]) fun g t44 => IF3 g t44 (fun g => LK g (lk E 8) fun g t8 => LK g (lk E 3) fun g t3 => B3 g ((Op.fieldAddr 8) [t3]) fun g t46 => B32 g ((Op.store 1) [t46, t8] H) fun g u H1 => LK g (lk E 3) fun g t3_1 => B3 g ((Op.loadN 9) [t3_1] H1) fun g t47 => LK g (lk E 8) fun g t8_1 => B3 g ((Op.bin .geq) [t8_1, (.int .i64 1)]) fun g t49 => JN (fun (k : Bool → AV → AV → AHeap → Prop) => B3 g (wantV true (some t49)) fun g w => IG3 g w (fun g => B3 g ((Op.bin .leq) [t8_1, (.int .i64 8)]) fun g t52 => k g t52 t8_1 H1) (fun g => k g uu uu H1)) (fun g t52_1 t51_1 H2 => B3 g (Op.pick [t49, t52_1, (.bool false)]) fun g t53 => LK g (lk E 6) fun g t6 => B32 g ((Op.store 9) [t6, t47] H2) fun g u_1 H3 => GO3 g Q .ret ((7, t53)::E) D H3)) (fun g => GO3 g Q .normal E D H)) := by (repeat' apply And.intro) <;> (intro _ _ _ _; refine W_unf ?_; kernel_rfl)
theorem ref23_Set_f : (cProg Tryd.prog).func N_ref23_Set = some ref23_Set_F ∧ ref23_Set_F.results = [.cellN 9 6, .tmp 7] := pair_rfl (by kernel_rfl)
theorem ref23_Set_at {M : Mac} [MK M] : M.func N_ref23_Set = some ref23_Set_F := MK.at (by decide) ref23_Set_f.1
theorem ref23_Set_s {M : Mac} [MK M] {a0 a1 a2 : AV} {H : AHeap} {Q : AEnd → AHeap → Prop} (h : W M ⟨none, N_ref23_Set⟩ (ref23_Set_p 0) true (FIN3 M [.cellN 9 6, .tmp 7] Q) [(0, a0), (1, a1), (2, a2)] [] H) : CALLE M N_ref23_Set [a0, a1, a2] H Q :=
  calle ref23_Set_at (ks := ref23_Set_K) (by kernel_rfl) (by rw [ref23_Set_f.2]; exact h)
def ref23_digits_F : AFunc := funcAt Tryd.prog N_ref23_digits
def ref23_digits_K : Kp := ⟨[0, 2, 3, 4], false, [0, 4, 9, 15, 20, 21]⟩
def ref23_digits_p (k : Nat) : Kp × ACode := (ref23_digits_K, part ref23_digits_F.body k)
theorem ref23_digits_w (M : Mac) (c : Ctx) : (∀ Q E D H, W M c (ref23_digits_p 0) true Q E D H =
  W M c (ref23_digits_p 4) true Q ((3, (.str []))::(2, (.str []))::E) D H) ∧
 (∀ Q E D H, W M c (ref23_digits_p 4) true Q E D H =
  LOOP3 (W M c (ref23_digits_p 9)) (BLK3 0 (SEQ3 (W M c (ref23_digits_p 21)) Q)) ((4, (.int .i64 0))::E) D H) ∧
 (∀ Q E D H, W M c (ref23_digits_p 21) true Q E D H =
  LK true (lk E 3) fun g t3 => GO3 g Q .ret ((2, t3)::E) D H) ∧
 (∀ Q E D H, W M c (ref23_digits_p 9) true Q E D H =
  LK true (lk E 4) fun g t4 => B3 g ((Op.bin .lss) [t4, (.int .i64 20)]) fun g t6 => JN (fun (k : Bool → AV → AV → AV → AHeap → Prop) => B3 g (wantV true (some t6)) fun g w => IG3 g w (fun g => B3 g ((Op.bin .eql) [t4, (.int .i64 0)]) fun g t9 => k g t9 t9 t4 H) (fun g => k g uu uu uu H)) (fun g t10_1 t9_1 t8_1 H1 => JN (fun (k : Bool → AV → AV → AHeap → Prop) => B3 g (wantV false (some t10_1)) fun g w => IG3 g w (fun g => LK g (lk E 0) fun g t0 => B3 g ((Op.bin .gtr) [t0, (.int .u64 0)]) fun g t12 => k g t12 t0 H1) (fun g => k g uu uu H1)) (fun g t12_1 t11_1 H2 => JN (fun (k : Bool → AV → AHeap → Prop) => B3 g (wantV true (some t6)) fun g w => IG3 g w (fun g => B3 g (Op.pick [t10_1, (.bool true), t12_1]) fun g t13 => k g t13 H2) (fun g => k g uu H2)) (fun g t13_1 H3 => B3 g (Op.pick [t6, t13_1, (.bool false)]) fun g t14 => IF3 g t14 (fun g => GO3 g (SEQ3 (W M c (ref23_digits_p 15)) Q) .normal E D H3) (fun g => GO3 g (SEQ3 (W M c (ref23_digits_p 15)) Q) (.exit 0) E D H3))))) ∧
 (∀ Q E D H, W M c (ref23_digits_p 15) true Q E D H =
  LK true (lk E 0) fun g t0 => B3 g ((Op.bin .rem) [t0, (.int .u64 10)]) fun g t18 => B3 g ((Op.bin .add) [(.int .u64 48), t18]) fun g t19 => B3 g ((Op.wrap .u8) [t19]) fun g t20 => B32 g ((Op.buildSlice T_uint8 1 [(.int .u8 0)] [(0, 1)]) [t20]) fun g o1 k1 => B3 g (Op.strOfBytes [(k1 H.next)] (H.alloc o1)) fun g t22 => LK g (lk E 3) fun g t3 => B3 g ((Op.bin .add) [t22, t3]) fun g t24 => LK g (lk E 0) fun g t0_1 => B3 g ((Op.bin .quo) [t0_1, (.int .u64 10)]) fun g t26 => GO3 g (BLK3 1 (SEQ3 (W M c (ref23_digits_p 20)) Q)) .normal ((0, t26)::(3, t24)::E) D (H.alloc o1)) ∧
 (∀ Q E D H, W M c (ref23_digits_p 20) true Q E D H =
  LK true (lk E 4) fun g t4 => B3 g ((Op.bin .add) [t4, (.int .i64 1)]) fun g t16 => GO3 g Q .normal ((4, t16)::E) D H) := by (repeat' apply And.intro) <;> (intro _ _ _ _; refine W_unf ?_; kernel_rfl)
theorem ref23_digits_f : (cProg Tryd.prog).func N_ref23_digits = some ref23_digits_F ∧ ref23_digits_F.results = [.tmp 2] := pair_rfl (by kernel_rfl)
theorem ref23_digits_at {M : Mac} [MK M] : M.func N_ref23_digits = some ref23_digits_F := MK.at (by decide) ref23_digits_f.1
theorem ref23_digits_s {M : Mac} [MK M] {a0 : AV} {H : AHeap} {Q : AEnd → AHeap → Prop} (h : W M ⟨none, N_ref23_digits⟩ (ref23_digits_p 0) true (FIN3 M [.tmp 2] Q) [(0, a0)] [] H) : CALLE M N_ref23_digits [a0] H Q :=
  calle ref23_digits_at (ks := ref23_digits_K) (by kernel_rfl) (by rw [ref23_digits_f.2]; exact h)
def ref23_Word_F : AFunc := funcAt Tryd.prog N_ref23_Word
def ref23_Word_K : Kp := ⟨[0, 2, 3], false, [0]⟩
def ref23_Word_p (k : Nat) : Kp × ACode := (ref23_Word_K, part ref23_Word_F.body k)
theorem ref23_Word_w (M : Mac) (c : Ctx) : (∀ Q E D H, W M c (ref23_Word_p 0) true Q E D H =
  B32 true ((Op.buildSlice T_string 9 [(.str [])] [(0, 1), (1, 1), (2, 1), (3, 1), (4, 1), (5, 1), (6, 1), (7, 1), (8, 1)]) [(.str []), (.str [98, 101, 103, 105, 110]), (.str [108, 111, 97, 100]), (.str [115, 116, 111, 114, 101]), (.str [112, 111, 105, 110, 116]), (.str [99, 111, 109, 109, 105, 116]), (.str [97, 98, 111, 114, 116]), (.str [112, 108, 97, 105, 110]), (.str [119, 114, 105, 116, 101])]) fun g o1 k1 => LK g (lk E 0) fun g t0 => B3 g ((Op.indexSl 1) [(k1 H.next), t0]) fun g t7 => B3 g (Op.load1 [t7] (H.alloc o1)) fun g t8 => GO3 g Q .ret ((2, t8)::(3, (k1 H.next))::(2, (.str []))::E) D (H.alloc o1)) := by intro _ _ _ _; refine W_unf ?_; kernel_rfl
theorem ref23_Word_f : (cProg Tryd.prog).func N_ref23_Word = some ref23_Word_F ∧ ref23_Word_F.results = [.tmp 2] := pair_rfl (by kernel_rfl)
theorem ref23_Word_at {M : Mac} [MK M] : M.func N_ref23_Word = some ref23_Word_F := MK.at (by decide) ref23_Word_f.1
theorem ref23_Word_s {M : Mac} [MK M] {a0 : AV} {H : AHeap} {Q : AEnd → AHeap → Prop} (h : W M ⟨none, N_ref23_Word⟩ (ref23_Word_p 0) true (FIN3 M [.tmp 2] Q) [(0, a0)] [] H) : CALLE M N_ref23_Word [a0] H Q :=
  calle ref23_Word_at (ks := ref23_Word_K) (by kernel_rfl) (by rw [ref23_Word_f.2]; exact h)
def ref23_Words_F : AFunc := funcAt Tryd.prog N_ref23_Words
def ref23_Words_K : Kp := ⟨[0, 2], false, [0, 2, 10, 18]⟩
def ref23_Words_p (k : Nat) : Kp × ACode := (ref23_Words_K, part ref23_Words_F.body k)
theorem ref23_Words_w (M : Mac) (c : Ctx) : (∀ Q E D H, W M c (ref23_Words_p 0) true Q E D H =
  W M c (ref23_Words_p 2) true Q ((2, .nils)::E) D H) ∧
 (∀ Q E D H, W M c (ref23_Words_p 2) true Q E D H =
  LK true (lk E 0) fun g t0 => B3 g ((Op.bin .eql) [t0, (.int .u8 108)]) fun g t4 => IF3 g t4 (fun g => B32 g ((Op.buildSlice T_string 5 [(.str [])] [(0, 1), (1, 1), (2, 1), (3, 1), (4, 1)]) [(.str []), (.str [102, 97, 115, 116]), (.str [115, 108, 111, 119]), (.str [115, 111, 102, 116]), (.str [115, 101, 114, 105, 97, 108])]) fun g o1 k1 => GO3 g (SEQ3 (W M c (ref23_Words_p 10)) Q) .ret ((2, (k1 H.next))::E) D (H.alloc o1)) (fun g => GO3 g (SEQ3 (W M c (ref23_Words_p 10)) Q) .normal E D H)) ∧
 (∀ Q E D H, W M c (ref23_Words_p 10) true Q E D H =
  LK true (lk E 0) fun g t0 => B3 g ((Op.bin .eql) [t0, (.int .u8 99)]) fun g t7 => IF3 g t7 (fun g => B32 g ((Op.buildSlice T_string 9 [(.str [])] [(0, 1), (1, 1), (2, 1), (3, 1), (4, 1), (5, 1), (6, 1), (7, 1), (8, 1)]) [(.str []), (.str [99, 111, 110, 102, 108, 105, 99, 116]), (.str [115, 117, 98]), (.str [99, 97, 112, 97, 99, 105, 116, 121]), (.str [101, 118, 105, 99, 116]), (.str [115, 112, 117, 114, 105, 111, 117, 115]), (.str [98, 117, 115, 121]), (.str [105, 108, 108, 101, 103, 97, 108]), (.str [115, 111, 102, 116])]) fun g o1 k1 => GO3 g (SEQ3 (W M c (ref23_Words_p 18)) Q) .ret ((2, (k1 H.next))::E) D (H.alloc o1)) (fun g => GO3 g (SEQ3 (W M c (ref23_Words_p 18)) Q) .normal E D H)) ∧
 (∀ Q E D H, W M c (ref23_Words_p 18) true Q E D H =
  GO3 true Q .ret ((2, .nils)::E) D H) := by (repeat' apply And.intro) <;> (intro _ _ _ _; refine W_unf ?_; kernel_rfl)
theorem ref23_Words_f : (cProg Tryd.prog).func N_ref23_Words = some ref23_Words_F ∧ ref23_Words_F.results = [.tmp 2] := pair_rfl (by kernel_rfl)
theorem ref23_Words_at {M : Mac} [MK M] : M.func N_ref23_Words = some ref23_Words_F := MK.at (by decide) ref23_Words_f.1
theorem ref23_Words_s {M : Mac} [MK M] {a0 : AV} {H : AHeap} {Q : AEnd → AHeap → Prop} (h : W M ⟨none, N_ref23_Words⟩ (ref23_Words_p 0) true (FIN3 M [.tmp 2] Q) [(0, a0)] [] H) : CALLE M N_ref23_Words [a0] H Q :=
  calle ref23_Words_at (ks := ref23_Words_K) (by kernel_rfl) (by rw [ref23_Words_f.2]; exact h)
end
end Go.Am
