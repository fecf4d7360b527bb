/- CodeT: CodeT. -/
import Derived.Test.YtkfheegmlgfdoaaDoorAmB4
import Derived.Test.YtkfheegmlgfdoaaDoorAmB1
import Derived.KernelRfl
import Derived.Test.YtkfheegmlgfdoaaDoorRows
namespace Go.Am
set_option linter.unusedVariables false
set_option maxRecDepth 100000
abbrev N_law23_TraceMerged : Nat := 6
abbrev N_law23_TraceRises : Nat := 5
abbrev N_law23_alive : Nat := 15
abbrev N_ref23_Same : Nat := 14
abbrev N_slices_Clone_s_api_Event : Nat := 40
abbrev N_trace_Between : Nat := 17
abbrev N_trace_Between_1 : Nat := 39
abbrev N_trace_Merge : Nat := 18
abbrev N_trace_Of : Nat := 16
abbrev N_trace_Of_1 : Nat := 38
abbrev N_trace_sift_api_Event : Nat := 37
abbrev T__6 : Nat := 22
abbrev T_api_Event : Nat := 37
abbrev T_int : Nat := 3
noncomputable section
open Go.Proofs Go.Proofs.YtkfheegmlgfdoaaDoor
class MK (M : Mac) : Prop where
  ok : ∀ n, memN n [15] = false → M.func n = (cProg Tryd.prog).func n
theorem MK.at {M : Mac} [h : MK M] {n : Nat} {F : AFunc} (hn : memN n [15] = false) (hF : (cProg Tryd.prog).func n = some F) : M.func n = some F := (h.ok n hn).trans hF
def law23_TraceRises_F : AFunc := funcAt Tryd.prog N_law23_TraceRises
def law23_TraceRises_K : Kp := ⟨[0, 2, 3, 4, 5, 6, 7, 8, 9, 10, 11, 22, 23, 76, 77, 81, 82], false, [0, 4, 12, 14, 19, 25, 29, 37, 42, 48, 57, 58, 59, 60, 62, 70, 75, 81, 87, 92, 98, 107, 108, 115, 116, 121, 127, 136, 137]⟩
def law23_TraceRises_p (k : Nat) : Kp × ACode := (law23_TraceRises_K, part law23_TraceRises_F.body k)
theorem law23_TraceRises_w (M : Mac) (c : Ctx) : (∀ Q E D H, W M c (law23_TraceRises_p 0) true Q E D H =
  C3 M true (.func N_law23_alive) [] H fun g t12 H1 => W M c (law23_TraceRises_p 4) g Q ((3, t12)::(2, (.bool false))::E) D H1) ∧
 (∀ Q E D H, W M c (law23_TraceRises_p 4) true Q E D H =
  LK true (lk E 0) fun g t0 => B3 g (Op.lenSl [t0]) fun g t14 => B3 g ((Op.bin .gtr) [t14, (.int .i64 10)]) fun g t15 => JN (fun (k : Bool → AV → AV → AHeap → Prop) => B3 g (wantV false (some t15)) fun g w => IG3 g w (fun g => LK g (lk E 3) fun g t3 => B3 g ((Op.un .not) [t3]) fun g t18 => k g t18 t3 H) (fun g => k g uu uu H)) (fun g t18_1 t17_1 H1 => B3 g (Op.pick [t15, (.bool true), t18_1]) fun g t19 => IF3 g t19 (fun g => LK g (lk E 3) fun g t3_1 => GO3 g (SEQ3 (W M c (law23_TraceRises_p 12)) Q) .ret ((2, t3_1)::E) D H1) (fun g => GO3 g (SEQ3 (W M c (law23_TraceRises_p 12)) Q) .normal E D H1))) ∧
 (∀ Q E D H, W M c (law23_TraceRises_p 12) true Q E D H =
  W M c (law23_TraceRises_p 14) true Q ((4, (.int .i64 0))::E) D H) ∧
 (∀ Q E D H, W M c (law23_TraceRises_p 14) true Q E D H =
  LK true (lk E 0) fun g t0 => B3 g (Op.lenSl [t0]) fun g t22 => LOOP3 (W M c (law23_TraceRises_p 19)) (BLK3 0 (SEQ3 (W M c (law23_TraceRises_p 60)) Q)) ((23, (.int .i64 0))::(22, t22)::E) D H) ∧
 (∀ Q E D H, W M c (law23_TraceRises_p 60) true Q E D H =
  LK true (lk E 0) fun g t0 => C3 M g (.func N_trace_Merge) [t0] H fun g t70 H1 => W M c (law23_TraceRises_p 62) g Q ((7, t70)::E) D H1) ∧
 (∀ Q E D H, W M c (law23_TraceRises_p 19) true Q E D H =
  LK true (lk E 23) fun g t23 => LK g (lk E 22) fun g t22 => B3 g ((Op.bin .lss) [t23, t22]) fun g t24 => IF3 g t24 (fun g => GO3 g (SEQ3 (W M c (law23_TraceRises_p 25)) Q) .normal E D H) (fun g => GO3 g (SEQ3 (W M c (law23_TraceRises_p 25)) Q) (.exit 0) E D H)) ∧
 (∀ Q E D H, W M c (law23_TraceRises_p 62) true Q E D H =
  LK true (lk E 7) fun g t7 => B3 g (Op.lenSl [t7]) fun g t72 => LK g (lk E 4) fun g t4 => B3 g ((Op.bin .neq) [t72, t4]) fun g t74 => IF3 g t74 (fun g => GO3 g (SEQ3 (W M c (law23_TraceRises_p 70)) Q) .ret ((2, (.bool false))::E) D H) (fun g => GO3 g (SEQ3 (W M c (law23_TraceRises_p 70)) Q) .normal E D H)) ∧
 (∀ Q E D H, W M c (law23_TraceRises_p 25) true Q E D H =
  LK true (lk E 23) fun g t23 => W M c (law23_TraceRises_p 29) g (BLK3 1 (SEQ3 (W M c (law23_TraceRises_p 59)) Q)) ((5, t23)::E) D H) ∧
 (∀ Q E D H, W M c (law23_TraceRises_p 70) true Q E D H =
  LK true (lk E 0) fun g t0 => B3 g (Op.lenSl [t0]) fun g t76 => LOOP3 (W M c (law23_TraceRises_p 75)) (BLK3 4 (SEQ3 (W M c (law23_TraceRises_p 116)) Q)) ((77, (.int .i64 0))::(76, t76)::E) D H) ∧
 (∀ Q E D H, W M c (law23_TraceRises_p 59) true Q E D H =
  LK true (lk E 23) fun g t23 => B3 g ((Op.bin .add) [t23, (.int .i64 1)]) fun g t68 => GO3 g Q .normal ((23, t68)::E) D H) ∧
 (∀ Q E D H, W M c (law23_TraceRises_p 29) true Q E D H =
  LK true (lk E 0) fun g t0 => LK g (lk E 5) fun g t5 => B3 g ((Op.indexSl 1) [t0, t5]) fun g t28 => B3 g (Op.load1 [t28] H) fun g t29 => B3 g (Op.lenSl [t29]) fun g t30 => B3 g ((Op.bin .gtr) [t30, (.int .i64 100)]) fun g t31 => IF3 g t31 (fun g => LK g (lk E 3) fun g t3 => GO3 g (SEQ3 (W M c (law23_TraceRises_p 37)) Q) .ret ((2, t3)::E) D H) (fun g => GO3 g (SEQ3 (W M c (law23_TraceRises_p 37)) Q) .normal E D H)) ∧
 (∀ Q E D H, W M c (law23_TraceRises_p 116) true Q E D H =
  LOOP3 (W M c (law23_TraceRises_p 121)) (BLK3 8 (SEQ3 (W M c (law23_TraceRises_p 137)) Q)) ((11, (.int .i64 1))::E) D H) ∧
 (∀ Q E D H, W M c (law23_TraceRises_p 75) true Q E D H =
  LK true (lk E 77) fun g t77 => LK g (lk E 76) fun g t76 => B3 g ((Op.bin .lss) [t77, t76]) fun g t78 => IF3 g t78 (fun g => GO3 g (SEQ3 (W M c (law23_TraceRises_p 81)) Q) .normal E D H) (fun g => GO3 g (SEQ3 (W M c (law23_TraceRises_p 81)) Q) (.exit 4) E D H)) ∧
 (∀ Q E D H, W M c (law23_TraceRises_p 37) true Q E D H =
  LOOP3 (W M c (law23_TraceRises_p 42)) (BLK3 2 (SEQ3 (W M c (law23_TraceRises_p 58)) Q)) ((6, (.int .i64 1))::E) D H) ∧
 (∀ Q E D H, W M c (law23_TraceRises_p 137) true Q E D H =
  LK true (lk E 3) fun g t3 => GO3 g Q .ret ((2, t3)::E) D H) ∧
 (∀ Q E D H, W M c (law23_TraceRises_p 121) true Q E D H =
  LK true (lk E 11) fun g t11 => LK g (lk E 7) fun g t7 => B3 g (Op.lenSl [t7]) fun g t119 => B3 g ((Op.bin .lss) [t11, t119]) fun g t120 => IF3 g t120 (fun g => GO3 g (SEQ3 (W M c (law23_TraceRises_p 127)) Q) .normal E D H) (fun g => GO3 g (SEQ3 (W M c (law23_TraceRises_p 127)) Q) (.exit 8) E D H)) ∧
 (∀ Q E D H, W M c (law23_TraceRises_p 81) true Q E D H =
  LK true (lk E 77) fun g t77 => W M c (law23_TraceRises_p 87) g (BLK3 5 (SEQ3 (W M c (law23_TraceRises_p 115)) Q)) ((9, (.int .i64 0))::(8, t77)::E) D H) ∧
 (∀ Q E D H, W M c (law23_TraceRises_p 58) true Q E D H =
  LK true (lk E 4) fun g t4 => LK g (lk E 0) fun g t0 => LK g (lk E 5) fun g t5 => B3 g ((Op.indexSl 1) [t0, t5]) fun g t64 => B3 g (Op.load1 [t64] H) fun g t65 => B3 g (Op.lenSl [t65]) fun g t66 => B3 g ((Op.bin .add) [t4, t66]) fun g t67 => GO3 g Q .normal ((4, t67)::E) D H) ∧
 (∀ Q E D H, W M c (law23_TraceRises_p 42) true Q E D H =
  LK true (lk E 6) fun g t6 => LK g (lk E 0) fun g t0 => LK g (lk E 5) fun g t5 => B3 g ((Op.indexSl 1) [t0, t5]) fun g t36 => B3 g (Op.load1 [t36] H) fun g t37 => B3 g (Op.lenSl [t37]) fun g t38 => B3 g ((Op.bin .lss) [t6, t38]) fun g t39 => IF3 g t39 (fun g => GO3 g (SEQ3 (W M c (law23_TraceRises_p 48)) Q) .normal E D H) (fun g => GO3 g (SEQ3 (W M c (law23_TraceRises_p 48)) Q) (.exit 2) E D H)) ∧
 (∀ Q E D H, W M c (law23_TraceRises_p 127) true Q E D H =
  LK true (lk E 7) fun g t7 => LK g (lk E 11) fun g t11 => B3 g ((Op.indexSl 9) [t7, t11]) fun g t125 => B3 g ((Op.fieldAddr 1) [t125]) fun g t126 => B3 g (Op.load1 [t126] H) fun g t127 => B3 g ((Op.bin .sub) [t11, (.int .i64 1)]) fun g t130 => B3 g ((Op.indexSl 9) [t7, t130]) fun g t131 => B3 g ((Op.fieldAddr 1) [t131]) fun g t132 => B3 g (Op.load1 [t132] H) fun g t133 => B3 g ((Op.bin .lss) [t127, t133]) fun g t134 => IF3 g t134 (fun g => GO3 g (BLK3 9 (SEQ3 (W M c (law23_TraceRises_p 136)) Q)) .ret ((2, (.bool false))::E) D H) (fun g => GO3 g (BLK3 9 (SEQ3 (W M c (law23_TraceRises_p 136)) Q)) .normal E D H)) ∧
 (∀ Q E D H, W M c (law23_TraceRises_p 115) true Q E D H =
  LK true (lk E 77) fun g t77 => B3 g ((Op.bin .add) [t77, (.int .i64 1)]) fun g t116 => GO3 g Q .normal ((77, t116)::E) D H) ∧
 (∀ Q E D H, W M c (law23_TraceRises_p 87) true Q E D H =
  LK true (lk E 7) fun g t7 => B3 g (Op.lenSl [t7]) fun g t81 => LOOP3 (W M c (law23_TraceRises_p 92)) (BLK3 6 (SEQ3 (W M c (law23_TraceRises_p 108)) Q)) ((82, (.int .i64 0))::(81, t81)::E) D H) ∧
 (∀ Q E D H, W M c (law23_TraceRises_p 48) true Q E D H =
  LK true (lk E 0) fun g t0 => LK g (lk E 5) fun g t5 => B3 g ((Op.indexSl 1) [t0, t5]) fun g t44 => B3 g (Op.load1 [t44] H) fun g t45 => LK g (lk E 6) fun g t6 => B3 g ((Op.indexSl 9) [t45, t6]) fun g t47 => B3 g ((Op.fieldAddr 1) [t47]) fun g t48 => B3 g (Op.load1 [t48] H) fun g t49 => B3 g ((Op.indexSl 1) [t0, t5]) fun g t52 => B3 g (Op.load1 [t52] H) fun g t53 => B3 g ((Op.bin .sub) [t6, (.int .i64 1)]) fun g t55 => B3 g ((Op.indexSl 9) [t53, t55]) fun g t56 => B3 g ((Op.fieldAddr 1) [t56]) fun g t57 => B3 g (Op.load1 [t57] H) fun g t58 => B3 g ((Op.bin .lss) [t49, t58]) fun g t59 => IF3 g t59 (fun g => LK g (lk E 3) fun g t3 => GO3 g (BLK3 3 (SEQ3 (W M c (law23_TraceRises_p 57)) Q)) .ret ((2, t3)::E) D H) (fun g => GO3 g (BLK3 3 (SEQ3 (W M c (law23_TraceRises_p 57)) Q)) .normal E D H)) ∧
 (∀ Q E D H, W M c (law23_TraceRises_p 136) true Q E D H =
  LK true (lk E 11) fun g t11 => B3 g ((Op.bin .add) [t11, (.int .i64 1)]) fun g t122 => GO3 g Q .normal ((11, t122)::E) D H) ∧
 (∀ Q E D H, W M c (law23_TraceRises_p 108) true Q E D H =
  LK true (lk E 9) fun g t9 => LK g (lk E 0) fun g t0 => LK g (lk E 8) fun g t8 => B3 g ((Op.indexSl 1) [t0, t8]) fun g t112 => B3 g (Op.load1 [t112] H) fun g t113 => B3 g (Op.lenSl [t113]) fun g t114 => B3 g ((Op.bin .neq) [t9, t114]) fun g t115 => IF3 g t115 (fun g => GO3 g Q .ret ((2, (.bool false))::E) D H) (fun g => GO3 g Q .normal E D H)) ∧
 (∀ Q E D H, W M c (law23_TraceRises_p 92) true Q E D H =
  LK true (lk E 82) fun g t82 => LK g (lk E 81) fun g t81 => B3 g ((Op.bin .lss) [t82, t81]) fun g t83 => IF3 g t83 (fun g => GO3 g (SEQ3 (W M c (law23_TraceRises_p 98)) Q) .normal E D H) (fun g => GO3 g (SEQ3 (W M c (law23_TraceRises_p 98)) Q) (.exit 6) E D H)) ∧
 (∀ Q E D H, W M c (law23_TraceRises_p 57) true Q E D H =
  LK true (lk E 6) fun g t6 => B3 g ((Op.bin .add) [t6, (.int .i64 1)]) fun g t41 => GO3 g Q .normal ((6, t41)::E) D H) ∧
 (∀ Q E D H, W M c (law23_TraceRises_p 98) true Q E D H =
  LK true (lk E 82) fun g t82 => LK g (lk E 9) fun g t9 => LK g (lk E 0) fun g t0 => LK g (lk E 8) fun g t8 => B3 g ((Op.indexSl 1) [t0, t8]) fun g t88 => B3 g (Op.load1 [t88] H) fun g t89 => B3 g (Op.lenSl [t89]) fun g t90 => B3 g ((Op.bin .lss) [t9, t90]) fun g t91 => JN (fun (k : Bool → AV → AV → AV → AV → AV → AV → AV → AV → AV → AV → AV → AV → AHeap → Prop) => B3 g (wantV true (some t91)) fun g w => IG3 g w (fun g => LK g (lk E 7) fun g t7 => B3 g ((Op.indexSl 9) [t7, t82]) fun g t95 => B3 g ((Op.loadN 9) [t95] H) fun g t96 => B3 g ((Op.indexSl 1) [t0, t8]) fun g t99 => B3 g (Op.load1 [t99] H) fun g t100 => B3 g ((Op.indexSl 9) [t100, t9]) fun g t102 => B3 g ((Op.loadN 9) [t102] H) fun g t103 => B3 g ((Op.eq (.agg (.part 0 none .int (.part 1 none .int (.part 2 none .int (.part 3 none .int (.part 4 none .int (.part 5 none .int (.part 6 none .int (.part 7 none .int (.part 8 none .int .nil)))))))))) false) [t96, t103] H) fun g t104 => k g t104 t103 t102 t9 t100 t99 t8 t0 t96 t95 t82 t7 H) (fun g => k g uu uu uu uu uu uu uu uu uu uu uu uu H)) (fun g t104_1 t103_1 t102_1 t101_1 t100_1 t99_1 t98_1 t97_1 t96_1 t95_1 t94_1 t93_1 H1 => B3 g (Op.pick [t91, t104_1, (.bool false)]) fun g t105 => IF3 g t105 (fun g => LK g (lk E 9) fun g t9_1 => B3 g ((Op.bin .add) [t9_1, (.int .i64 1)]) fun g t107 => GO3 g (BLK3 7 (SEQ3 (W M c (law23_TraceRises_p 107)) Q)) .normal ((9, t107)::(10, t82)::E) D H1) (fun g => GO3 g (BLK3 7 (SEQ3 (W M c (law23_TraceRises_p 107)) Q)) .normal ((10, t82)::E) D H1))) ∧
 (∀ Q E D H, W M c (law23_TraceRises_p 107) true Q E D H =
  LK true (lk E 82) fun g t82 => B3 g ((Op.bin .add) [t82, (.int .i64 1)]) fun g t108 => GO3 g Q .normal ((82, t108)::E) D H) := by (repeat' apply And.intro) <;> (intro _ _ _ _; refine W_unf ?_; kernel_rfl)
theorem law23_TraceRises_f : (cProg Tryd.prog).func N_law23_TraceRises = some law23_TraceRises_F ∧ law23_TraceRises_F.results = [.tmp 2] := pair_rfl (by kernel_rfl)
theorem law23_TraceRises_at {M : Mac} [MK M] : M.func N_law23_TraceRises = some law23_TraceRises_F := MK.at (by decide) law23_TraceRises_f.1
theorem law23_TraceRises_s {M : Mac} [MK M] {a0 : AV} {H : AHeap} {Q : AEnd → AHeap → Prop} (h : W M ⟨none, N_law23_TraceRises⟩ (law23_TraceRises_p 0) true (FIN3 M [.tmp 2] Q) [(0, a0)] [] H) : CALLE M N_law23_TraceRises [a0] H Q :=
  calle law23_TraceRises_at (ks := law23_TraceRises_K) (by kernel_rfl) (by rw [law23_TraceRises_f.2]; exact h)
def law23_TraceMerged_F : AFunc := funcAt Tryd.prog N_law23_TraceMerged
def law23_TraceMerged_K : Kp := ⟨[0, 1, 4, 5, 6, 7, 8, 9, 10, 11, 12, 13, 14, 15, 26, 27], false, [0, 4, 12, 17, 23, 27, 35, 42, 43, 45, 50, 56, 61, 62, 66, 70, 74, 82]⟩
def law23_TraceMerged_p (k : Nat) : Kp × ACode := (law23_TraceMerged_K, part law23_TraceMerged_F.body k)
theorem law23_TraceMerged_w (M : Mac) (c : Ctx) : (∀ Q E D H, W M c (law23_TraceMerged_p 0) true Q E D H =
  C3 M true (.func N_law23_alive) [] H fun g t16 H1 => W M c (law23_TraceMerged_p 4) g Q ((5, t16)::(4, (.bool false))::E) D H1) ∧
 (∀ Q E D H, W M c (law23_TraceMerged_p 4) true Q E D H =
  LK true (lk E 0) fun g t0 => B3 g (Op.lenSl [t0]) fun g t18 => B3 g ((Op.bin .gtr) [t18, (.int .i64 300)]) fun g t19 => JN (fun (k : Bool → AV → AV → AHeap → Prop) => B3 g (wantV false (some t19)) fun g w => IG3 g w (fun g => LK g (lk E 5) fun g t5 => B3 g ((Op.un .not) [t5]) fun g t22 => k g t22 t5 H) (fun g => k g uu uu H)) (fun g t22_1 t21_1 H1 => B3 g (Op.pick [t19, (.bool true), t22_1]) fun g t23 => IF3 g t23 (fun g => LK g (lk E 5) fun g t5_1 => GO3 g (SEQ3 (W M c (law23_TraceMerged_p 12)) Q) .ret ((4, t5_1)::E) D H1) (fun g => GO3 g (SEQ3 (W M c (law23_TraceMerged_p 12)) Q) .normal E D H1))) ∧
 (∀ Q E D H, W M c (law23_TraceMerged_p 12) true Q E D H =
  LK true (lk E 0) fun g t0 => B3 g (Op.lenSl [t0]) fun g t26 => LOOP3 (W M c (law23_TraceMerged_p 17)) (BLK3 0 (SEQ3 (W M c (law23_TraceMerged_p 43)) Q)) ((27, (.int .i64 0))::(26, t26)::E) D H) ∧
 (∀ Q E D H, W M c (law23_TraceMerged_p 43) true Q E D H =
  W M c (law23_TraceMerged_p 45) true Q ((7, .nils)::E) D H) ∧
 (∀ Q E D H, W M c (law23_TraceMerged_p 17) true Q E D H =
  LK true (lk E 27) fun g t27 => LK g (lk E 26) fun g t26 => B3 g ((Op.bin .lss) [t27, t26]) fun g t28 => IF3 g t28 (fun g => GO3 g (SEQ3 (W M c (law23_TraceMerged_p 23)) Q) .normal E D H) (fun g => GO3 g (SEQ3 (W M c (law23_TraceMerged_p 23)) Q) (.exit 0) E D H)) ∧
 (∀ Q E D H, W M c (law23_TraceMerged_p 45) true Q E D H =
  LOOP3 (W M c (law23_TraceMerged_p 50)) (BLK3 2 (SEQ3 (W M c (law23_TraceMerged_p 62)) Q)) ((8, (.int .i64 0))::E) D H) ∧
 (∀ Q E D H, W M c (law23_TraceMerged_p 23) true Q E D H =
  LK true (lk E 27) fun g t27 => W M c (law23_TraceMerged_p 27) g (BLK3 1 (SEQ3 (W M c (law23_TraceMerged_p 42)) Q)) ((6, t27)::E) D H) ∧
 (∀ Q E D H, W M c (law23_TraceMerged_p 62) true Q E D H =
  LK true (lk E 7) fun g t7 => C3 M g (.func N_trace_Merge) [t7] H fun g t111 H1 => LK g (lk E 0) fun g t0 => LK g (lk E 1) fun g t1 => C3 M g (.func N_trace_Between) [t0, (.int .i64 0), t1] H1 fun g t114 H2 => W M c (law23_TraceMerged_p 66) g Q ((11, t114)::(10, t111)::E) D H2) ∧
 (∀ Q E D H, W M c (law23_TraceMerged_p 50) true Q E D H =
  LK true (lk E 8) fun g t8 => B3 g ((Op.bin .lss) [t8, (.int .i64 4)]) fun g t100 => IF3 g t100 (fun g => GO3 g (SEQ3 (W M c (law23_TraceMerged_p 56)) Q) .normal E D H) (fun g => GO3 g (SEQ3 (W M c (law23_TraceMerged_p 56)) Q) (.exit 2) E D H)) ∧
 (∀ Q E D H, W M c (law23_TraceMerged_p 42) true Q E D H =
  LK true (lk E 27) fun g t27 => B3 g ((Op.bin .add) [t27, (.int .i64 1)]) fun g t98 => GO3 g Q .normal ((27, t98)::E) D H) ∧
 (∀ Q E D H, W M c (law23_TraceMerged_p 27) true Q E D H =
  LK true (lk E 0) fun g t0 => LK g (lk E 6) fun g t6 => B3 g ((Op.indexSl 9) [t0, t6]) fun g t32 => B3 g ((Op.fieldAddr 2) [t32]) fun g t33 => B3 g (Op.load1 [t33] H) fun g t34 => B3 g ((Op.bin .lss) [t34, (.int .i64 0)]) fun g t35 => JN (fun (k : Bool → AV → AV → AV → AV → AV → AV → AHeap → Prop) => B3 g (wantV false (some t35)) fun g w => IG3 g w (fun g => B3 g ((Op.indexSl 9) [t0, t6]) fun g t39 => B3 g ((Op.fieldAddr 2) [t39]) fun g t40 => B3 g (Op.load1 [t40] H) fun g t41 => B3 g ((Op.bin .geq) [t41, (.int .i64 4)]) fun g t42 => k g t42 t41 t40 t39 t6 t0 H) (fun g => k g uu uu uu uu uu uu H)) (fun g t42_1 t41_1 t40_1 t39_1 t38_1 t37_1 H1 => B3 g (Op.pick [t35, (.bool true), t42_1]) fun g t43 => JN (fun (k : Bool → AV → AV → AV → AV → AV → AV → AHeap → Prop) => B3 g (wantV false (some t43)) fun g w => IG3 g w (fun g => B3 g ((Op.indexSl 9) [t0, t6]) fun g t47 => B3 g ((Op.fieldAddr 1) [t47]) fun g t48 => B3 g (Op.load1 [t48] H1) fun g t49 => B3 g ((Op.bin .lss) [t49, (.int .i64 0)]) fun g t50 => k g t50 t49 t48 t47 t6 t0 H1) (fun g => k g uu uu uu uu uu uu H1)) (fun g t50_1 t49_1 t48_1 t47_1 t46_1 t45_1 H2 => B3 g (Op.pick [t43, (.bool true), t50_1]) fun g t51 => IF3 g t51 (fun g => LK g (lk E 5) fun g t5 => GO3 g (SEQ3 (W M c (law23_TraceMerged_p 35)) Q) .ret ((4, t5)::E) D H2) (fun g => GO3 g (SEQ3 (W M c (law23_TraceMerged_p 35)) Q) .normal E D H2)))) ∧
 (∀ Q E D H, W M c (law23_TraceMerged_p 66) true Q E D H =
  LK true (lk E 0) fun g t0 => LK g (lk E 1) fun g t1 => C3 M g (.func N_trace_Between) [t0, t1, (.int .i64 4611686018427387904)] H fun g t117 H1 => LK g (lk E 0) fun g t0_1 => C3 M g (.func N_trace_Between) [t0_1, (.int .i64 4611686018427387904), (.int .i64 9223372036854775807)] H1 fun g t119 H2 => W M c (law23_TraceMerged_p 70) g Q ((13, t119)::(12, t117)::E) D H2) ∧
 (∀ Q E D H, W M c (law23_TraceMerged_p 56) true Q E D H =
  LK true (lk E 0) fun g t0 => LK g (lk E 8) fun g t8 => C3 M g (.func N_trace_Of) [t0, t8] H fun g t105 H1 => LK g (lk E 7) fun g t7 => B32 g ((Op.buildSlice T__6 1 [.nils] [(0, 1)]) [t105]) fun g o2 k2 => B32 g ((Op.append T__6 1 24) [t7, (k2 H1.next)] (H1.alloc o2)) fun g t109 H3 => GO3 g (BLK3 3 (SEQ3 (W M c (law23_TraceMerged_p 61)) Q)) .normal ((7, t109)::(9, t105)::E) D H3) ∧
 (∀ Q E D H, W M c (law23_TraceMerged_p 35) true Q E D H =
  LK true (lk E 6) fun g t6 => B3 g ((Op.bin .gtr) [t6, (.int .i64 0)]) fun g t54 => JN (fun (k : Bool → AV → AV → AV → AV → AV → AV → AV → AV → AV → AV → AV → AV → AV → AHeap → Prop) => B3 g (wantV true (some t54)) fun g w => IG3 g w (fun g => LK g (lk E 0) fun g t0 => B3 g ((Op.indexSl 9) [t0, t6]) fun g t58 => B3 g ((Op.fieldAddr 1) [t58]) fun g t59 => B3 g (Op.load1 [t59] H) fun g t60 => B3 g ((Op.bin .sub) [t6, (.int .i64 1)]) fun g t63 => B3 g ((Op.indexSl 9) [t0, t63]) fun g t64 => B3 g ((Op.fieldAddr 1) [t64]) fun g t65 => B3 g (Op.load1 [t65] H) fun g t66 => B3 g ((Op.bin .lss) [t60, t66]) fun g t67 => k g t67 t67 t66 t65 t64 t63 t6 t0 t60 t59 t58 t6 t0 H) (fun g => k g uu uu uu uu uu uu uu uu uu uu uu uu uu H)) (fun g t68_1 t67_1 t66_1 t65_1 t64_1 t63_1 t62_1 t61_1 t60_1 t59_1 t58_1 t57_1 t56_1 H1 => JN (fun (k : Bool → AV → AV → AV → AV → AV → AV → AV → AV → AV → AV → AV → AV → AV → AHeap → Prop) => B3 g (wantV false (some t68_1)) fun g w => IG3 g w (fun g => LK g (lk E 0) fun g t0_1 => B3 g ((Op.indexSl 9) [t0_1, t6]) fun g t71 => B3 g ((Op.fieldAddr 1) [t71]) fun g t72 => B3 g (Op.load1 [t72] H1) fun g t73 => B3 g ((Op.bin .sub) [t6, (.int .i64 1)]) fun g t76 => B3 g ((Op.indexSl 9) [t0_1, t76]) fun g t77 => B3 g ((Op.fieldAddr 1) [t77]) fun g t78 => B3 g (Op.load1 [t78] H1) fun g t79 => B3 g ((Op.bin .eql) [t73, t79]) fun g t80 => k g t80 t80 t79 t78 t77 t76 t6 t0_1 t73 t72 t71 t6 t0_1 H1) (fun g => k g uu uu uu uu uu uu uu uu uu uu uu uu uu H1)) (fun g t81_1 t80_1 t79_1 t78_1 t77_1 t76_1 t75_1 t74_1 t73_1 t72_1 t71_1 t70_1 t69_1 H2 => JN (fun (k : Bool → AV → AV → AV → AV → AV → AV → AV → AV → AV → AV → AV → AV → AHeap → Prop) => B3 g (wantV true (some t81_1)) fun g w => IG3 g w (fun g => LK g (lk E 0) fun g t0_2 => B3 g ((Op.indexSl 9) [t0_2, t6]) fun g t84 => B3 g ((Op.fieldAddr 2) [t84]) fun g t85 => B3 g (Op.load1 [t85] H2) fun g t86 => B3 g ((Op.bin .sub) [t6, (.int .i64 1)]) fun g t89 => B3 g ((Op.indexSl 9) [t0_2, t89]) fun g t90 => B3 g ((Op.fieldAddr 2) [t90]) fun g t91 => B3 g (Op.load1 [t91] H2) fun g t92 => B3 g ((Op.bin .lss) [t86, t92]) fun g t93 => k g t93 t92 t91 t90 t89 t6 t0_2 t86 t85 t84 t6 t0_2 H2) (fun g => k g uu uu uu uu uu uu uu uu uu uu uu uu H2)) (fun g t93_1 t92_1 t91_1 t90_1 t89_1 t88_1 t87_1 t86_1 t85_1 t84_1 t83_1 t82_1 H3 => JN (fun (k : Bool → AV → AHeap → Prop) => B3 g (wantV false (some t68_1)) fun g w => IG3 g w (fun g => B3 g (Op.pick [t81_1, t93_1, (.bool false)]) fun g t94 => k g t94 H3) (fun g => k g uu H3)) (fun g t94_1 H4 => JN (fun (k : Bool → AV → AHeap → Prop) => B3 g (wantV true (some t54)) fun g w => IG3 g w (fun g => B3 g (Op.pick [t68_1, (.bool true), t94_1]) fun g t95 => k g t95 H4) (fun g => k g uu H4)) (fun g t95_1 H5 => B3 g (Op.pick [t54, t95_1, (.bool false)]) fun g t96 => IF3 g t96 (fun g => LK g (lk E 5) fun g t5 => GO3 g Q .ret ((4, t5)::E) D H5) (fun g => GO3 g Q .normal E D H5))))))) ∧
 (∀ Q E D H, W M c (law23_TraceMerged_p 70) true Q E D H =
  LK true (lk E 0) fun g t0 => B3 g (Op.lenSl [t0]) fun g t121 => LK g (lk E 11) fun g t11 => B3 g (Op.lenSl [t11]) fun g t123 => B3 g ((Op.bin .sub) [t121, t123]) fun g t124 => LK g (lk E 12) fun g t12 => B3 g (Op.lenSl [t12]) fun g t126 => B3 g ((Op.bin .sub) [t124, t126]) fun g t127 => LK g (lk E 13) fun g t13 => B3 g (Op.lenSl [t13]) fun g t129 => B3 g ((Op.bin .sub) [t127, t129]) fun g t130 => LK g (lk E 11) fun g t11_1 => LK g (lk E 12) fun g t12_1 => LK g (lk E 13) fun g t13_1 => B32 g ((Op.buildSlice T__6 3 [.nils] [(0, 1), (1, 1), (2, 1)]) [t11_1, t12_1, t13_1]) fun g o1 k1 => C3 M g (.func N_trace_Merge) [(k1 H.next)] (H.alloc o1) fun g t135 H2 => W M c (law23_TraceMerged_p 74) g Q ((15, t135)::(14, t130)::E) D H2) ∧
 (∀ Q E D H, W M c (law23_TraceMerged_p 61) true Q E D H =
  LK true (lk E 8) fun g t8 => B3 g ((Op.bin .add) [t8, (.int .i64 1)]) fun g t102 => GO3 g Q .normal ((8, t102)::E) D H) ∧
 (∀ Q E D H, W M c (law23_TraceMerged_p 74) true Q E D H =
  LK true (lk E 1) fun g t1 => B3 g ((Op.bin .lss) [t1, (.int .i64 0)]) fun g t137 => JN (fun (k : Bool → AV → AV → AHeap → Prop) => B3 g (wantV false (some t137)) fun g w => IG3 g w (fun g => B3 g ((Op.bin .gtr) [t1, (.int .i64 4611686018427387904)]) fun g t140 => k g t140 t1 H) (fun g => k g uu uu H)) (fun g t140_1 t139_1 H1 => B3 g (Op.pick [t137, (.bool true), t140_1]) fun g t141 => JN (fun (k : Bool → AV → AV → AHeap → Prop) => B3 g (wantV false (some t141)) fun g w => IG3 g w (fun g => LK g (lk E 14) fun g t14 => B3 g ((Op.bin .neq) [t14, (.int .i64 0)]) fun g t144 => k g t144 t14 H1) (fun g => k g uu uu H1)) (fun g t144_1 t143_1 H2 => B3 g (Op.pick [t141, (.bool true), t144_1]) fun g t145 => IF3 g t145 (fun g => LK g (lk E 5) fun g t5 => JN (fun (k : Bool → AV → AV → AV → AHeap → Prop) => B3 g (wantV true (some t5)) fun g w => IG3 g w (fun g => LK g (lk E 10) fun g t10 => LK g (lk E 0) fun g t0 => C3 M g (.func N_ref23_Same) [t10, t0] H2 fun g t150 H3 => k g t150 t0 t10 H3) (fun g => k g uu uu uu H2)) (fun g t150_1 t149_1 t148_1 H4 => B3 g (Op.pick [t5, t150_1, (.bool false)]) fun g t151 => GO3 g (SEQ3 (W M c (law23_TraceMerged_p 82)) Q) .ret ((4, t151)::E) D H4)) (fun g => GO3 g (SEQ3 (W M c (law23_TraceMerged_p 82)) Q) .normal E D H2)))) ∧
 (∀ Q E D H, W M c (law23_TraceMerged_p 82) true Q E D H =
  LK true (lk E 5) fun g t5 => JN (fun (k : Bool → AV → AV → AV → AHeap → Prop) => B3 g (wantV true (some t5)) fun g w => IG3 g w (fun g => LK g (lk E 10) fun g t10 => LK g (lk E 0) fun g t0 => C3 M g (.func N_ref23_Same) [t10, t0] H fun g t156 H1 => k g t156 t0 t10 H1) (fun g => k g uu uu uu H)) (fun g t156_1 t155_1 t154_1 H2 => B3 g (Op.pick [t5, t156_1, (.bool false)]) fun g t157 => JN (fun (k : Bool → AV → AV → AV → AHeap → Prop) => B3 g (wantV true (some t157)) fun g w => IG3 g w (fun g => LK g (lk E 15) fun g t15 => LK g (lk E 0) fun g t0_1 => C3 M g (.func N_ref23_Same) [t15, t0_1] H2 fun g t161 H3 => k g t161 t0_1 t15 H3) (fun g => k g uu uu uu H2)) (fun g t161_1 t160_1 t159_1 H4 => B3 g (Op.pick [t157, t161_1, (.bool false)]) fun g t162 => GO3 g Q .ret ((4, t162)::E) D H4))) := by (repeat' apply And.intro) <;> (intro _ _ _ _; refine W_unf ?_; kernel_rfl)
theorem law23_TraceMerged_f : (cProg Tryd.prog).func N_law23_TraceMerged = some law23_TraceMerged_F ∧ law23_TraceMerged_F.results = [.tmp 4] := pair_rfl (by kernel_rfl)
theorem law23_TraceMerged_at {M : Mac} [MK M] : M.func N_law23_TraceMerged = some law23_TraceMerged_F := MK.at (by decide) law23_TraceMerged_f.1
theorem law23_TraceMerged_s {M : Mac} [MK M] {a0 a1 : AV} {H : AHeap} {Q : AEnd → AHeap → Prop} (h : W M ⟨none, N_law23_TraceMerged⟩ (law23_TraceMerged_p 0) true (FIN3 M [.tmp 4] Q) [(0, a0), (1, a1)] [] H) : CALLE M N_law23_TraceMerged [a0, a1] H Q :=
  calle law23_TraceMerged_at (ks := law23_TraceMerged_K) (by kernel_rfl) (by rw [law23_TraceMerged_f.2]; exact h)
def trace_Merge_F : AFunc := funcAt Tryd.prog N_trace_Merge
def trace_Merge_K : Kp := ⟨[0, 2, 3, 4, 5, 9, 10], false, [0, 4, 8, 11, 16, 22, 31, 32, 40]⟩
def trace_Merge_p (k : Nat) : Kp × ACode := (trace_Merge_K, part trace_Merge_F.body k)
theorem trace_Merge_w (M : Mac) (c : Ctx) : (∀ Q E D H, W M c (trace_Merge_p 0) true Q E D H =
  LK true (lk E 0) fun g t0 => C3 M g (.func N_slices_Clone_s_api_Event) [t0] H fun g t7 H1 => W M c (trace_Merge_p 4) g Q ((0, t7)::(2, .nils)::E) D H1) ∧
 (∀ Q E D H, W M c (trace_Merge_p 4) true Q E D H =
  LOOP3 (W M c (trace_Merge_p 8)) (BLK3 0 Q) ((3, .nils)::E) D H) ∧
 (∀ Q E D H, W M c (trace_Merge_p 8) true Q E D H =
  W M c (trace_Merge_p 11) true (BLK3 1 Q) ((4, (.int .i64 (-1)))::E) D H) ∧
 (∀ Q E D H, W M c (trace_Merge_p 11) true Q E D H =
  LK true (lk E 0) fun g t0 => B3 g (Op.lenSl [t0]) fun g t9 => LOOP3 (W M c (trace_Merge_p 16)) (BLK3 2 (SEQ3 (W M c (trace_Merge_p 32)) Q)) ((10, (.int .i64 0))::(9, t9)::E) D H) ∧
 (∀ Q E D H, W M c (trace_Merge_p 32) true Q E D H =
  LK true (lk E 4) fun g t4 => B3 g ((Op.bin .lss) [t4, (.int .i64 0)]) fun g t43 => IF3 g t43 (fun g => LK g (lk E 3) fun g t3 => GO3 g (SEQ3 (W M c (trace_Merge_p 40)) Q) .ret ((2, t3)::E) D H) (fun g => GO3 g (SEQ3 (W M c (trace_Merge_p 40)) Q) .normal E D H)) ∧
 (∀ Q E D H, W M c (trace_Merge_p 16) true Q E D H =
  LK true (lk E 10) fun g t10 => LK g (lk E 9) fun g t9 => B3 g ((Op.bin .lss) [t10, t9]) fun g t11 => IF3 g t11 (fun g => GO3 g (SEQ3 (W M c (trace_Merge_p 22)) Q) .normal E D H) (fun g => GO3 g (SEQ3 (W M c (trace_Merge_p 22)) Q) (.exit 2) E D H)) ∧
 (∀ Q E D H, W M c (trace_Merge_p 40) true Q E D H =
  LK true (lk E 3) fun g t3 => LK g (lk E 0) fun g t0 => LK g (lk E 4) fun g t4 => B3 g ((Op.indexSl 1) [t0, t4]) fun g t48 => B3 g (Op.load1 [t48] H) fun g t49 => B3 g ((Op.indexSl 9) [t49, (.int .i64 0)]) fun g t50 => B3 g ((Op.loadN 9) [t50] H) fun g t51 => B32 g ((Op.buildSlice T_api_Event 1 [(.int .i64 0), (.int .i64 0), (.int .i64 0), (.int .i64 0), (.int .i64 0), (.int .i64 0), (.int .i64 0), (.int .u64 0), (.int .i64 0)] [(0, 9)]) [t51]) fun g o1 k1 => B32 g ((Op.append T_api_Event 9 72) [t3, (k1 H.next)] (H.alloc o1)) fun g t53 H2 => LK g (lk E 0) fun g t0_1 => LK g (lk E 4) fun g t4_1 => B3 g ((Op.indexSl 1) [t0_1, t4_1]) fun g t58 => B3 g (Op.load1 [t58] H2) fun g t59 => B3 g ((Op.sliceSl 9 [(some 0), none, none]) [t59, (.int .i64 1)]) fun g t60 => B3 g ((Op.indexSl 1) [t0_1, t4_1]) fun g t61 => B32 g ((Op.store 1) [t61, t60] H2) fun g u H3 => GO3 g Q .normal ((3, t53)::E) D H3) ∧
 (∀ Q E D H, W M c (trace_Merge_p 22) true Q E D H =
  LK true (lk E 10) fun g t10 => LK g (lk E 0) fun g t0 => B3 g ((Op.indexSl 1) [t0, t10]) fun g t15 => B3 g (Op.load1 [t15] H) fun g t16 => B3 g (Op.lenSl [t16]) fun g t17 => B3 g ((Op.bin .gtr) [t17, (.int .i64 0)]) fun g t18 => JN (fun (k : Bool → AV → AV → AV → AHeap → Prop) => B3 g (wantV true (some t18)) fun g w => IG3 g w (fun g => LK g (lk E 4) fun g t4 => B3 g ((Op.bin .lss) [t4, (.int .i64 0)]) fun g t21 => k g t21 t21 t4 H) (fun g => k g uu uu uu H)) (fun g t22_1 t21_1 t20_1 H1 => JN (fun (k : Bool → AV → AV → AV → AV → AV → AV → AV → AV → AV → AV → AV → AV → AV → AV → AV → AHeap → Prop) => B3 g (wantV false (some t22_1)) fun g w => IG3 g w (fun g => B3 g ((Op.indexSl 1) [t0, t10]) fun g t25 => B3 g (Op.load1 [t25] H1) fun g t26 => B3 g ((Op.indexSl 9) [t26, (.int .i64 0)]) fun g t27 => B3 g ((Op.fieldAddr 1) [t27]) fun g t28 => B3 g (Op.load1 [t28] H1) fun g t29 => LK g (lk E 4) fun g t4_1 => B3 g ((Op.indexSl 1) [t0, t4_1]) fun g t32 => B3 g (Op.load1 [t32] H1) fun g t33 => B3 g ((Op.indexSl 9) [t33, (.int .i64 0)]) fun g t34 => B3 g ((Op.fieldAddr 1) [t34]) fun g t35 => B3 g (Op.load1 [t35] H1) fun g t36 => B3 g ((Op.bin .lss) [t29, t36]) fun g t37 => k g t37 t36 t35 t34 t33 t32 t4_1 t0 t29 t28 t27 t26 t25 t10 t0 H1) (fun g => k g uu uu uu uu uu uu uu uu uu uu uu uu uu uu uu H1)) (fun g t37_1 t36_1 t35_1 t34_1 t33_1 t32_1 t31_1 t30_1 t29_1 t28_1 t27_1 t26_1 t25_1 t24_1 t23_1 H2 => JN (fun (k : Bool → AV → AHeap → Prop) => B3 g (wantV true (some t18)) fun g w => IG3 g w (fun g => B3 g (Op.pick [t22_1, (.bool true), t37_1]) fun g t38 => k g t38 H2) (fun g => k g uu H2)) (fun g t38_1 H3 => B3 g (Op.pick [t18, t38_1, (.bool false)]) fun g t39 => IF3 g t39 (fun g => GO3 g (BLK3 3 (SEQ3 (W M c (trace_Merge_p 31)) Q)) .normal ((4, t10)::(5, t10)::E) D H3) (fun g => GO3 g (BLK3 3 (SEQ3 (W M c (trace_Merge_p 31)) Q)) .normal ((5, t10)::E) D H3))))) ∧
 (∀ Q E D H, W M c (trace_Merge_p 31) true Q E D H =
  LK true (lk E 10) fun g t10 => B3 g ((Op.bin .add) [t10, (.int .i64 1)]) fun g t41 => GO3 g Q .normal ((10, t41)::E) D H) := by (repeat' apply And.intro) <;> (intro _ _ _ _; refine W_unf ?_; kernel_rfl)
theorem trace_Merge_f : (cProg Tryd.prog).func N_trace_Merge = some trace_Merge_F ∧ trace_Merge_F.results = [.tmp 2] := pair_rfl (by kernel_rfl)
theorem trace_Merge_at {M : Mac} [MK M] : M.func N_trace_Merge = some trace_Merge_F := MK.at (by decide) trace_Merge_f.1
theorem trace_Merge_s {M : Mac} [MK M] {a0 : AV} {H : AHeap} {Q : AEnd → AHeap → Prop} (h : W M ⟨none, N_trace_Merge⟩ (trace_Merge_p 0) true (FIN3 M [.tmp 2] Q) [(0, a0)] [] H) : CALLE M N_trace_Merge [a0] H Q :=
  calle trace_Merge_at (ks := trace_Merge_K) (by kernel_rfl) (by rw [trace_Merge_f.2]; exact h)
def ref23_Same_F : AFunc := funcAt Tryd.prog N_ref23_Same
def ref23_Same_K : Kp := ⟨[0, 1, 4, 5], false, [0, 2, 10, 15, 21, 30, 31]⟩
def ref23_Same_p (k : Nat) : Kp × ACode := (ref23_Same_K, part ref23_Same_F.body k)
theorem ref23_Same_w (M : Mac) (c : Ctx) : (∀ Q E D H, W M c (ref23_Same_p 0) true Q E D H =
  W M c (ref23_Same_p 2) true Q ((4, (.bool false))::E) D H) ∧
 (∀ Q E D H, W M c (ref23_Same_p 2) true Q E D H =
  LK true (lk E 0) fun g t0 => B3 g (Op.lenSl [t0]) fun g t7 => LK g (lk E 1) fun g t1 => B3 g (Op.lenSl [t1]) fun g t9 => B3 g ((Op.bin .neq) [t7, t9]) fun g t10 => IF3 g t10 (fun g => GO3 g (SEQ3 (W M c (ref23_Same_p 10)) Q) .ret ((4, (.bool false))::E) D H) (fun g => GO3 g (SEQ3 (W M c (ref23_Same_p 10)) Q) .normal E D H)) ∧
 (∀ Q E D H, W M c (ref23_Same_p 10) true Q E D H =
  LOOP3 (W M c (ref23_Same_p 15)) (BLK3 0 (SEQ3 (W M c (ref23_Same_p 31)) Q)) ((5, (.int .i64 0))::E) D H) ∧
 (∀ Q E D H, W M c (ref23_Same_p 31) true Q E D H =
  GO3 true Q .ret ((4, (.bool true))::E) D H) ∧
 (∀ Q E D H, W M c (ref23_Same_p 15) true Q E D H =
  LK true (lk E 5) fun g t5 => LK g (lk E 0) fun g t0 => B3 g (Op.lenSl [t0]) fun g t13 => B3 g ((Op.bin .lss) [t5, t13]) fun g t14 => IF3 g t14 (fun g => GO3 g (SEQ3 (W M c (ref23_Same_p 21)) Q) .normal E D H) (fun g => GO3 g (SEQ3 (W M c (ref23_Same_p 21)) Q) (.exit 0) E D H)) ∧
 (∀ Q E D H, W M c (ref23_Same_p 21) true Q E D H =
  LK true (lk E 0) fun g t0 => LK g (lk E 5) fun g t5 => B3 g ((Op.indexSl 9) [t0, t5]) fun g t19 => B3 g ((Op.loadN 9) [t19] H) fun g t20 => LK g (lk E 1) fun g t1 => B3 g ((Op.indexSl 9) [t1, t5]) fun g t23 => B3 g ((Op.loadN 9) [t23] H) fun g t24 => B3 g ((Op.eq (.agg (.part 0 none .int (.part 1 none .int (.part 2 none .int (.part 3 none .int (.part 4 none .int (.part 5 none .int (.part 6 none .int (.part 7 none .int (.part 8 none .int .nil)))))))))) true) [t20, t24] H) fun g t25 => IF3 g t25 (fun g => GO3 g (BLK3 1 (SEQ3 (W M c (ref23_Same_p 30)) Q)) .ret ((4, (.bool false))::E) D H) (fun g => GO3 g (BLK3 1 (SEQ3 (W M c (ref23_Same_p 30)) Q)) .normal E D H)) ∧
 (∀ Q E D H, W M c (ref23_Same_p 30) true Q E D H =
  LK true (lk E 5) fun g t5 => B3 g ((Op.bin .add) [t5, (.int .i64 1)]) fun g t16 => GO3 g Q .normal ((5, t16)::E) D H) := by (repeat' apply And.intro) <;> (intro _ _ _ _; refine W_unf ?_; kernel_rfl)
theorem ref23_Same_f : (cProg Tryd.prog).func N_ref23_Same = some ref23_Same_F ∧ ref23_Same_F.results = [.tmp 4] := pair_rfl (by kernel_rfl)
theorem ref23_Same_at {M : Mac} [MK M] : M.func N_ref23_Same = some ref23_Same_F := MK.at (by decide) ref23_Same_f.1
theorem ref23_Same_s {M : Mac} [MK M] {a0 a1 : AV} {H : AHeap} {Q : AEnd → AHeap → Prop} (h : W M ⟨none, N_ref23_Same⟩ (ref23_Same_p 0) true (FIN3 M [.tmp 4] Q) [(0, a0), (1, a1)] [] H) : CALLE M N_ref23_Same [a0, a1] H Q :=
  calle ref23_Same_at (ks := ref23_Same_K) (by kernel_rfl) (by rw [ref23_Same_f.2]; exact h)
def trace_Of_F : AFunc := funcAt Tryd.prog N_trace_Of
def trace_Of_K : Kp := ⟨[0, 1, 3, 4], false, [0]⟩
def trace_Of_p (k : Nat) : Kp × ACode := (trace_Of_K, part trace_Of_F.body k)
theorem trace_Of_w (M : Mac) (c : Ctx) : (∀ Q E D H, W M c (trace_Of_p 0) true Q E D H =
  LK true (lk E 1) fun g t1 => A3 g T_int (AV.cells t1) H fun g t3 H1 => LK g (lk E 0) fun g t0 => B3 g ((Op.mkFunc N_trace_Of_1 0) [t3]) fun g t6 => C3 M g (.func N_trace_sift_api_Event) [t0, t6] H1 fun g t7 H2 => GO3 g Q .ret ((4, t7)::(4, .nils)::(3, t3)::E) D H2) := by intro _ _ _ _; refine W_unf ?_; kernel_rfl
theorem trace_Of_f : (cProg Tryd.prog).func N_trace_Of = some trace_Of_F ∧ trace_Of_F.results = [.tmp 4] := pair_rfl (by kernel_rfl)
theorem trace_Of_at {M : Mac} [MK M] : M.func N_trace_Of = some trace_Of_F := MK.at (by decide) trace_Of_f.1
theorem trace_Of_s {M : Mac} [MK M] {a0 a1 : AV} {H : AHeap} {Q : AEnd → AHeap → Prop} (h : W M ⟨none, N_trace_Of⟩ (trace_Of_p 0) true (FIN3 M [.tmp 4] Q) [(0, a0), (1, a1)] [] H) : CALLE M N_trace_Of [a0, a1] H Q :=
  calle trace_Of_at (ks := trace_Of_K) (by kernel_rfl) (by rw [trace_Of_f.2]; exact h)
def trace_Between_F : AFunc := funcAt Tryd.prog N_trace_Between
def trace_Between_K : Kp := ⟨[0, 1, 2, 4, 5, 6], false, [0]⟩
def trace_Between_p (k : Nat) : Kp × ACode := (trace_Between_K, part trace_Between_F.body k)
theorem trace_Between_w (M : Mac) (c : Ctx) : (∀ Q E D H, W M c (trace_Between_p 0) true Q E D H =
  LK true (lk E 1) fun g t1 => A3 g T_int (AV.cells t1) H fun g t4 H1 => LK g (lk E 2) fun g t2 => A3 g T_int (AV.cells t2) H1 fun g t5 H2 => LK g (lk E 0) fun g t0 => B3 g ((Op.mkFunc N_trace_Between_1 0) [t4, t5]) fun g t8 => C3 M g (.func N_trace_sift_api_Event) [t0, t8] H2 fun g t9 H3 => GO3 g Q .ret ((6, t9)::(6, .nils)::(5, t5)::(4, t4)::E) D H3) := by intro _ _ _ _; refine W_unf ?_; kernel_rfl
theorem trace_Between_f : (cProg Tryd.prog).func N_trace_Between = some trace_Between_F ∧ trace_Between_F.results = [.tmp 6] := pair_rfl (by kernel_rfl)
theorem trace_Between_at {M : Mac} [MK M] : M.func N_trace_Between = some trace_Between_F := MK.at (by decide) trace_Between_f.1
theorem trace_Between_s {M : Mac} [MK M] {a0 a1 a2 : AV} {H : AHeap} {Q : AEnd → AHeap → Prop} (h : W M ⟨none, N_trace_Between⟩ (trace_Between_p 0) true (FIN3 M [.tmp 6] Q) [(0, a0), (1, a1), (2, a2)] [] H) : CALLE M N_trace_Between [a0, a1, a2] H Q :=
  calle trace_Between_at (ks := trace_Between_K) (by kernel_rfl) (by rw [trace_Between_f.2]; exact h)
def slices_Clone_s_api_Event_F : AFunc := funcAt Tryd.prog N_slices_Clone_s_api_Event
def slices_Clone_s_api_Event_K : Kp := ⟨[0, 2], false, [0, 2, 10]⟩
def slices_Clone_s_api_Event_p (k : Nat) : Kp × ACode := (slices_Clone_s_api_Event_K, part slices_Clone_s_api_Event_F.body k)
theorem slices_Clone_s_api_Event_w (M : Mac) (c : Ctx) : (∀ Q E D H, W M c (slices_Clone_s_api_Event_p 0) true Q E D H =
  W M c (slices_Clone_s_api_Event_p 2) true Q ((2, .nils)::E) D H) ∧
 (∀ Q E D H, W M c (slices_Clone_s_api_Event_p 2) true Q E D H =
  LK true (lk E 0) fun g t0 => B3 g ((Op.eq .slice false) [t0, .nils] H) fun g t4 => IF3 g t4 (fun g => GO3 g (SEQ3 (W M c (slices_Clone_s_api_Event_p 10)) Q) .ret ((2, .nils)::E) D H) (fun g => GO3 g (SEQ3 (W M c (slices_Clone_s_api_Event_p 10)) Q) .normal E D H)) ∧
 (∀ Q E D H, W M c (slices_Clone_s_api_Event_p 10) true Q E D H =
  B32 true ((Op.buildSlice T__6 0 [.nils] []) []) fun g o1 k1 => LK g (lk E 0) fun g t0 => B32 g ((Op.append T__6 1 24) [(k1 H.next), t0] (H.alloc o1)) fun g t7 H2 => GO3 g Q .ret ((2, t7)::E) D H2) := by (repeat' apply And.intro) <;> (intro _ _ _ _; refine W_unf ?_; kernel_rfl)
theorem slices_Clone_s_api_Event_f : (cProg Tryd.prog).func N_slices_Clone_s_api_Event = some slices_Clone_s_api_Event_F ∧ slices_Clone_s_api_Event_F.results = [.tmp 2] := pair_rfl (by kernel_rfl)
theorem slices_Clone_s_api_Event_at {M : Mac} [MK M] : M.func N_slices_Clone_s_api_Event = some slices_Clone_s_api_Event_F := MK.at (by decide) slices_Clone_s_api_Event_f.1
theorem slices_Clone_s_api_Event_s {M : Mac} [MK M] {a0 : AV} {H : AHeap} {Q : AEnd → AHeap → Prop} (h : W M ⟨none, N_slices_Clone_s_api_Event⟩ (slices_Clone_s_api_Event_p 0) true (FIN3 M [.tmp 2] Q) [(0, a0)] [] H) : CALLE M N_slices_Clone_s_api_Event [a0] H Q :=
  calle slices_Clone_s_api_Event_at (ks := slices_Clone_s_api_Event_K) (by kernel_rfl) (by rw [slices_Clone_s_api_Event_f.2]; exact h)
def trace_sift_api_Event_F : AFunc := funcAt Tryd.prog N_trace_sift_api_Event
def trace_sift_api_Event_K : Kp := ⟨[0, 1, 4, 5, 7, 8, 9, 10], false, [0, 4, 9, 15, 24, 25]⟩
def trace_sift_api_Event_p (k : Nat) : Kp × ACode := (trace_sift_api_Event_K, part trace_sift_api_Event_F.body k)
theorem trace_sift_api_Event_w (M : Mac) (c : Ctx) : (∀ Q E D H, W M c (trace_sift_api_Event_p 0) true Q E D H =
  W M c (trace_sift_api_Event_p 4) true Q ((5, .nils)::(4, .nils)::E) D H) ∧
 (∀ Q E D H, W M c (trace_sift_api_Event_p 4) true Q E D H =
  LK true (lk E 0) fun g t0 => B3 g (Op.lenSl [t0]) fun g t9 => LOOP3 (W M c (trace_sift_api_Event_p 9)) (BLK3 0 (SEQ3 (W M c (trace_sift_api_Event_p 25)) Q)) ((10, (.int .i64 0))::(9, t9)::(8, t0)::E) D H) ∧
 (∀ Q E D H, W M c (trace_sift_api_Event_p 25) true Q E D H =
  LK true (lk E 5) fun g t5 => GO3 g Q .ret ((4, t5)::E) D H) ∧
 (∀ Q E D H, W M c (trace_sift_api_Event_p 9) true Q E D H =
  LK true (lk E 10) fun g t10 => LK g (lk E 9) fun g t9 => B3 g ((Op.bin .lss) [t10, t9]) fun g t11 => IF3 g t11 (fun g => GO3 g (SEQ3 (W M c (trace_sift_api_Event_p 15)) Q) .normal E D H) (fun g => GO3 g (SEQ3 (W M c (trace_sift_api_Event_p 15)) Q) (.exit 0) E D H)) ∧
 (∀ Q E D H, W M c (trace_sift_api_Event_p 15) true Q E D H =
  LK true (lk E 8) fun g t8 => LK g (lk E 10) fun g t10 => B3 g ((Op.indexSl 9) [t8, t10]) fun g t12 => B3 g ((Op.loadN 9) [t12] H) fun g t13 => A3 g T_api_Event [(.int .i64 0), (.int .i64 0), (.int .i64 0), (.int .i64 0), (.int .i64 0), (.int .i64 0), (.int .i64 0), (.int .u64 0), (.int .i64 0)] H fun g t7 H1 => B32 g ((Op.store 9) [t7, t13] H1) fun g u H2 => LK g (lk E 1) fun g t1 => B3 g ((Op.loadN 9) [t7] H2) fun g t15 => V3 g [t1, t15] fun g f vs => C3 M g f vs H2 fun g t16 H3 => IF3 g t16 (fun g => LK g (lk E 5) fun g t5 => B3 g ((Op.loadN 9) [t7] H3) fun g t18 => B32 g ((Op.buildSlice T_api_Event 1 [(.int .i64 0), (.int .i64 0), (.int .i64 0), (.int .i64 0), (.int .i64 0), (.int .i64 0), (.int .i64 0), (.int .u64 0), (.int .i64 0)] [(0, 9)]) [t18]) fun g o4 k4 => B32 g ((Op.append T_api_Event 9 72) [t5, (k4 H3.next)] (H3.alloc o4)) fun g t20 H5 => GO3 g (BLK3 1 (SEQ3 (W M c (trace_sift_api_Event_p 24)) Q)) .normal ((5, t20)::(7, t7)::E) D H5) (fun g => GO3 g (BLK3 1 (SEQ3 (W M c (trace_sift_api_Event_p 24)) Q)) .normal ((7, t7)::E) D H3)) ∧
 (∀ Q E D H, W M c (trace_sift_api_Event_p 24) true Q E D H =
  LK true (lk E 10) fun g t10 => B3 g ((Op.bin .add) [t10, (.int .i64 1)]) fun g t21 => GO3 g Q .normal ((10, t21)::E) D H) := by (repeat' apply And.intro) <;> (intro _ _ _ _; refine W_unf ?_; kernel_rfl)
theorem trace_sift_api_Event_f : (cProg Tryd.prog).func N_trace_sift_api_Event = some trace_sift_api_Event_F ∧ trace_sift_api_Event_F.results = [.tmp 4] := pair_rfl (by kernel_rfl)
theorem trace_sift_api_Event_at {M : Mac} [MK M] : M.func N_trace_sift_api_Event = some trace_sift_api_Event_F := MK.at (by decide) trace_sift_api_Event_f.1
theorem trace_sift_api_Event_s {M : Mac} [MK M] {a0 a1 : AV} {H : AHeap} {Q : AEnd → AHeap → Prop} (h : W M ⟨none, N_trace_sift_api_Event⟩ (trace_sift_api_Event_p 0) true (FIN3 M [.tmp 4] Q) [(0, a0), (1, a1)] [] H) : CALLE M N_trace_sift_api_Event [a0, a1] H Q :=
  calle trace_sift_api_Event_at (ks := trace_sift_api_Event_K) (by kernel_rfl) (by rw [trace_sift_api_Event_f.2]; exact h)
def trace_Of_1_F : AFunc := funcAt Tryd.prog N_trace_Of_1
def trace_Of_1_K : Kp := ⟨[0, 1, 2, 3], false, [0]⟩
def trace_Of_1_p (k : Nat) : Kp × ACode := (trace_Of_1_K, part trace_Of_1_F.body k)
theorem trace_Of_1_w (M : Mac) (c : Ctx) : (∀ Q E D H, W M c (trace_Of_1_p 0) true Q E D H =
  LK true (lk E 0) fun g t0 => A3 g T_api_Event (AV.cells t0) H fun g t2 H1 => B3 g ((Op.fieldAddr 2) [t2]) fun g t4 => B3 g (Op.load1 [t4] H1) fun g t5 => LK g (lk E 1) fun g t1 => B3 g (Op.load1 [t1] H1) fun g t6 => B3 g ((Op.bin .eql) [t5, t6]) fun g t7 => GO3 g Q .ret ((3, t7)::(3, (.bool false))::(2, t2)::E) D H1) := by intro _ _ _ _; refine W_unf ?_; kernel_rfl
theorem trace_Of_1_f : (cProg Tryd.prog).func N_trace_Of_1 = some trace_Of_1_F ∧ trace_Of_1_F.results = [.tmp 3] := pair_rfl (by kernel_rfl)
theorem trace_Of_1_at {M : Mac} [MK M] : M.func N_trace_Of_1 = some trace_Of_1_F := MK.at (by decide) trace_Of_1_f.1
theorem trace_Of_1_s {M : Mac} [MK M] {a0 a1 : AV} {H : AHeap} {Q : AEnd → AHeap → Prop} (h : W M ⟨none, N_trace_Of_1⟩ (trace_Of_1_p 0) true (FIN3 M [.tmp 3] Q) [(0, a0), (1, a1)] [] H) : CALLE M N_trace_Of_1 [a0, a1] H Q :=
  calle trace_Of_1_at (ks := trace_Of_1_K) (by kernel_rfl) (by rw [trace_Of_1_f.2]; exact h)
def trace_Between_1_F : AFunc := funcAt Tryd.prog N_trace_Between_1
def trace_Between_1_K : Kp := ⟨[0, 1, 2, 3, 4], false, [0]⟩
def trace_Between_1_p (k : Nat) : Kp × ACode := (trace_Between_1_K, part trace_Between_1_F.body k)
theorem trace_Between_1_w (M : Mac) (c : Ctx) : (∀ Q E D H, W M c (trace_Between_1_p 0) true Q E D H =
  LK true (lk E 0) fun g t0 => A3 g T_api_Event (AV.cells t0) H fun g t3 H1 => B3 g ((Op.fieldAddr 1) [t3]) fun g t5 => B3 g (Op.load1 [t5] H1) fun g t6 => LK g (lk E 1) fun g t1 => B3 g (Op.load1 [t1] H1) fun g t7 => B3 g ((Op.bin .geq) [t6, t7]) fun g t8 => JN (fun (k : Bool → AV → AV → AV → AV → AHeap → Prop) => B3 g (wantV true (some t8)) fun g w => IG3 g w (fun g => B3 g ((Op.fieldAddr 1) [t3]) fun g t10 => B3 g (Op.load1 [t10] H1) fun g t11 => LK g (lk E 2) fun g t2 => B3 g (Op.load1 [t2] H1) fun g t12 => B3 g ((Op.bin .lss) [t11, t12]) fun g t13 => k g t13 t12 t11 t10 H1) (fun g => k g uu uu uu uu H1)) (fun g t13_1 t12_1 t11_1 t10_1 H2 => B3 g (Op.pick [t8, t13_1, (.bool false)]) fun g t14 => GO3 g Q .ret ((4, t14)::(4, (.bool false))::(3, t3)::E) D H2)) := by intro _ _ _ _; refine W_unf ?_; kernel_rfl
theorem trace_Between_1_f : (cProg Tryd.prog).func N_trace_Between_1 = some trace_Between_1_F ∧ trace_Between_1_F.results = [.tmp 4] := pair_rfl (by kernel_rfl)
theorem trace_Between_1_at {M : Mac} [MK M] : M.func N_trace_Between_1 = some trace_Between_1_F := MK.at (by decide) trace_Between_1_f.1
theorem trace_Between_1_s {M : Mac} [MK M] {a0 a1 a2 : AV} {H : AHeap} {Q : AEnd → AHeap → Prop} (h : W M ⟨none, N_trace_Between_1⟩ (trace_Between_1_p 0) true (FIN3 M [.tmp 4] Q) [(0, a0), (1, a1), (2, a2)] [] H) : CALLE M N_trace_Between_1 [a0, a1, a2] H Q :=
  calle trace_Between_1_at (ks := trace_Between_1_K) (by kernel_rfl) (by rw [trace_Between_1_f.2]; exact h)
end
end Go.Am
