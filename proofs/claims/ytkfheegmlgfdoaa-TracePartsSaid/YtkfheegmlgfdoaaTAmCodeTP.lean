/- CODE: what the program's functions are on the machine, and what their regions ask. Written by a program. -/
import Derived.Test.YtkfheegmlgfdoaaTAmLogic2
import Derived.Test.YtkfheegmlgfdoaaTAmComp
import Derived.KernelRfl
import Derived.Test.YtkfheegmlgfdoaaRows
namespace Go.Am
set_option linter.unusedVariables false
set_option maxRecDepth 100000
abbrev N_law23_TraceParts : Nat := 4
abbrev N_law23_twin : Nat := 8
abbrev N_ref23_Between : Nat := 15
abbrev N_ref23_Merge : Nat := 10
abbrev N_ref23_Of : Nat := 13
abbrev N_ref23_Same : Nat := 11
abbrev N_slices_Clone_s_api_Event : Nat := 21
abbrev N_trace_Between : Nat := 14
abbrev N_trace_Between_1 : Nat := 24
abbrev N_trace_Merge : Nat := 9
abbrev N_trace_Of : Nat := 12
abbrev N_trace_Of_1 : Nat := 23
abbrev N_trace_sift_api_Event : Nat := 22
abbrev T__12 : Nat := 29
abbrev T__13 : Nat := 30
abbrev T_api_Event : Nat := 38
abbrev T_int : Nat := 3
noncomputable section
variable (AP : AProg)
/-! ### shunt/shuntlaw23.TraceParts -/
def law23_TraceParts_c5_r0 : List AStep := [⟨false, (some 6), none, [.const (.bool true)], .pure Op.move, (some [])⟩]
def law23_TraceParts_c5 : ACode := .seq (.region law23_TraceParts_c5_r0) .ret
def law23_TraceParts_c4 : ACode := .cond (.tmp 24) law23_TraceParts_c5 .skip
def law23_TraceParts_c3_r0 : List AStep := [⟨false, (some 22), none, [.tmp 0], .pure Op.move, (some [])⟩,
  ⟨false, (some 23), none, [.tmp 22], .pure Op.lenSl, (some [])⟩,
  ⟨false, (some 24), none, [.tmp 23, .const (.int .i64 10)], .pure (Op.bin .gtr), (some [])⟩]
def law23_TraceParts_c3 : ACode := .seq (.region law23_TraceParts_c3_r0) law23_TraceParts_c4
def law23_TraceParts_c13 : ACode := .cond (.tmp 28) .skip (.exit 0)
def law23_TraceParts_c20_r0 : List AStep := [⟨false, (some 6), none, [.const (.bool true)], .pure Op.move, (some [])⟩]
def law23_TraceParts_c20 : ACode := .seq (.region law23_TraceParts_c20_r0) .ret
def law23_TraceParts_c19 : ACode := .cond (.tmp 35) law23_TraceParts_c20 .skip
def law23_TraceParts_c18_r0 : List AStep := [⟨false, (some 30), none, [.tmp 0], .pure Op.move, (some [])⟩,
  ⟨false, (some 31), none, [.tmp 8], .pure Op.move, (some [])⟩,
  ⟨false, (some 32), none, [.tmp 30, .tmp 31], .pure (Op.indexSl 1), (some [])⟩,
  ⟨false, (some 33), none, [.tmp 32], .read Op.load1, (some [])⟩,
  ⟨false, (some 34), none, [.tmp 33], .pure Op.lenSl, (some [])⟩,
  ⟨false, (some 35), none, [.tmp 34, .const (.int .i64 100)], .pure (Op.bin .gtr), (some [])⟩]
def law23_TraceParts_c18 : ACode := .seq (.region law23_TraceParts_c18_r0) law23_TraceParts_c19
def law23_TraceParts_c22_r0 : List AStep := [⟨false, (some 41), none, [.tmp 7], .pure Op.move, (some [])⟩,
  ⟨false, (some 42), none, [.tmp 9], .pure Op.move, (some [])⟩,
  ⟨false, (some 43), none, [.tmp 0], .pure Op.move, (some [])⟩,
  ⟨false, (some 44), none, [.tmp 8], .pure Op.move, (some [])⟩,
  ⟨false, (some 45), none, [.tmp 43, .tmp 44], .pure (Op.indexSl 1), (some [])⟩,
  ⟨false, (some 46), none, [.tmp 45], .read Op.load1, (some [])⟩,
  ⟨false, (some 47), none, [.tmp 46], .pure Op.lenSl, (some [])⟩,
  ⟨false, (some 48), none, [.tmp 42, .tmp 47], .pure (Op.sliceSl 9 [none, (some 0), none]), (some [])⟩,
  ⟨false, (some 49), none, [.tmp 48], .alloc (Op.buildSlice T__13 1 [.nils] [(0, 1)]), (some [])⟩,
  ⟨false, (some 50), none, [.tmp 41, .tmp 49], .eff (Op.append T__13 1 24), (some [])⟩,
  ⟨false, (some 7), none, [.tmp 50], .pure Op.move, (some [])⟩]
def law23_TraceParts_c22 : ACode := .region law23_TraceParts_c22_r0
def law23_TraceParts_c21_r0 : List AStep := [⟨false, (some 36), none, [.tmp 0], .pure Op.move, (some [])⟩,
  ⟨false, (some 37), none, [.tmp 8], .pure Op.move, (some [])⟩,
  ⟨false, (some 38), none, [.tmp 36, .tmp 37], .pure (Op.indexSl 1), (some [])⟩,
  ⟨false, (some 39), none, [.tmp 38], .read Op.load1, (some [])⟩,
  ⟨false, (some 40), none, [.tmp 39], .callF N_law23_twin, (some [])⟩,
  ⟨false, (some 9), none, [.tmp 40], .pure Op.move, (some [])⟩]
def law23_TraceParts_c21 : ACode := .seq (.region law23_TraceParts_c21_r0) law23_TraceParts_c22
def law23_TraceParts_c17 : ACode := .seq law23_TraceParts_c18 law23_TraceParts_c21
def law23_TraceParts_c16_r0 : List AStep := [⟨false, (some 29), none, [.tmp 27], .pure Op.move, (some [])⟩,
  ⟨false, (some 8), none, [.tmp 29], .pure Op.move, (some [])⟩]
def law23_TraceParts_c16 : ACode := .seq (.region law23_TraceParts_c16_r0) law23_TraceParts_c17
def law23_TraceParts_c15 : ACode := .block 1 law23_TraceParts_c16
def law23_TraceParts_c23_r0 : List AStep := [⟨false, (some 51), none, [.tmp 27, .const (.int .i64 1)], .pure (Op.bin .add), (some [])⟩,
  ⟨false, (some 27), none, [.tmp 51], .pure Op.move, (some [])⟩]
def law23_TraceParts_c23 : ACode := .region law23_TraceParts_c23_r0
def law23_TraceParts_c14 : ACode := .seq law23_TraceParts_c15 law23_TraceParts_c23
def law23_TraceParts_c12 : ACode := .seq law23_TraceParts_c13 law23_TraceParts_c14
def law23_TraceParts_c11_r0 : List AStep := [⟨false, (some 28), none, [.tmp 27, .tmp 26], .pure (Op.bin .lss), (some [])⟩]
def law23_TraceParts_c11 : ACode := .seq (.region law23_TraceParts_c11_r0) law23_TraceParts_c12
def law23_TraceParts_c10 : ACode := .loop none law23_TraceParts_c11
def law23_TraceParts_c9 : ACode := .block 0 law23_TraceParts_c10
def law23_TraceParts_c8_r0 : List AStep := [⟨false, (some 25), none, [.tmp 0], .pure Op.move, (some [])⟩,
  ⟨false, (some 26), none, [.tmp 25], .pure Op.lenSl, (some [])⟩,
  ⟨false, (some 27), none, [.const (.int .i64 0)], .pure Op.move, (some [])⟩]
def law23_TraceParts_c8 : ACode := .seq (.region law23_TraceParts_c8_r0) law23_TraceParts_c9
def law23_TraceParts_c30_r0 : List AStep := [⟨false, (some 6), none, [.const (.bool false)], .pure Op.move, (some [])⟩]
def law23_TraceParts_c30 : ACode := .seq (.region law23_TraceParts_c30_r0) .ret
def law23_TraceParts_c29 : ACode := .cond (.tmp 60) law23_TraceParts_c30 .skip
def law23_TraceParts_c28_r0 : List AStep := [⟨false, (some 59), none, [.tmp 12], .pure Op.move, (some [])⟩,
  ⟨false, (some 60), none, [.tmp 59], .pure (Op.un .not), (some [])⟩]
def law23_TraceParts_c28 : ACode := .seq (.region law23_TraceParts_c28_r0) law23_TraceParts_c29
def law23_TraceParts_c38_r0 : List AStep := [⟨false, (some 6), none, [.const (.bool false)], .pure Op.move, (some [])⟩]
def law23_TraceParts_c38 : ACode := .seq (.region law23_TraceParts_c38_r0) .ret
def law23_TraceParts_c37 : ACode := .cond (.tmp 88) law23_TraceParts_c38 .skip
def law23_TraceParts_c36_r4 : List AStep := [⟨false, (some 88), none, [.tmp 83, .const (.bool true), .tmp 87], .pure Op.pick, (some [])⟩]
def law23_TraceParts_c36_r3a : List AStep := [⟨false, (some 87), (some (83, false)), [.tmp 86], .pure (Op.un .not), (some [])⟩]
def law23_TraceParts_c36_r3 : List AStep := law23_TraceParts_c36_r3a ++ law23_TraceParts_c36_r4
def law23_TraceParts_c36_r2a : List AStep := [⟨false, (some 86), (some (83, false)), [.tmp 84, .tmp 85], .callF N_ref23_Same, (some [])⟩]
def law23_TraceParts_c36_r2 : List AStep := law23_TraceParts_c36_r2a ++ law23_TraceParts_c36_r3
def law23_TraceParts_c36_r1a : List AStep := [⟨false, (some 85), (some (83, false)), [.tmp 16], .pure Op.move, (some [])⟩]
def law23_TraceParts_c36_r1 : List AStep := law23_TraceParts_c36_r1a ++ law23_TraceParts_c36_r2
def law23_TraceParts_c36_r0a : List AStep := [⟨false, (some 79), none, [.tmp 13], .pure Op.move, (some [])⟩,
  ⟨false, (some 80), none, [.tmp 14], .pure Op.move, (some [])⟩,
  ⟨false, (some 81), none, [.tmp 79, .tmp 80], .callF N_ref23_Same, (some [])⟩,
  ⟨false, (some 82), none, [.tmp 81], .pure (Op.un .not), (some [])⟩,
  ⟨false, (some 83), none, [.tmp 82], .pure Op.move, (some [])⟩,
  ⟨false, (some 84), (some (83, false)), [.tmp 15], .pure Op.move, (some [])⟩]
def law23_TraceParts_c36_r0 : List AStep := law23_TraceParts_c36_r0a ++ law23_TraceParts_c36_r1
def law23_TraceParts_c36 : ACode := .seq (.region law23_TraceParts_c36_r0) law23_TraceParts_c37
def law23_TraceParts_c45 : ACode := .cond (.tmp 92) .skip (.exit 2)
def law23_TraceParts_c49_r0 : List AStep := [⟨false, (some 94), none, [.tmp 13], .pure Op.move, (some [])⟩,
  ⟨false, (some 95), none, [.tmp 17], .pure Op.move, (some [])⟩,
  ⟨false, (some 96), none, [.tmp 94, .tmp 95], .pure (Op.indexSl 9), (some [])⟩,
  ⟨false, (some 97), none, [.tmp 96], .pure (Op.fieldAddr 0), (some [])⟩,
  ⟨false, none, none, [.tmp 97, .const (.int .i64 99)], .eff (Op.store 1), (some [])⟩]
def law23_TraceParts_c49 : ACode := .region law23_TraceParts_c49_r0
def law23_TraceParts_c48_r0 : List AStep := [⟨false, (some 93), none, [.tmp 91], .pure Op.move, (some [])⟩,
  ⟨false, (some 17), none, [.tmp 93], .pure Op.move, (some [])⟩]
def law23_TraceParts_c48 : ACode := .seq (.region law23_TraceParts_c48_r0) law23_TraceParts_c49
def law23_TraceParts_c47 : ACode := .block 3 law23_TraceParts_c48
def law23_TraceParts_c50_r0 : List AStep := [⟨false, (some 98), none, [.tmp 91, .const (.int .i64 1)], .pure (Op.bin .add), (some [])⟩,
  ⟨false, (some 91), none, [.tmp 98], .pure Op.move, (some [])⟩]
def law23_TraceParts_c50 : ACode := .region law23_TraceParts_c50_r0
def law23_TraceParts_c46 : ACode := .seq law23_TraceParts_c47 law23_TraceParts_c50
def law23_TraceParts_c44 : ACode := .seq law23_TraceParts_c45 law23_TraceParts_c46
def law23_TraceParts_c43_r0 : List AStep := [⟨false, (some 92), none, [.tmp 91, .tmp 90], .pure (Op.bin .lss), (some [])⟩]
def law23_TraceParts_c43 : ACode := .seq (.region law23_TraceParts_c43_r0) law23_TraceParts_c44
def law23_TraceParts_c42 : ACode := .loop none law23_TraceParts_c43
def law23_TraceParts_c41 : ACode := .block 2 law23_TraceParts_c42
def law23_TraceParts_c40_r0 : List AStep := [⟨false, (some 89), none, [.tmp 13], .pure Op.move, (some [])⟩,
  ⟨false, (some 90), none, [.tmp 89], .pure Op.lenSl, (some [])⟩,
  ⟨false, (some 91), none, [.const (.int .i64 0)], .pure Op.move, (some [])⟩]
def law23_TraceParts_c40 : ACode := .seq (.region law23_TraceParts_c40_r0) law23_TraceParts_c41
def law23_TraceParts_c57 : ACode := .cond (.tmp 102) .skip (.exit 4)
def law23_TraceParts_c61_r0 : List AStep := [⟨false, (some 104), none, [.tmp 15], .pure Op.move, (some [])⟩,
  ⟨false, (some 105), none, [.tmp 18], .pure Op.move, (some [])⟩,
  ⟨false, (some 106), none, [.tmp 104, .tmp 105], .pure (Op.indexSl 9), (some [])⟩,
  ⟨false, (some 107), none, [.tmp 106], .pure (Op.fieldAddr 0), (some [])⟩,
  ⟨false, none, none, [.tmp 107, .const (.int .i64 98)], .eff (Op.store 1), (some [])⟩]
def law23_TraceParts_c61 : ACode := .region law23_TraceParts_c61_r0
def law23_TraceParts_c60_r0 : List AStep := [⟨false, (some 103), none, [.tmp 101], .pure Op.move, (some [])⟩,
  ⟨false, (some 18), none, [.tmp 103], .pure Op.move, (some [])⟩]
def law23_TraceParts_c60 : ACode := .seq (.region law23_TraceParts_c60_r0) law23_TraceParts_c61
def law23_TraceParts_c59 : ACode := .block 5 law23_TraceParts_c60
def law23_TraceParts_c62_r0 : List AStep := [⟨false, (some 108), none, [.tmp 101, .const (.int .i64 1)], .pure (Op.bin .add), (some [])⟩,
  ⟨false, (some 101), none, [.tmp 108], .pure Op.move, (some [])⟩]
def law23_TraceParts_c62 : ACode := .region law23_TraceParts_c62_r0
def law23_TraceParts_c58 : ACode := .seq law23_TraceParts_c59 law23_TraceParts_c62
def law23_TraceParts_c56 : ACode := .seq law23_TraceParts_c57 law23_TraceParts_c58
def law23_TraceParts_c55_r0 : List AStep := [⟨false, (some 102), none, [.tmp 101, .tmp 100], .pure (Op.bin .lss), (some [])⟩]
def law23_TraceParts_c55 : ACode := .seq (.region law23_TraceParts_c55_r0) law23_TraceParts_c56
def law23_TraceParts_c54 : ACode := .loop none law23_TraceParts_c55
def law23_TraceParts_c53 : ACode := .block 4 law23_TraceParts_c54
def law23_TraceParts_c52_r0 : List AStep := [⟨false, (some 99), none, [.tmp 15], .pure Op.move, (some [])⟩,
  ⟨false, (some 100), none, [.tmp 99], .pure Op.lenSl, (some [])⟩,
  ⟨false, (some 101), none, [.const (.int .i64 0)], .pure Op.move, (some [])⟩]
def law23_TraceParts_c52 : ACode := .seq (.region law23_TraceParts_c52_r0) law23_TraceParts_c53
def law23_TraceParts_c70 : ACode := .cond (.tmp 115) .skip (.exit 6)
def law23_TraceParts_c74_r0 : List AStep := [⟨false, (some 117), none, [.tmp 10], .pure Op.move, (some [])⟩,
  ⟨false, (some 118), none, [.tmp 19], .pure Op.move, (some [])⟩,
  ⟨false, (some 119), none, [.tmp 117, .tmp 118], .pure (Op.indexSl 9), (some [])⟩,
  ⟨false, (some 120), none, [.tmp 119], .pure (Op.fieldAddr 0), (some [])⟩,
  ⟨false, none, none, [.tmp 120, .const (.int .i64 97)], .eff (Op.store 1), (some [])⟩]
def law23_TraceParts_c74 : ACode := .region law23_TraceParts_c74_r0
def law23_TraceParts_c73_r0 : List AStep := [⟨false, (some 116), none, [.tmp 114], .pure Op.move, (some [])⟩,
  ⟨false, (some 19), none, [.tmp 116], .pure Op.move, (some [])⟩]
def law23_TraceParts_c73 : ACode := .seq (.region law23_TraceParts_c73_r0) law23_TraceParts_c74
def law23_TraceParts_c72 : ACode := .block 7 law23_TraceParts_c73
def law23_TraceParts_c75_r0 : List AStep := [⟨false, (some 121), none, [.tmp 114, .const (.int .i64 1)], .pure (Op.bin .add), (some [])⟩,
  ⟨false, (some 114), none, [.tmp 121], .pure Op.move, (some [])⟩]
def law23_TraceParts_c75 : ACode := .region law23_TraceParts_c75_r0
def law23_TraceParts_c71 : ACode := .seq law23_TraceParts_c72 law23_TraceParts_c75
def law23_TraceParts_c69 : ACode := .seq law23_TraceParts_c70 law23_TraceParts_c71
def law23_TraceParts_c68_r0 : List AStep := [⟨false, (some 115), none, [.tmp 114, .tmp 113], .pure (Op.bin .lss), (some [])⟩]
def law23_TraceParts_c68 : ACode := .seq (.region law23_TraceParts_c68_r0) law23_TraceParts_c69
def law23_TraceParts_c67 : ACode := .loop none law23_TraceParts_c68
def law23_TraceParts_c66 : ACode := .block 6 law23_TraceParts_c67
def law23_TraceParts_c65_r0 : List AStep := [⟨false, (some 112), none, [.tmp 10], .pure Op.move, (some [])⟩,
  ⟨false, (some 113), none, [.tmp 112], .pure Op.lenSl, (some [])⟩,
  ⟨false, (some 114), none, [.const (.int .i64 0)], .pure Op.move, (some [])⟩]
def law23_TraceParts_c65 : ACode := .seq (.region law23_TraceParts_c65_r0) law23_TraceParts_c66
def law23_TraceParts_c82 : ACode := .cond (.tmp 125) .skip (.exit 8)
def law23_TraceParts_c87_r1 : List AStep := [⟨false, (some 139), none, [.tmp 137, .tmp 138, .const (.bool false)], .pure Op.pick, (some [])⟩,
  ⟨false, (some 12), none, [.tmp 139], .pure Op.move, (some [])⟩]
def law23_TraceParts_c87_r0a : List AStep := [⟨false, (some 136), none, [.tmp 12], .pure Op.move, (some [])⟩,
  ⟨false, (some 137), none, [.tmp 136], .pure Op.move, (some [])⟩,
  ⟨false, (some 138), (some (137, true)), [.tmp 21], .pure Op.move, (some [])⟩]
def law23_TraceParts_c87_r0 : List AStep := law23_TraceParts_c87_r0a ++ law23_TraceParts_c87_r1
def law23_TraceParts_c87 : ACode := .region law23_TraceParts_c87_r0
def law23_TraceParts_c86_r0 : List AStep := [⟨false, (some 127), none, [.tmp 7], .pure Op.move, none⟩,
  ⟨false, (some 128), none, [.tmp 20], .pure Op.move, none⟩,
  ⟨false, (some 129), none, [.tmp 127, .tmp 128], .pure (Op.indexSl 1), none⟩,
  ⟨false, (some 130), none, [.tmp 129], .read Op.load1, none⟩,
  ⟨false, (some 131), none, [.tmp 0], .pure Op.move, none⟩,
  ⟨false, (some 132), none, [.tmp 20], .pure Op.move, (some [127, 128, 129, 130, 131, 132, 133, 134, 135, 21])⟩,
  ⟨false, (some 133), none, [.tmp 131, .tmp 132], .pure (Op.indexSl 1), (some [127, 128, 129, 130, 131, 132, 133, 134, 135, 21])⟩,
  ⟨false, (some 134), none, [.tmp 133], .read Op.load1, (some [127, 128, 129, 130, 131, 132, 133, 134, 135, 21])⟩,
  ⟨false, (some 135), none, [.tmp 130, .tmp 134], .callF N_ref23_Same, (some [127, 128, 129, 130, 131, 132, 133, 134, 135, 21])⟩,
  ⟨false, (some 21), none, [.tmp 135], .pure Op.move, (some [127, 128, 129, 130, 131, 132, 133, 134, 135, 21])⟩]
def law23_TraceParts_c86 : ACode := .seq (.region law23_TraceParts_c86_r0) law23_TraceParts_c87
def law23_TraceParts_c85_r0 : List AStep := [⟨false, (some 126), none, [.tmp 124], .pure Op.move, (some [])⟩,
  ⟨false, (some 20), none, [.tmp 126], .pure Op.move, (some [])⟩]
def law23_TraceParts_c85 : ACode := .seq (.region law23_TraceParts_c85_r0) law23_TraceParts_c86
def law23_TraceParts_c84 : ACode := .block 9 law23_TraceParts_c85
def law23_TraceParts_c88_r0 : List AStep := [⟨false, (some 140), none, [.tmp 124, .const (.int .i64 1)], .pure (Op.bin .add), (some [])⟩,
  ⟨false, (some 124), none, [.tmp 140], .pure Op.move, (some [])⟩]
def law23_TraceParts_c88 : ACode := .region law23_TraceParts_c88_r0
def law23_TraceParts_c83 : ACode := .seq law23_TraceParts_c84 law23_TraceParts_c88
def law23_TraceParts_c81 : ACode := .seq law23_TraceParts_c82 law23_TraceParts_c83
def law23_TraceParts_c80_r0 : List AStep := [⟨false, (some 125), none, [.tmp 124, .tmp 123], .pure (Op.bin .lss), (some [])⟩]
def law23_TraceParts_c80 : ACode := .seq (.region law23_TraceParts_c80_r0) law23_TraceParts_c81
def law23_TraceParts_c79 : ACode := .loop none law23_TraceParts_c80
def law23_TraceParts_c78 : ACode := .block 8 law23_TraceParts_c79
def law23_TraceParts_c77_r0 : List AStep := [⟨false, (some 122), none, [.tmp 0], .pure Op.move, (some [])⟩,
  ⟨false, (some 123), none, [.tmp 122], .pure Op.lenSl, (some [])⟩,
  ⟨false, (some 124), none, [.const (.int .i64 0)], .pure Op.move, (some [])⟩]
def law23_TraceParts_c77 : ACode := .seq (.region law23_TraceParts_c77_r0) law23_TraceParts_c78
def law23_TraceParts_c89_r0 : List AStep := [⟨false, (some 141), none, [.tmp 12], .pure Op.move, (some [])⟩,
  ⟨false, (some 6), none, [.tmp 141], .pure Op.move, (some [])⟩]
def law23_TraceParts_c89 : ACode := .seq (.region law23_TraceParts_c89_r0) .ret
def law23_TraceParts_c76 : ACode := .seq law23_TraceParts_c77 law23_TraceParts_c89
def law23_TraceParts_c64 : ACode := .seq law23_TraceParts_c65 law23_TraceParts_c76
def law23_TraceParts_c63_r0 : List AStep := [⟨false, (some 109), none, [.tmp 10], .pure Op.move, (some [])⟩,
  ⟨false, (some 110), none, [.tmp 11], .pure Op.move, (some [])⟩,
  ⟨false, (some 111), none, [.tmp 109, .tmp 110], .callF N_ref23_Same, (some [])⟩,
  ⟨false, (some 12), none, [.tmp 111], .pure Op.move, (some [])⟩]
def law23_TraceParts_c63 : ACode := .seq (.region law23_TraceParts_c63_r0) law23_TraceParts_c64
def law23_TraceParts_c51 : ACode := .seq law23_TraceParts_c52 law23_TraceParts_c63
def law23_TraceParts_c39 : ACode := .seq law23_TraceParts_c40 law23_TraceParts_c51
def law23_TraceParts_c35 : ACode := .seq law23_TraceParts_c36 law23_TraceParts_c39
def law23_TraceParts_c34_r0 : List AStep := [⟨false, (some 73), none, [.tmp 11], .pure Op.move, (some [])⟩,
  ⟨false, (some 74), none, [.tmp 5, .const (.int .i64 0)], .pure (Op.indexArr 2 1), (some [])⟩,
  ⟨false, (some 75), none, [.tmp 74], .read Op.load1, (some [])⟩,
  ⟨false, (some 76), none, [.tmp 5, .const (.int .i64 1)], .pure (Op.indexArr 2 1), (some [])⟩,
  ⟨false, (some 77), none, [.tmp 76], .read Op.load1, (some [])⟩,
  ⟨false, (some 78), none, [.tmp 73, .tmp 75, .tmp 77], .callF N_ref23_Between, (some [])⟩,
  ⟨false, (some 16), none, [.tmp 78], .pure Op.move, (some [])⟩]
def law23_TraceParts_c34 : ACode := .seq (.region law23_TraceParts_c34_r0) law23_TraceParts_c35
def law23_TraceParts_c33_r0 : List AStep := [⟨false, (some 67), none, [.tmp 10], .pure Op.move, (some [])⟩,
  ⟨false, (some 68), none, [.tmp 5, .const (.int .i64 0)], .pure (Op.indexArr 2 1), (some [])⟩,
  ⟨false, (some 69), none, [.tmp 68], .read Op.load1, (some [])⟩,
  ⟨false, (some 70), none, [.tmp 5, .const (.int .i64 1)], .pure (Op.indexArr 2 1), (some [])⟩,
  ⟨false, (some 71), none, [.tmp 70], .read Op.load1, (some [])⟩,
  ⟨false, (some 72), none, [.tmp 67, .tmp 69, .tmp 71], .callF N_trace_Between, (some [])⟩,
  ⟨false, (some 15), none, [.tmp 72], .pure Op.move, (some [])⟩]
def law23_TraceParts_c33 : ACode := .seq (.region law23_TraceParts_c33_r0) law23_TraceParts_c34
def law23_TraceParts_c32_r0 : List AStep := [⟨false, (some 64), none, [.tmp 11], .pure Op.move, (some [])⟩,
  ⟨false, (some 65), none, [.tmp 1], .pure Op.move, (some [])⟩,
  ⟨false, (some 66), none, [.tmp 64, .tmp 65], .callF N_ref23_Of, (some [])⟩,
  ⟨false, (some 14), none, [.tmp 66], .pure Op.move, (some [])⟩]
def law23_TraceParts_c32 : ACode := .seq (.region law23_TraceParts_c32_r0) law23_TraceParts_c33
def law23_TraceParts_c31_r0 : List AStep := [⟨false, (some 61), none, [.tmp 10], .pure Op.move, (some [])⟩,
  ⟨false, (some 62), none, [.tmp 1], .pure Op.move, (some [])⟩,
  ⟨false, (some 63), none, [.tmp 61, .tmp 62], .callF N_trace_Of, (some [])⟩,
  ⟨false, (some 13), none, [.tmp 63], .pure Op.move, (some [])⟩]
def law23_TraceParts_c31 : ACode := .seq (.region law23_TraceParts_c31_r0) law23_TraceParts_c32
def law23_TraceParts_c27 : ACode := .seq law23_TraceParts_c28 law23_TraceParts_c31
def law23_TraceParts_c26_r0 : List AStep := [⟨false, (some 56), none, [.tmp 10], .pure Op.move, (some [])⟩,
  ⟨false, (some 57), none, [.tmp 11], .pure Op.move, (some [])⟩,
  ⟨false, (some 58), none, [.tmp 56, .tmp 57], .callF N_ref23_Same, (some [])⟩,
  ⟨false, (some 12), none, [.tmp 58], .pure Op.move, (some [])⟩]
def law23_TraceParts_c26 : ACode := .seq (.region law23_TraceParts_c26_r0) law23_TraceParts_c27
def law23_TraceParts_c25_r0 : List AStep := [⟨false, (some 54), none, [.tmp 0], .pure Op.move, (some [])⟩,
  ⟨false, (some 55), none, [.tmp 54], .callF N_ref23_Merge, (some [])⟩,
  ⟨false, (some 11), none, [.tmp 55], .pure Op.move, (some [])⟩]
def law23_TraceParts_c25 : ACode := .seq (.region law23_TraceParts_c25_r0) law23_TraceParts_c26
def law23_TraceParts_c24_r0 : List AStep := [⟨false, (some 52), none, [.tmp 7], .pure Op.move, (some [])⟩,
  ⟨false, (some 53), none, [.tmp 52], .callF N_trace_Merge, (some [])⟩,
  ⟨false, (some 10), none, [.tmp 53], .pure Op.move, (some [])⟩]
def law23_TraceParts_c24 : ACode := .seq (.region law23_TraceParts_c24_r0) law23_TraceParts_c25
def law23_TraceParts_c7 : ACode := .seq law23_TraceParts_c8 law23_TraceParts_c24
def law23_TraceParts_c6_r0 : List AStep := [⟨false, (some 7), none, [.const .nils], .pure Op.move, (some [])⟩]
def law23_TraceParts_c6 : ACode := .seq (.region law23_TraceParts_c6_r0) law23_TraceParts_c7
def law23_TraceParts_c2 : ACode := .seq law23_TraceParts_c3 law23_TraceParts_c6
def law23_TraceParts_c1_r0 : List AStep := [⟨false, (some 5), none, [.tmp 2], .alloc (Op.box T__12), (some [])⟩,
  ⟨false, (some 6), none, [.const (.bool false)], .pure Op.move, (some [])⟩]
def law23_TraceParts_c1 : ACode := .seq (.region law23_TraceParts_c1_r0) law23_TraceParts_c2
def law23_TraceParts_F : AFunc := ⟨[.tmp 6], law23_TraceParts_c1, []⟩
theorem law23_TraceParts_c5_w (ctx : Ctx) (tm : T AV) (dfs : List ADef) (up : Option Chain) (H : AHeap) (Q : Post) :
    WP AP ctx law23_TraceParts_c5 ⟨tm, dfs, up, H⟩ Q =
    (GS AP dirty ctx law23_TraceParts_c5_r0 ⟨tm, dfs, up, H⟩ (SEQ (WP AP ctx .ret) Q)) := Gxrseq AP ctx _ _ law23_TraceParts_c5_r0 .ret
theorem law23_TraceParts_c5_r0_w (ctx : Ctx) (tm : T AV) (dfs : List ADef) (up : Option Chain) (H : AHeap) (Q : Post) :
    GS AP true ctx law23_TraceParts_c5_r0 ⟨tm, dfs, up, H⟩ Q =
    (BI dirty (Op.move [(.bool true)]) fun g t6 => GO g Q .normal ⟨(setsE [(6, t6)] tm), dfs, up, H⟩) := WPS_shallow (l := law23_TraceParts_c5_r0) (by kernel_rfl)
theorem law23_TraceParts_c4_w (ctx : Ctx) (tm : T AV) (dfs : List ADef) (up : Option Chain) (H : AHeap) (Q : Post) :
    WP AP ctx law23_TraceParts_c4 ⟨tm, dfs, up, H⟩ Q =
    (BI dirty (tm.get 24) fun g v => BI g (asBool v) fun g q => IG g q (fun g => GW AP g ctx law23_TraceParts_c5 ⟨tm, dfs, up, H⟩ Q) (fun g => GW AP g ctx .skip ⟨tm, dfs, up, H⟩ Q)) := Gxcond AP ctx _ _ 24 law23_TraceParts_c5 .skip
theorem law23_TraceParts_c3_w (ctx : Ctx) (tm : T AV) (dfs : List ADef) (up : Option Chain) (H : AHeap) (Q : Post) :
    WP AP ctx law23_TraceParts_c3 ⟨tm, dfs, up, H⟩ Q =
    (GS AP dirty ctx law23_TraceParts_c3_r0 ⟨tm, dfs, up, H⟩ (SEQ (WP AP ctx law23_TraceParts_c4) Q)) := Gxrseq AP ctx _ _ law23_TraceParts_c3_r0 law23_TraceParts_c4
theorem law23_TraceParts_c3_r0_w (ctx : Ctx) (tm : T AV) (dfs : List ADef) (up : Option Chain) (H : AHeap) (Q : Post) :
    GS AP true ctx law23_TraceParts_c3_r0 ⟨tm, dfs, up, H⟩ Q =
    (LK dirty (tm.get 0) fun g ti0 => BI g (Op.move [ti0]) fun g t22 => BI g (Op.lenSl [t22]) fun g t23 => BI g ((Op.bin .gtr) [t23, (.int .i64 10)]) fun g t24 => 
    GO g Q .normal ⟨(setsE [(24, t24), (23, t23), (22, t22)] tm), dfs, up, H⟩) := WPS_shallow (l := law23_TraceParts_c3_r0) (by kernel_rfl)
theorem law23_TraceParts_c13_w (ctx : Ctx) (tm : T AV) (dfs : List ADef) (up : Option Chain) (H : AHeap) (Q : Post) :
    WP AP ctx law23_TraceParts_c13 ⟨tm, dfs, up, H⟩ Q =
    (BI dirty (tm.get 28) fun g v => BI g (asBool v) fun g q => IG g q (fun g => GW AP g ctx .skip ⟨tm, dfs, up, H⟩ Q) (fun g => GW AP g ctx (.exit 0) ⟨tm, dfs, up, H⟩ Q)) := Gxcond AP ctx _ _ 28 .skip (.exit 0)
theorem law23_TraceParts_c20_w (ctx : Ctx) (tm : T AV) (dfs : List ADef) (up : Option Chain) (H : AHeap) (Q : Post) :
    WP AP ctx law23_TraceParts_c20 ⟨tm, dfs, up, H⟩ Q =
    (GS AP dirty ctx law23_TraceParts_c20_r0 ⟨tm, dfs, up, H⟩ (SEQ (WP AP ctx .ret) Q)) := Gxrseq AP ctx _ _ law23_TraceParts_c20_r0 .ret
theorem law23_TraceParts_c20_r0_w (ctx : Ctx) (tm : T AV) (dfs : List ADef) (up : Option Chain) (H : AHeap) (Q : Post) :
    GS AP true ctx law23_TraceParts_c20_r0 ⟨tm, dfs, up, H⟩ Q =
    (BI dirty (Op.move [(.bool true)]) fun g t6 => GO g Q .normal ⟨(setsE [(6, t6)] tm), dfs, up, H⟩) := WPS_shallow (l := law23_TraceParts_c20_r0) (by kernel_rfl)
theorem law23_TraceParts_c19_w (ctx : Ctx) (tm : T AV) (dfs : List ADef) (up : Option Chain) (H : AHeap) (Q : Post) :
    WP AP ctx law23_TraceParts_c19 ⟨tm, dfs, up, H⟩ Q =
    (BI dirty (tm.get 35) fun g v => BI g (asBool v) fun g q => IG g q (fun g => GW AP g ctx law23_TraceParts_c20 ⟨tm, dfs, up, H⟩ Q) (fun g => GW AP g ctx .skip ⟨tm, dfs, up, H⟩ Q)) := Gxcond AP ctx _ _ 35 law23_TraceParts_c20 .skip
theorem law23_TraceParts_c18_w (ctx : Ctx) (tm : T AV) (dfs : List ADef) (up : Option Chain) (H : AHeap) (Q : Post) :
    WP AP ctx law23_TraceParts_c18 ⟨tm, dfs, up, H⟩ Q =
    (GS AP dirty ctx law23_TraceParts_c18_r0 ⟨tm, dfs, up, H⟩ (SEQ (WP AP ctx law23_TraceParts_c19) Q)) := Gxrseq AP ctx _ _ law23_TraceParts_c18_r0 law23_TraceParts_c19
theorem law23_TraceParts_c18_r0_w (ctx : Ctx) (tm : T AV) (dfs : List ADef) (up : Option Chain) (H : AHeap) (Q : Post) :
    GS AP true ctx law23_TraceParts_c18_r0 ⟨tm, dfs, up, H⟩ Q =
    (LK dirty (tm.get 0) fun g ti0 => BI g (Op.move [ti0]) fun g t30 => LK g (tm.get 8) fun g ti8 => BI g (Op.move [ti8]) fun g t31 => BI g ((Op.indexSl 1) [t30, t31]) fun g t32 => 
    BI g (Op.load1 [t32] H) fun g t33 => BI g (Op.lenSl [t33]) fun g t34 => BI g ((Op.bin .gtr) [t34, (.int .i64 100)]) fun g t35 => 
    GO g Q .normal ⟨(setsE [(35, t35), (34, t34), (33, t33), (32, t32), (31, t31), (30, t30)] tm), dfs, up, H⟩) := WPS_shallow (l := law23_TraceParts_c18_r0) (by kernel_rfl)
theorem law23_TraceParts_c22_w (ctx : Ctx) (tm : T AV) (dfs : List ADef) (up : Option Chain) (H : AHeap) (Q : Post) :
    WP AP ctx law23_TraceParts_c22 ⟨tm, dfs, up, H⟩ Q =
    (GS AP dirty ctx law23_TraceParts_c22_r0 ⟨tm, dfs, up, H⟩ Q) := Gxregion AP ctx _ _ law23_TraceParts_c22_r0
theorem law23_TraceParts_c22_r0_w (ctx : Ctx) (tm : T AV) (dfs : List ADef) (up : Option Chain) (H : AHeap) (Q : Post) :
    GS AP true ctx law23_TraceParts_c22_r0 ⟨tm, dfs, up, H⟩ Q =
    (LK dirty (tm.get 7) fun g ti7 => BI g (Op.move [ti7]) fun g t41 => LK g (tm.get 9) fun g ti9 => BI g (Op.move [ti9]) fun g t42 => LK g (tm.get 0) fun g ti0 => BI g (Op.move [ti0]) fun g t43 => 
    LK g (tm.get 8) fun g ti8 => BI g (Op.move [ti8]) fun g t44 => BI g ((Op.indexSl 1) [t43, t44]) fun g t45 => BI g (Op.load1 [t45] H) fun g t46 => BI g (Op.lenSl [t46]) fun g t47 => BI g ((Op.sliceSl 9 [none, (some 0), none]) [t42, t47]) fun g t48 => BI2 g ((Op.buildSlice T__13 1 [.nils] [(0, 1)]) [t48]) fun g o1 mk1 => BI2 g ((Op.append T__13 1 24) [t41, (mk1 H.next)] (H.alloc o1)) fun g t50 H2 => 
    BI g (Op.move [t50]) fun g t7 => GO g Q .normal ⟨(setsE [(7, t7), (50, t50), (49, (mk1 H.next)), (48, t48), (47, t47), (46, t46), (45, t45), (44, t44), (43, t43), (42, t42), (41, t41)] tm), dfs, up, H2⟩) := WPS_shallow (l := law23_TraceParts_c22_r0) (by kernel_rfl)
theorem law23_TraceParts_c21_w (ctx : Ctx) (tm : T AV) (dfs : List ADef) (up : Option Chain) (H : AHeap) (Q : Post) :
    WP AP ctx law23_TraceParts_c21 ⟨tm, dfs, up, H⟩ Q =
    (GS AP dirty ctx law23_TraceParts_c21_r0 ⟨tm, dfs, up, H⟩ (SEQ (WP AP ctx law23_TraceParts_c22) Q)) := Gxrseq AP ctx _ _ law23_TraceParts_c21_r0 law23_TraceParts_c22
theorem law23_TraceParts_c21_r0_w (ctx : Ctx) (tm : T AV) (dfs : List ADef) (up : Option Chain) (H : AHeap) (Q : Post) :
    GS AP true ctx law23_TraceParts_c21_r0 ⟨tm, dfs, up, H⟩ Q =
    (LK dirty (tm.get 0) fun g ti0 => BI g (Op.move [ti0]) fun g t36 => LK g (tm.get 8) fun g ti8 => BI g (Op.move [ti8]) fun g t37 => BI g ((Op.indexSl 1) [t36, t37]) fun g t38 => 
    BI g (Op.load1 [t38] H) fun g t39 => CA AP g (.func N_law23_twin) [t39] H (fun g t40 H1 => 
    BI g (Op.move [t40]) fun g t9 => 
    GO g Q .normal ⟨(setsE [(9, t9), (40, t40), (39, t39), (38, t38), (37, t37), (36, t36)] tm), dfs, up, H1⟩) (PAN (some []) (setsE [(39, t39), (38, t38), (37, t37), (36, t36)] tm) dfs up Q)) := WPS_shallow (l := law23_TraceParts_c21_r0) (by kernel_rfl)
theorem law23_TraceParts_c17_w (ctx : Ctx) (tm : T AV) (dfs : List ADef) (up : Option Chain) (H : AHeap) (Q : Post) :
    WP AP ctx law23_TraceParts_c17 ⟨tm, dfs, up, H⟩ Q =
    (WP AP ctx law23_TraceParts_c18 ⟨tm, dfs, up, H⟩ (SEQ (WP AP ctx law23_TraceParts_c21) Q)) := WP_seq AP ctx _ _ law23_TraceParts_c18 law23_TraceParts_c21
theorem law23_TraceParts_c16_w (ctx : Ctx) (tm : T AV) (dfs : List ADef) (up : Option Chain) (H : AHeap) (Q : Post) :
    WP AP ctx law23_TraceParts_c16 ⟨tm, dfs, up, H⟩ Q =
    (GS AP dirty ctx law23_TraceParts_c16_r0 ⟨tm, dfs, up, H⟩ (SEQ (WP AP ctx law23_TraceParts_c17) Q)) := Gxrseq AP ctx _ _ law23_TraceParts_c16_r0 law23_TraceParts_c17
theorem law23_TraceParts_c16_r0_w (ctx : Ctx) (tm : T AV) (dfs : List ADef) (up : Option Chain) (H : AHeap) (Q : Post) :
    GS AP true ctx law23_TraceParts_c16_r0 ⟨tm, dfs, up, H⟩ Q =
    (LK dirty (tm.get 27) fun g ti27 => BI g (Op.move [ti27]) fun g t29 => BI g (Op.move [t29]) fun g t8 => GO g Q .normal ⟨(setsE [(8, t8), (29, t29)] tm), dfs, up, H⟩) := WPS_shallow (l := law23_TraceParts_c16_r0) (by kernel_rfl)
theorem law23_TraceParts_c15_w (ctx : Ctx) (tm : T AV) (dfs : List ADef) (up : Option Chain) (H : AHeap) (Q : Post) :
    WP AP ctx law23_TraceParts_c15 ⟨tm, dfs, up, H⟩ Q =
    (WP AP ctx law23_TraceParts_c16 ⟨tm, dfs, up, H⟩ (BLK 1 Q)) := WP_block AP ctx _ _ 1 law23_TraceParts_c16
theorem law23_TraceParts_c23_w (ctx : Ctx) (tm : T AV) (dfs : List ADef) (up : Option Chain) (H : AHeap) (Q : Post) :
    WP AP ctx law23_TraceParts_c23 ⟨tm, dfs, up, H⟩ Q =
    (GS AP dirty ctx law23_TraceParts_c23_r0 ⟨tm, dfs, up, H⟩ Q) := Gxregion AP ctx _ _ law23_TraceParts_c23_r0
theorem law23_TraceParts_c23_r0_w (ctx : Ctx) (tm : T AV) (dfs : List ADef) (up : Option Chain) (H : AHeap) (Q : Post) :
    GS AP true ctx law23_TraceParts_c23_r0 ⟨tm, dfs, up, H⟩ Q =
    (LK dirty (tm.get 27) fun g ti27 => BI g ((Op.bin .add) [ti27, (.int .i64 1)]) fun g t51 => BI g (Op.move [t51]) fun g t27 => GO g Q .normal ⟨(setsE [(27, t27), (51, t51)] tm), dfs, up, H⟩) := WPS_shallow (l := law23_TraceParts_c23_r0) (by kernel_rfl)
theorem law23_TraceParts_c14_w (ctx : Ctx) (tm : T AV) (dfs : List ADef) (up : Option Chain) (H : AHeap) (Q : Post) :
    WP AP ctx law23_TraceParts_c14 ⟨tm, dfs, up, H⟩ Q =
    (WP AP ctx law23_TraceParts_c15 ⟨tm, dfs, up, H⟩ (SEQ (WP AP ctx law23_TraceParts_c23) Q)) := WP_seq AP ctx _ _ law23_TraceParts_c15 law23_TraceParts_c23
theorem law23_TraceParts_c12_w (ctx : Ctx) (tm : T AV) (dfs : List ADef) (up : Option Chain) (H : AHeap) (Q : Post) :
    WP AP ctx law23_TraceParts_c12 ⟨tm, dfs, up, H⟩ Q =
    (WP AP ctx law23_TraceParts_c13 ⟨tm, dfs, up, H⟩ (SEQ (WP AP ctx law23_TraceParts_c14) Q)) := WP_seq AP ctx _ _ law23_TraceParts_c13 law23_TraceParts_c14
theorem law23_TraceParts_c11_w (ctx : Ctx) (tm : T AV) (dfs : List ADef) (up : Option Chain) (H : AHeap) (Q : Post) :
    WP AP ctx law23_TraceParts_c11 ⟨tm, dfs, up, H⟩ Q =
    (GS AP dirty ctx law23_TraceParts_c11_r0 ⟨tm, dfs, up, H⟩ (SEQ (WP AP ctx law23_TraceParts_c12) Q)) := Gxrseq AP ctx _ _ law23_TraceParts_c11_r0 law23_TraceParts_c12
theorem law23_TraceParts_c11_r0_w (ctx : Ctx) (tm : T AV) (dfs : List ADef) (up : Option Chain) (H : AHeap) (Q : Post) :
    GS AP true ctx law23_TraceParts_c11_r0 ⟨tm, dfs, up, H⟩ Q =
    (LK dirty (tm.get 27) fun g ti27 => LK g (tm.get 26) fun g ti26 => BI g ((Op.bin .lss) [ti27, ti26]) fun g t28 => GO g Q .normal ⟨(setsE [(28, t28)] tm), dfs, up, H⟩) := WPS_shallow (l := law23_TraceParts_c11_r0) (by kernel_rfl)
theorem law23_TraceParts_c10_w (ctx : Ctx) (tm : T AV) (dfs : List ADef) (up : Option Chain) (H : AHeap) (Q : Post) :
    WP AP ctx law23_TraceParts_c10 ⟨tm, dfs, up, H⟩ Q =
    (LOOP (WP AP ctx law23_TraceParts_c11) none ⟨tm, dfs, up, H⟩ Q) := WP_loop AP ctx _ _ none law23_TraceParts_c11
theorem law23_TraceParts_c9_w (ctx : Ctx) (tm : T AV) (dfs : List ADef) (up : Option Chain) (H : AHeap) (Q : Post) :
    WP AP ctx law23_TraceParts_c9 ⟨tm, dfs, up, H⟩ Q =
    (WP AP ctx law23_TraceParts_c10 ⟨tm, dfs, up, H⟩ (BLK 0 Q)) := WP_block AP ctx _ _ 0 law23_TraceParts_c10
theorem law23_TraceParts_c8_w (ctx : Ctx) (tm : T AV) (dfs : List ADef) (up : Option Chain) (H : AHeap) (Q : Post) :
    WP AP ctx law23_TraceParts_c8 ⟨tm, dfs, up, H⟩ Q =
    (GS AP dirty ctx law23_TraceParts_c8_r0 ⟨tm, dfs, up, H⟩ (SEQ (WP AP ctx law23_TraceParts_c9) Q)) := Gxrseq AP ctx _ _ law23_TraceParts_c8_r0 law23_TraceParts_c9
theorem law23_TraceParts_c8_r0_w (ctx : Ctx) (tm : T AV) (dfs : List ADef) (up : Option Chain) (H : AHeap) (Q : Post) :
    GS AP true ctx law23_TraceParts_c8_r0 ⟨tm, dfs, up, H⟩ Q =
    (LK dirty (tm.get 0) fun g ti0 => BI g (Op.move [ti0]) fun g t25 => BI g (Op.lenSl [t25]) fun g t26 => BI g (Op.move [(.int .i64 0)]) fun g t27 => 
    GO g Q .normal ⟨(setsE [(27, t27), (26, t26), (25, t25)] tm), dfs, up, H⟩) := WPS_shallow (l := law23_TraceParts_c8_r0) (by kernel_rfl)
theorem law23_TraceParts_c30_w (ctx : Ctx) (tm : T AV) (dfs : List ADef) (up : Option Chain) (H : AHeap) (Q : Post) :
    WP AP ctx law23_TraceParts_c30 ⟨tm, dfs, up, H⟩ Q =
    (GS AP dirty ctx law23_TraceParts_c30_r0 ⟨tm, dfs, up, H⟩ (SEQ (WP AP ctx .ret) Q)) := Gxrseq AP ctx _ _ law23_TraceParts_c30_r0 .ret
theorem law23_TraceParts_c30_r0_w (ctx : Ctx) (tm : T AV) (dfs : List ADef) (up : Option Chain) (H : AHeap) (Q : Post) :
    GS AP true ctx law23_TraceParts_c30_r0 ⟨tm, dfs, up, H⟩ Q =
    (BI dirty (Op.move [(.bool false)]) fun g t6 => GO g Q .normal ⟨(setsE [(6, t6)] tm), dfs, up, H⟩) := WPS_shallow (l := law23_TraceParts_c30_r0) (by kernel_rfl)
theorem law23_TraceParts_c29_w (ctx : Ctx) (tm : T AV) (dfs : List ADef) (up : Option Chain) (H : AHeap) (Q : Post) :
    WP AP ctx law23_TraceParts_c29 ⟨tm, dfs, up, H⟩ Q =
    (BI dirty (tm.get 60) fun g v => BI g (asBool v) fun g q => IG g q (fun g => GW AP g ctx law23_TraceParts_c30 ⟨tm, dfs, up, H⟩ Q) (fun g => GW AP g ctx .skip ⟨tm, dfs, up, H⟩ Q)) := Gxcond AP ctx _ _ 60 law23_TraceParts_c30 .skip
theorem law23_TraceParts_c28_w (ctx : Ctx) (tm : T AV) (dfs : List ADef) (up : Option Chain) (H : AHeap) (Q : Post) :
    WP AP ctx law23_TraceParts_c28 ⟨tm, dfs, up, H⟩ Q =
    (GS AP dirty ctx law23_TraceParts_c28_r0 ⟨tm, dfs, up, H⟩ (SEQ (WP AP ctx law23_TraceParts_c29) Q)) := Gxrseq AP ctx _ _ law23_TraceParts_c28_r0 law23_TraceParts_c29
theorem law23_TraceParts_c28_r0_w (ctx : Ctx) (tm : T AV) (dfs : List ADef) (up : Option Chain) (H : AHeap) (Q : Post) :
    GS AP true ctx law23_TraceParts_c28_r0 ⟨tm, dfs, up, H⟩ Q =
    (LK dirty (tm.get 12) fun g ti12 => BI g (Op.move [ti12]) fun g t59 => BI g ((Op.un .not) [t59]) fun g t60 => GO g Q .normal ⟨(setsE [(60, t60), (59, t59)] tm), dfs, up, H⟩) := WPS_shallow (l := law23_TraceParts_c28_r0) (by kernel_rfl)
theorem law23_TraceParts_c38_w (ctx : Ctx) (tm : T AV) (dfs : List ADef) (up : Option Chain) (H : AHeap) (Q : Post) :
    WP AP ctx law23_TraceParts_c38 ⟨tm, dfs, up, H⟩ Q =
    (GS AP dirty ctx law23_TraceParts_c38_r0 ⟨tm, dfs, up, H⟩ (SEQ (WP AP ctx .ret) Q)) := Gxrseq AP ctx _ _ law23_TraceParts_c38_r0 .ret
theorem law23_TraceParts_c38_r0_w (ctx : Ctx) (tm : T AV) (dfs : List ADef) (up : Option Chain) (H : AHeap) (Q : Post) :
    GS AP true ctx law23_TraceParts_c38_r0 ⟨tm, dfs, up, H⟩ Q =
    (BI dirty (Op.move [(.bool false)]) fun g t6 => GO g Q .normal ⟨(setsE [(6, t6)] tm), dfs, up, H⟩) := WPS_shallow (l := law23_TraceParts_c38_r0) (by kernel_rfl)
theorem law23_TraceParts_c37_w (ctx : Ctx) (tm : T AV) (dfs : List ADef) (up : Option Chain) (H : AHeap) (Q : Post) :
    WP AP ctx law23_TraceParts_c37 ⟨tm, dfs, up, H⟩ Q =
    (BI dirty (tm.get 88) fun g v => BI g (asBool v) fun g q => IG g q (fun g => GW AP g ctx law23_TraceParts_c38 ⟨tm, dfs, up, H⟩ Q) (fun g => GW AP g ctx .skip ⟨tm, dfs, up, H⟩ Q)) := Gxcond AP ctx _ _ 88 law23_TraceParts_c38 .skip
theorem law23_TraceParts_c36_w (ctx : Ctx) (tm : T AV) (dfs : List ADef) (up : Option Chain) (H : AHeap) (Q : Post) :
    WP AP ctx law23_TraceParts_c36 ⟨tm, dfs, up, H⟩ Q =
    (GS AP dirty ctx law23_TraceParts_c36_r0 ⟨tm, dfs, up, H⟩ (SEQ (WP AP ctx law23_TraceParts_c37) Q)) := Gxrseq AP ctx _ _ law23_TraceParts_c36_r0 law23_TraceParts_c37
theorem law23_TraceParts_c36_r0_w (ctx : Ctx) (tm : T AV) (dfs : List ADef) (up : Option Chain) (H : AHeap) (Q : Post) :
    GS AP true ctx law23_TraceParts_c36_r0 ⟨tm, dfs, up, H⟩ Q =
    (LK dirty (tm.get 13) fun g ti13 => BI g (Op.move [ti13]) fun g t79 => LK g (tm.get 14) fun g ti14 => BI g (Op.move [ti14]) fun g t80 => CA AP g (.func N_ref23_Same) [t79, t80] H (fun g t81 H1 => 
    BI g ((Op.un .not) [t81]) fun g t82 => BI g (Op.move [t82]) fun g t83 => BI g (wantV false (some t83)) fun g w => IG g w (fun g => LK g (tm.get 15) fun g ti15 => BI g (Op.move [ti15]) fun g t84 => 
    GS AP g ctx law23_TraceParts_c36_r1 ⟨(setsE [(84, t84), (83, t83), (82, t82), (81, t81), (80, t80), (79, t79)] tm), dfs, up, H1⟩ Q) (fun g => GS AP g ctx law23_TraceParts_c36_r1 ⟨(setsE [(84, .undef), (83, t83), (82, t82), (81, t81), (80, t80), (79, t79)] tm), dfs, up, H1⟩ Q)) (PAN (some []) (setsE [(80, t80), (79, t79)] tm) dfs up Q)) := WPS_part (l := law23_TraceParts_c36_r0a) (tail := law23_TraceParts_c36_r1) (by kernel_rfl)
theorem law23_TraceParts_c36_r1_w (ctx : Ctx) (tm : T AV) (dfs : List ADef) (up : Option Chain) (H : AHeap) (Q : Post) :
    GS AP true ctx law23_TraceParts_c36_r1 ⟨tm, dfs, up, H⟩ Q =
    (BI dirty (wantV false (tm.get 83)) fun g w => IG g w (fun g => LK g (tm.get 16) fun g ti16 => BI g (Op.move [ti16]) fun g t85 => GS AP g ctx law23_TraceParts_c36_r2 ⟨(setsE [(85, t85)] tm), dfs, up, H⟩ Q) (fun g => GS AP g ctx law23_TraceParts_c36_r2 ⟨(setsE [(85, .undef)] tm), dfs, up, H⟩ Q)) := WPS_part (l := law23_TraceParts_c36_r1a) (tail := law23_TraceParts_c36_r2) (by kernel_rfl)
theorem law23_TraceParts_c36_r2_w (ctx : Ctx) (tm : T AV) (dfs : List ADef) (up : Option Chain) (H : AHeap) (Q : Post) :
    GS AP true ctx law23_TraceParts_c36_r2 ⟨tm, dfs, up, H⟩ Q =
    (BI dirty (wantV false (tm.get 83)) fun g w => IG g w (fun g => LK g (tm.get 84) fun g ti84 => LK g (tm.get 85) fun g ti85 => CA AP g (.func N_ref23_Same) [ti84, ti85] H (fun g t86 H1 => 
    GS AP g ctx law23_TraceParts_c36_r3 ⟨(setsE [(86, t86)] tm), dfs, up, H1⟩ Q) (PAN (some []) (setsE [] tm) dfs up Q)) (fun g => GS AP g ctx law23_TraceParts_c36_r3 ⟨(setsE [(86, .undef)] tm), dfs, up, H⟩ Q)) := WPS_part (l := law23_TraceParts_c36_r2a) (tail := law23_TraceParts_c36_r3) (by kernel_rfl)
theorem law23_TraceParts_c36_r3_w (ctx : Ctx) (tm : T AV) (dfs : List ADef) (up : Option Chain) (H : AHeap) (Q : Post) :
    GS AP true ctx law23_TraceParts_c36_r3 ⟨tm, dfs, up, H⟩ Q =
    (BI dirty (wantV false (tm.get 83)) fun g w => IG g w (fun g => LK g (tm.get 86) fun g ti86 => BI g ((Op.un .not) [ti86]) fun g t87 => GS AP g ctx law23_TraceParts_c36_r4 ⟨(setsE [(87, t87)] tm), dfs, up, H⟩ Q) (fun g => GS AP g ctx law23_TraceParts_c36_r4 ⟨(setsE [(87, .undef)] tm), dfs, up, H⟩ Q)) := WPS_part (l := law23_TraceParts_c36_r3a) (tail := law23_TraceParts_c36_r4) (by kernel_rfl)
theorem law23_TraceParts_c36_r4_w (ctx : Ctx) (tm : T AV) (dfs : List ADef) (up : Option Chain) (H : AHeap) (Q : Post) :
    GS AP true ctx law23_TraceParts_c36_r4 ⟨tm, dfs, up, H⟩ Q =
    (LK dirty (tm.get 83) fun g ti83 => LK g (tm.get 87) fun g ti87 => BI g (Op.pick [ti83, (.bool true), ti87]) fun g t88 => GO g Q .normal ⟨(setsE [(88, t88)] tm), dfs, up, H⟩) := WPS_shallow (l := law23_TraceParts_c36_r4) (by kernel_rfl)
theorem law23_TraceParts_c45_w (ctx : Ctx) (tm : T AV) (dfs : List ADef) (up : Option Chain) (H : AHeap) (Q : Post) :
    WP AP ctx law23_TraceParts_c45 ⟨tm, dfs, up, H⟩ Q =
    (BI dirty (tm.get 92) fun g v => BI g (asBool v) fun g q => IG g q (fun g => GW AP g ctx .skip ⟨tm, dfs, up, H⟩ Q) (fun g => GW AP g ctx (.exit 2) ⟨tm, dfs, up, H⟩ Q)) := Gxcond AP ctx _ _ 92 .skip (.exit 2)
theorem law23_TraceParts_c49_w (ctx : Ctx) (tm : T AV) (dfs : List ADef) (up : Option Chain) (H : AHeap) (Q : Post) :
    WP AP ctx law23_TraceParts_c49 ⟨tm, dfs, up, H⟩ Q =
    (GS AP dirty ctx law23_TraceParts_c49_r0 ⟨tm, dfs, up, H⟩ Q) := Gxregion AP ctx _ _ law23_TraceParts_c49_r0
theorem law23_TraceParts_c49_r0_w (ctx : Ctx) (tm : T AV) (dfs : List ADef) (up : Option Chain) (H : AHeap) (Q : Post) :
    GS AP true ctx law23_TraceParts_c49_r0 ⟨tm, dfs, up, H⟩ Q =
    (LK dirty (tm.get 13) fun g ti13 => BI g (Op.move [ti13]) fun g t94 => LK g (tm.get 17) fun g ti17 => BI g (Op.move [ti17]) fun g t95 => BI g ((Op.indexSl 9) [t94, t95]) fun g t96 => 
    BI g ((Op.fieldAddr 0) [t96]) fun g t97 => BI2 g ((Op.store 1) [t97, (.int .i64 99)] H) fun g t_u H1 => 
    GO g Q .normal ⟨(setsE [(97, t97), (96, t96), (95, t95), (94, t94)] tm), dfs, up, H1⟩) := WPS_shallow (l := law23_TraceParts_c49_r0) (by kernel_rfl)
theorem law23_TraceParts_c48_w (ctx : Ctx) (tm : T AV) (dfs : List ADef) (up : Option Chain) (H : AHeap) (Q : Post) :
    WP AP ctx law23_TraceParts_c48 ⟨tm, dfs, up, H⟩ Q =
    (GS AP dirty ctx law23_TraceParts_c48_r0 ⟨tm, dfs, up, H⟩ (SEQ (WP AP ctx law23_TraceParts_c49) Q)) := Gxrseq AP ctx _ _ law23_TraceParts_c48_r0 law23_TraceParts_c49
theorem law23_TraceParts_c48_r0_w (ctx : Ctx) (tm : T AV) (dfs : List ADef) (up : Option Chain) (H : AHeap) (Q : Post) :
    GS AP true ctx law23_TraceParts_c48_r0 ⟨tm, dfs, up, H⟩ Q =
    (LK dirty (tm.get 91) fun g ti91 => BI g (Op.move [ti91]) fun g t93 => BI g (Op.move [t93]) fun g t17 => GO g Q .normal ⟨(setsE [(17, t17), (93, t93)] tm), dfs, up, H⟩) := WPS_shallow (l := law23_TraceParts_c48_r0) (by kernel_rfl)
theorem law23_TraceParts_c47_w (ctx : Ctx) (tm : T AV) (dfs : List ADef) (up : Option Chain) (H : AHeap) (Q : Post) :
    WP AP ctx law23_TraceParts_c47 ⟨tm, dfs, up, H⟩ Q =
    (WP AP ctx law23_TraceParts_c48 ⟨tm, dfs, up, H⟩ (BLK 3 Q)) := WP_block AP ctx _ _ 3 law23_TraceParts_c48
theorem law23_TraceParts_c50_w (ctx : Ctx) (tm : T AV) (dfs : List ADef) (up : Option Chain) (H : AHeap) (Q : Post) :
    WP AP ctx law23_TraceParts_c50 ⟨tm, dfs, up, H⟩ Q =
    (GS AP dirty ctx law23_TraceParts_c50_r0 ⟨tm, dfs, up, H⟩ Q) := Gxregion AP ctx _ _ law23_TraceParts_c50_r0
theorem law23_TraceParts_c50_r0_w (ctx : Ctx) (tm : T AV) (dfs : List ADef) (up : Option Chain) (H : AHeap) (Q : Post) :
    GS AP true ctx law23_TraceParts_c50_r0 ⟨tm, dfs, up, H⟩ Q =
    (LK dirty (tm.get 91) fun g ti91 => BI g ((Op.bin .add) [ti91, (.int .i64 1)]) fun g t98 => BI g (Op.move [t98]) fun g t91 => GO g Q .normal ⟨(setsE [(91, t91), (98, t98)] tm), dfs, up, H⟩) := WPS_shallow (l := law23_TraceParts_c50_r0) (by kernel_rfl)
theorem law23_TraceParts_c46_w (ctx : Ctx) (tm : T AV) (dfs : List ADef) (up : Option Chain) (H : AHeap) (Q : Post) :
    WP AP ctx law23_TraceParts_c46 ⟨tm, dfs, up, H⟩ Q =
    (WP AP ctx law23_TraceParts_c47 ⟨tm, dfs, up, H⟩ (SEQ (WP AP ctx law23_TraceParts_c50) Q)) := WP_seq AP ctx _ _ law23_TraceParts_c47 law23_TraceParts_c50
theorem law23_TraceParts_c44_w (ctx : Ctx) (tm : T AV) (dfs : List ADef) (up : Option Chain) (H : AHeap) (Q : Post) :
    WP AP ctx law23_TraceParts_c44 ⟨tm, dfs, up, H⟩ Q =
    (WP AP ctx law23_TraceParts_c45 ⟨tm, dfs, up, H⟩ (SEQ (WP AP ctx law23_TraceParts_c46) Q)) := WP_seq AP ctx _ _ law23_TraceParts_c45 law23_TraceParts_c46
theorem law23_TraceParts_c43_w (ctx : Ctx) (tm : T AV) (dfs : List ADef) (up : Option Chain) (H : AHeap) (Q : Post) :
    WP AP ctx law23_TraceParts_c43 ⟨tm, dfs, up, H⟩ Q =
    (GS AP dirty ctx law23_TraceParts_c43_r0 ⟨tm, dfs, up, H⟩ (SEQ (WP AP ctx law23_TraceParts_c44) Q)) := Gxrseq AP ctx _ _ law23_TraceParts_c43_r0 law23_TraceParts_c44
theorem law23_TraceParts_c43_r0_w (ctx : Ctx) (tm : T AV) (dfs : List ADef) (up : Option Chain) (H : AHeap) (Q : Post) :
    GS AP true ctx law23_TraceParts_c43_r0 ⟨tm, dfs, up, H⟩ Q =
    (LK dirty (tm.get 91) fun g ti91 => LK g (tm.get 90) fun g ti90 => BI g ((Op.bin .lss) [ti91, ti90]) fun g t92 => GO g Q .normal ⟨(setsE [(92, t92)] tm), dfs, up, H⟩) := WPS_shallow (l := law23_TraceParts_c43_r0) (by kernel_rfl)
theorem law23_TraceParts_c42_w (ctx : Ctx) (tm : T AV) (dfs : List ADef) (up : Option Chain) (H : AHeap) (Q : Post) :
    WP AP ctx law23_TraceParts_c42 ⟨tm, dfs, up, H⟩ Q =
    (LOOP (WP AP ctx law23_TraceParts_c43) none ⟨tm, dfs, up, H⟩ Q) := WP_loop AP ctx _ _ none law23_TraceParts_c43
theorem law23_TraceParts_c41_w (ctx : Ctx) (tm : T AV) (dfs : List ADef) (up : Option Chain) (H : AHeap) (Q : Post) :
    WP AP ctx law23_TraceParts_c41 ⟨tm, dfs, up, H⟩ Q =
    (WP AP ctx law23_TraceParts_c42 ⟨tm, dfs, up, H⟩ (BLK 2 Q)) := WP_block AP ctx _ _ 2 law23_TraceParts_c42
theorem law23_TraceParts_c40_w (ctx : Ctx) (tm : T AV) (dfs : List ADef) (up : Option Chain) (H : AHeap) (Q : Post) :
    WP AP ctx law23_TraceParts_c40 ⟨tm, dfs, up, H⟩ Q =
    (GS AP dirty ctx law23_TraceParts_c40_r0 ⟨tm, dfs, up, H⟩ (SEQ (WP AP ctx law23_TraceParts_c41) Q)) := Gxrseq AP ctx _ _ law23_TraceParts_c40_r0 law23_TraceParts_c41
theorem law23_TraceParts_c40_r0_w (ctx : Ctx) (tm : T AV) (dfs : List ADef) (up : Option Chain) (H : AHeap) (Q : Post) :
    GS AP true ctx law23_TraceParts_c40_r0 ⟨tm, dfs, up, H⟩ Q =
    (LK dirty (tm.get 13) fun g ti13 => BI g (Op.move [ti13]) fun g t89 => BI g (Op.lenSl [t89]) fun g t90 => BI g (Op.move [(.int .i64 0)]) fun g t91 => 
    GO g Q .normal ⟨(setsE [(91, t91), (90, t90), (89, t89)] tm), dfs, up, H⟩) := WPS_shallow (l := law23_TraceParts_c40_r0) (by kernel_rfl)
theorem law23_TraceParts_c57_w (ctx : Ctx) (tm : T AV) (dfs : List ADef) (up : Option Chain) (H : AHeap) (Q : Post) :
    WP AP ctx law23_TraceParts_c57 ⟨tm, dfs, up, H⟩ Q =
    (BI dirty (tm.get 102) fun g v => BI g (asBool v) fun g q => IG g q (fun g => GW AP g ctx .skip ⟨tm, dfs, up, H⟩ Q) (fun g => GW AP g ctx (.exit 4) ⟨tm, dfs, up, H⟩ Q)) := Gxcond AP ctx _ _ 102 .skip (.exit 4)
theorem law23_TraceParts_c61_w (ctx : Ctx) (tm : T AV) (dfs : List ADef) (up : Option Chain) (H : AHeap) (Q : Post) :
    WP AP ctx law23_TraceParts_c61 ⟨tm, dfs, up, H⟩ Q =
    (GS AP dirty ctx law23_TraceParts_c61_r0 ⟨tm, dfs, up, H⟩ Q) := Gxregion AP ctx _ _ law23_TraceParts_c61_r0
theorem law23_TraceParts_c61_r0_w (ctx : Ctx) (tm : T AV) (dfs : List ADef) (up : Option Chain) (H : AHeap) (Q : Post) :
    GS AP true ctx law23_TraceParts_c61_r0 ⟨tm, dfs, up, H⟩ Q =
    (LK dirty (tm.get 15) fun g ti15 => BI g (Op.move [ti15]) fun g t104 => LK g (tm.get 18) fun g ti18 => BI g (Op.move [ti18]) fun g t105 => BI g ((Op.indexSl 9) [t104, t105]) fun g t106 => 
    BI g ((Op.fieldAddr 0) [t106]) fun g t107 => BI2 g ((Op.store 1) [t107, (.int .i64 98)] H) fun g t_u H1 => 
    GO g Q .normal ⟨(setsE [(107, t107), (106, t106), (105, t105), (104, t104)] tm), dfs, up, H1⟩) := WPS_shallow (l := law23_TraceParts_c61_r0) (by kernel_rfl)
theorem law23_TraceParts_c60_w (ctx : Ctx) (tm : T AV) (dfs : List ADef) (up : Option Chain) (H : AHeap) (Q : Post) :
    WP AP ctx law23_TraceParts_c60 ⟨tm, dfs, up, H⟩ Q =
    (GS AP dirty ctx law23_TraceParts_c60_r0 ⟨tm, dfs, up, H⟩ (SEQ (WP AP ctx law23_TraceParts_c61) Q)) := Gxrseq AP ctx _ _ law23_TraceParts_c60_r0 law23_TraceParts_c61
theorem law23_TraceParts_c60_r0_w (ctx : Ctx) (tm : T AV) (dfs : List ADef) (up : Option Chain) (H : AHeap) (Q : Post) :
    GS AP true ctx law23_TraceParts_c60_r0 ⟨tm, dfs, up, H⟩ Q =
    (LK dirty (tm.get 101) fun g ti101 => BI g (Op.move [ti101]) fun g t103 => BI g (Op.move [t103]) fun g t18 => GO g Q .normal ⟨(setsE [(18, t18), (103, t103)] tm), dfs, up, H⟩) := WPS_shallow (l := law23_TraceParts_c60_r0) (by kernel_rfl)
theorem law23_TraceParts_c59_w (ctx : Ctx) (tm : T AV) (dfs : List ADef) (up : Option Chain) (H : AHeap) (Q : Post) :
    WP AP ctx law23_TraceParts_c59 ⟨tm, dfs, up, H⟩ Q =
    (WP AP ctx law23_TraceParts_c60 ⟨tm, dfs, up, H⟩ (BLK 5 Q)) := WP_block AP ctx _ _ 5 law23_TraceParts_c60
theorem law23_TraceParts_c62_w (ctx : Ctx) (tm : T AV) (dfs : List ADef) (up : Option Chain) (H : AHeap) (Q : Post) :
    WP AP ctx law23_TraceParts_c62 ⟨tm, dfs, up, H⟩ Q =
    (GS AP dirty ctx law23_TraceParts_c62_r0 ⟨tm, dfs, up, H⟩ Q) := Gxregion AP ctx _ _ law23_TraceParts_c62_r0
theorem law23_TraceParts_c62_r0_w (ctx : Ctx) (tm : T AV) (dfs : List ADef) (up : Option Chain) (H : AHeap) (Q : Post) :
    GS AP true ctx law23_TraceParts_c62_r0 ⟨tm, dfs, up, H⟩ Q =
    (LK dirty (tm.get 101) fun g ti101 => BI g ((Op.bin .add) [ti101, (.int .i64 1)]) fun g t108 => BI g (Op.move [t108]) fun g t101 => GO g Q .normal ⟨(setsE [(101, t101), (108, t108)] tm), dfs, up, H⟩) := WPS_shallow (l := law23_TraceParts_c62_r0) (by kernel_rfl)
theorem law23_TraceParts_c58_w (ctx : Ctx) (tm : T AV) (dfs : List ADef) (up : Option Chain) (H : AHeap) (Q : Post) :
    WP AP ctx law23_TraceParts_c58 ⟨tm, dfs, up, H⟩ Q =
    (WP AP ctx law23_TraceParts_c59 ⟨tm, dfs, up, H⟩ (SEQ (WP AP ctx law23_TraceParts_c62) Q)) := WP_seq AP ctx _ _ law23_TraceParts_c59 law23_TraceParts_c62
theorem law23_TraceParts_c56_w (ctx : Ctx) (tm : T AV) (dfs : List ADef) (up : Option Chain) (H : AHeap) (Q : Post) :
    WP AP ctx law23_TraceParts_c56 ⟨tm, dfs, up, H⟩ Q =
    (WP AP ctx law23_TraceParts_c57 ⟨tm, dfs, up, H⟩ (SEQ (WP AP ctx law23_TraceParts_c58) Q)) := WP_seq AP ctx _ _ law23_TraceParts_c57 law23_TraceParts_c58
theorem law23_TraceParts_c55_w (ctx : Ctx) (tm : T AV) (dfs : List ADef) (up : Option Chain) (H : AHeap) (Q : Post) :
    WP AP ctx law23_TraceParts_c55 ⟨tm, dfs, up, H⟩ Q =
    (GS AP dirty ctx law23_TraceParts_c55_r0 ⟨tm, dfs, up, H⟩ (SEQ (WP AP ctx law23_TraceParts_c56) Q)) := Gxrseq AP ctx _ _ law23_TraceParts_c55_r0 law23_TraceParts_c56
theorem law23_TraceParts_c55_r0_w (ctx : Ctx) (tm : T AV) (dfs : List ADef) (up : Option Chain) (H : AHeap) (Q : Post) :
    GS AP true ctx law23_TraceParts_c55_r0 ⟨tm, dfs, up, H⟩ Q =
    (LK dirty (tm.get 101) fun g ti101 => LK g (tm.get 100) fun g ti100 => BI g ((Op.bin .lss) [ti101, ti100]) fun g t102 => GO g Q .normal ⟨(setsE [(102, t102)] tm), dfs, up, H⟩) := WPS_shallow (l := law23_TraceParts_c55_r0) (by kernel_rfl)
theorem law23_TraceParts_c54_w (ctx : Ctx) (tm : T AV) (dfs : List ADef) (up : Option Chain) (H : AHeap) (Q : Post) :
    WP AP ctx law23_TraceParts_c54 ⟨tm, dfs, up, H⟩ Q =
    (LOOP (WP AP ctx law23_TraceParts_c55) none ⟨tm, dfs, up, H⟩ Q) := WP_loop AP ctx _ _ none law23_TraceParts_c55
theorem law23_TraceParts_c53_w (ctx : Ctx) (tm : T AV) (dfs : List ADef) (up : Option Chain) (H : AHeap) (Q : Post) :
    WP AP ctx law23_TraceParts_c53 ⟨tm, dfs, up, H⟩ Q =
    (WP AP ctx law23_TraceParts_c54 ⟨tm, dfs, up, H⟩ (BLK 4 Q)) := WP_block AP ctx _ _ 4 law23_TraceParts_c54
theorem law23_TraceParts_c52_w (ctx : Ctx) (tm : T AV) (dfs : List ADef) (up : Option Chain) (H : AHeap) (Q : Post) :
    WP AP ctx law23_TraceParts_c52 ⟨tm, dfs, up, H⟩ Q =
    (GS AP dirty ctx law23_TraceParts_c52_r0 ⟨tm, dfs, up, H⟩ (SEQ (WP AP ctx law23_TraceParts_c53) Q)) := Gxrseq AP ctx _ _ law23_TraceParts_c52_r0 law23_TraceParts_c53
theorem law23_TraceParts_c52_r0_w (ctx : Ctx) (tm : T AV) (dfs : List ADef) (up : Option Chain) (H : AHeap) (Q : Post) :
    GS AP true ctx law23_TraceParts_c52_r0 ⟨tm, dfs, up, H⟩ Q =
    (LK dirty (tm.get 15) fun g ti15 => BI g (Op.move [ti15]) fun g t99 => BI g (Op.lenSl [t99]) fun g t100 => BI g (Op.move [(.int .i64 0)]) fun g t101 => 
    GO g Q .normal ⟨(setsE [(101, t101), (100, t100), (99, t99)] tm), dfs, up, H⟩) := WPS_shallow (l := law23_TraceParts_c52_r0) (by kernel_rfl)
theorem law23_TraceParts_c70_w (ctx : Ctx) (tm : T AV) (dfs : List ADef) (up : Option Chain) (H : AHeap) (Q : Post) :
    WP AP ctx law23_TraceParts_c70 ⟨tm, dfs, up, H⟩ Q =
    (BI dirty (tm.get 115) fun g v => BI g (asBool v) fun g q => IG g q (fun g => GW AP g ctx .skip ⟨tm, dfs, up, H⟩ Q) (fun g => GW AP g ctx (.exit 6) ⟨tm, dfs, up, H⟩ Q)) := Gxcond AP ctx _ _ 115 .skip (.exit 6)
theorem law23_TraceParts_c74_w (ctx : Ctx) (tm : T AV) (dfs : List ADef) (up : Option Chain) (H : AHeap) (Q : Post) :
    WP AP ctx law23_TraceParts_c74 ⟨tm, dfs, up, H⟩ Q =
    (GS AP dirty ctx law23_TraceParts_c74_r0 ⟨tm, dfs, up, H⟩ Q) := Gxregion AP ctx _ _ law23_TraceParts_c74_r0
theorem law23_TraceParts_c74_r0_w (ctx : Ctx) (tm : T AV) (dfs : List ADef) (up : Option Chain) (H : AHeap) (Q : Post) :
    GS AP true ctx law23_TraceParts_c74_r0 ⟨tm, dfs, up, H⟩ Q =
    (LK dirty (tm.get 10) fun g ti10 => BI g (Op.move [ti10]) fun g t117 => LK g (tm.get 19) fun g ti19 => BI g (Op.move [ti19]) fun g t118 => BI g ((Op.indexSl 9) [t117, t118]) fun g t119 => 
    BI g ((Op.fieldAddr 0) [t119]) fun g t120 => BI2 g ((Op.store 1) [t120, (.int .i64 97)] H) fun g t_u H1 => 
    GO g Q .normal ⟨(setsE [(120, t120), (119, t119), (118, t118), (117, t117)] tm), dfs, up, H1⟩) := WPS_shallow (l := law23_TraceParts_c74_r0) (by kernel_rfl)
theorem law23_TraceParts_c73_w (ctx : Ctx) (tm : T AV) (dfs : List ADef) (up : Option Chain) (H : AHeap) (Q : Post) :
    WP AP ctx law23_TraceParts_c73 ⟨tm, dfs, up, H⟩ Q =
    (GS AP dirty ctx law23_TraceParts_c73_r0 ⟨tm, dfs, up, H⟩ (SEQ (WP AP ctx law23_TraceParts_c74) Q)) := Gxrseq AP ctx _ _ law23_TraceParts_c73_r0 law23_TraceParts_c74
theorem law23_TraceParts_c73_r0_w (ctx : Ctx) (tm : T AV) (dfs : List ADef) (up : Option Chain) (H : AHeap) (Q : Post) :
    GS AP true ctx law23_TraceParts_c73_r0 ⟨tm, dfs, up, H⟩ Q =
    (LK dirty (tm.get 114) fun g ti114 => BI g (Op.move [ti114]) fun g t116 => BI g (Op.move [t116]) fun g t19 => GO g Q .normal ⟨(setsE [(19, t19), (116, t116)] tm), dfs, up, H⟩) := WPS_shallow (l := law23_TraceParts_c73_r0) (by kernel_rfl)
theorem law23_TraceParts_c72_w (ctx : Ctx) (tm : T AV) (dfs : List ADef) (up : Option Chain) (H : AHeap) (Q : Post) :
    WP AP ctx law23_TraceParts_c72 ⟨tm, dfs, up, H⟩ Q =
    (WP AP ctx law23_TraceParts_c73 ⟨tm, dfs, up, H⟩ (BLK 7 Q)) := WP_block AP ctx _ _ 7 law23_TraceParts_c73
theorem law23_TraceParts_c75_w (ctx : Ctx) (tm : T AV) (dfs : List ADef) (up : Option Chain) (H : AHeap) (Q : Post) :
    WP AP ctx law23_TraceParts_c75 ⟨tm, dfs, up, H⟩ Q =
    (GS AP dirty ctx law23_TraceParts_c75_r0 ⟨tm, dfs, up, H⟩ Q) := Gxregion AP ctx _ _ law23_TraceParts_c75_r0
theorem law23_TraceParts_c75_r0_w (ctx : Ctx) (tm : T AV) (dfs : List ADef) (up : Option Chain) (H : AHeap) (Q : Post) :
    GS AP true ctx law23_TraceParts_c75_r0 ⟨tm, dfs, up, H⟩ Q =
    (LK dirty (tm.get 114) fun g ti114 => BI g ((Op.bin .add) [ti114, (.int .i64 1)]) fun g t121 => BI g (Op.move [t121]) fun g t114 => GO g Q .normal ⟨(setsE [(114, t114), (121, t121)] tm), dfs, up, H⟩) := WPS_shallow (l := law23_TraceParts_c75_r0) (by kernel_rfl)
theorem law23_TraceParts_c71_w (ctx : Ctx) (tm : T AV) (dfs : List ADef) (up : Option Chain) (H : AHeap) (Q : Post) :
    WP AP ctx law23_TraceParts_c71 ⟨tm, dfs, up, H⟩ Q =
    (WP AP ctx law23_TraceParts_c72 ⟨tm, dfs, up, H⟩ (SEQ (WP AP ctx law23_TraceParts_c75) Q)) := WP_seq AP ctx _ _ law23_TraceParts_c72 law23_TraceParts_c75
theorem law23_TraceParts_c69_w (ctx : Ctx) (tm : T AV) (dfs : List ADef) (up : Option Chain) (H : AHeap) (Q : Post) :
    WP AP ctx law23_TraceParts_c69 ⟨tm, dfs, up, H⟩ Q =
    (WP AP ctx law23_TraceParts_c70 ⟨tm, dfs, up, H⟩ (SEQ (WP AP ctx law23_TraceParts_c71) Q)) := WP_seq AP ctx _ _ law23_TraceParts_c70 law23_TraceParts_c71
theorem law23_TraceParts_c68_w (ctx : Ctx) (tm : T AV) (dfs : List ADef) (up : Option Chain) (H : AHeap) (Q : Post) :
    WP AP ctx law23_TraceParts_c68 ⟨tm, dfs, up, H⟩ Q =
    (GS AP dirty ctx law23_TraceParts_c68_r0 ⟨tm, dfs, up, H⟩ (SEQ (WP AP ctx law23_TraceParts_c69) Q)) := Gxrseq AP ctx _ _ law23_TraceParts_c68_r0 law23_TraceParts_c69
theorem law23_TraceParts_c68_r0_w (ctx : Ctx) (tm : T AV) (dfs : List ADef) (up : Option Chain) (H : AHeap) (Q : Post) :
    GS AP true ctx law23_TraceParts_c68_r0 ⟨tm, dfs, up, H⟩ Q =
    (LK dirty (tm.get 114) fun g ti114 => LK g (tm.get 113) fun g ti113 => BI g ((Op.bin .lss) [ti114, ti113]) fun g t115 => GO g Q .normal ⟨(setsE [(115, t115)] tm), dfs, up, H⟩) := WPS_shallow (l := law23_TraceParts_c68_r0) (by kernel_rfl)
theorem law23_TraceParts_c67_w (ctx : Ctx) (tm : T AV) (dfs : List ADef) (up : Option Chain) (H : AHeap) (Q : Post) :
    WP AP ctx law23_TraceParts_c67 ⟨tm, dfs, up, H⟩ Q =
    (LOOP (WP AP ctx law23_TraceParts_c68) none ⟨tm, dfs, up, H⟩ Q) := WP_loop AP ctx _ _ none law23_TraceParts_c68
theorem law23_TraceParts_c66_w (ctx : Ctx) (tm : T AV) (dfs : List ADef) (up : Option Chain) (H : AHeap) (Q : Post) :
    WP AP ctx law23_TraceParts_c66 ⟨tm, dfs, up, H⟩ Q =
    (WP AP ctx law23_TraceParts_c67 ⟨tm, dfs, up, H⟩ (BLK 6 Q)) := WP_block AP ctx _ _ 6 law23_TraceParts_c67
theorem law23_TraceParts_c65_w (ctx : Ctx) (tm : T AV) (dfs : List ADef) (up : Option Chain) (H : AHeap) (Q : Post) :
    WP AP ctx law23_TraceParts_c65 ⟨tm, dfs, up, H⟩ Q =
    (GS AP dirty ctx law23_TraceParts_c65_r0 ⟨tm, dfs, up, H⟩ (SEQ (WP AP ctx law23_TraceParts_c66) Q)) := Gxrseq AP ctx _ _ law23_TraceParts_c65_r0 law23_TraceParts_c66
theorem law23_TraceParts_c65_r0_w (ctx : Ctx) (tm : T AV) (dfs : List ADef) (up : Option Chain) (H : AHeap) (Q : Post) :
    GS AP true ctx law23_TraceParts_c65_r0 ⟨tm, dfs, up, H⟩ Q =
    (LK dirty (tm.get 10) fun g ti10 => BI g (Op.move [ti10]) fun g t112 => BI g (Op.lenSl [t112]) fun g t113 => BI g (Op.move [(.int .i64 0)]) fun g t114 => 
    GO g Q .normal ⟨(setsE [(114, t114), (113, t113), (112, t112)] tm), dfs, up, H⟩) := WPS_shallow (l := law23_TraceParts_c65_r0) (by kernel_rfl)
theorem law23_TraceParts_c82_w (ctx : Ctx) (tm : T AV) (dfs : List ADef) (up : Option Chain) (H : AHeap) (Q : Post) :
    WP AP ctx law23_TraceParts_c82 ⟨tm, dfs, up, H⟩ Q =
    (BI dirty (tm.get 125) fun g v => BI g (asBool v) fun g q => IG g q (fun g => GW AP g ctx .skip ⟨tm, dfs, up, H⟩ Q) (fun g => GW AP g ctx (.exit 8) ⟨tm, dfs, up, H⟩ Q)) := Gxcond AP ctx _ _ 125 .skip (.exit 8)
theorem law23_TraceParts_c87_w (ctx : Ctx) (tm : T AV) (dfs : List ADef) (up : Option Chain) (H : AHeap) (Q : Post) :
    WP AP ctx law23_TraceParts_c87 ⟨tm, dfs, up, H⟩ Q =
    (GS AP dirty ctx law23_TraceParts_c87_r0 ⟨tm, dfs, up, H⟩ Q) := Gxregion AP ctx _ _ law23_TraceParts_c87_r0
theorem law23_TraceParts_c87_r0_w (ctx : Ctx) (tm : T AV) (dfs : List ADef) (up : Option Chain) (H : AHeap) (Q : Post) :
    GS AP true ctx law23_TraceParts_c87_r0 ⟨tm, dfs, up, H⟩ Q =
    (LK dirty (tm.get 12) fun g ti12 => BI g (Op.move [ti12]) fun g t136 => BI g (Op.move [t136]) fun g t137 => BI g (wantV true (some t137)) fun g w => IG g w (fun g => LK g (tm.get 21) fun g ti21 => BI g (Op.move [ti21]) fun g t138 => 
    GS AP g ctx law23_TraceParts_c87_r1 ⟨(setsE [(138, t138), (137, t137), (136, t136)] tm), dfs, up, H⟩ Q) (fun g => GS AP g ctx law23_TraceParts_c87_r1 ⟨(setsE [(138, .undef), (137, t137), (136, t136)] tm), dfs, up, H⟩ Q)) := WPS_part (l := law23_TraceParts_c87_r0a) (tail := law23_TraceParts_c87_r1) (by kernel_rfl)
theorem law23_TraceParts_c87_r1_w (ctx : Ctx) (tm : T AV) (dfs : List ADef) (up : Option Chain) (H : AHeap) (Q : Post) :
    GS AP true ctx law23_TraceParts_c87_r1 ⟨tm, dfs, up, H⟩ Q =
    (LK dirty (tm.get 137) fun g ti137 => LK g (tm.get 138) fun g ti138 => BI g (Op.pick [ti137, ti138, (.bool false)]) fun g t139 => BI g (Op.move [t139]) fun g t12 => GO g Q .normal ⟨(setsE [(12, t12), (139, t139)] tm), dfs, up, H⟩) := WPS_shallow (l := law23_TraceParts_c87_r1) (by kernel_rfl)
theorem law23_TraceParts_c86_w (ctx : Ctx) (tm : T AV) (dfs : List ADef) (up : Option Chain) (H : AHeap) (Q : Post) :
    WP AP ctx law23_TraceParts_c86 ⟨tm, dfs, up, H⟩ Q =
    (GS AP dirty ctx law23_TraceParts_c86_r0 ⟨tm, dfs, up, H⟩ (SEQ (WP AP ctx law23_TraceParts_c87) Q)) := Gxrseq AP ctx _ _ law23_TraceParts_c86_r0 law23_TraceParts_c87
theorem law23_TraceParts_c86_r0_w (ctx : Ctx) (tm : T AV) (dfs : List ADef) (up : Option Chain) (H : AHeap) (Q : Post) :
    GS AP true ctx law23_TraceParts_c86_r0 ⟨tm, dfs, up, H⟩ Q =
    (LK dirty (tm.get 7) fun g ti7 => BI g (Op.move [ti7]) fun g t127 => LK g (tm.get 20) fun g ti20 => BI g (Op.move [ti20]) fun g t128 => BI g ((Op.indexSl 1) [t127, t128]) fun g t129 => 
    BI g (Op.load1 [t129] H) fun g t130 => LK g (tm.get 0) fun g ti0 => BI g (Op.move [ti0]) fun g t131 => LK g (tm.get 20) fun g ti20_1 => BI g (Op.move [ti20_1]) fun g t132 => 
    BI g ((Op.indexSl 1) [t131, t132]) fun g t133 => BI g (Op.load1 [t133] H) fun g t134 => CA AP g (.func N_ref23_Same) [t130, t134] H (fun g t135 H1 => 
    BI g (Op.move [t135]) fun g t21 => GO g Q .normal ⟨(setsE [(21, t21), (135, t135), (134, t134), (133, t133), (132, t132), (131, t131), (130, t130), (129, t129), (128, t128), (127, t127)] tm), dfs, up, H1⟩) (PAN (some [127, 128, 129, 130, 131, 132, 133, 134, 135, 21]) (setsE [(134, t134), (133, t133), (132, t132), (131, t131), (130, t130), (129, t129), (128, t128), (127, t127)] tm) dfs up Q)) := WPS_shallow (l := law23_TraceParts_c86_r0) (by kernel_rfl)
theorem law23_TraceParts_c85_w (ctx : Ctx) (tm : T AV) (dfs : List ADef) (up : Option Chain) (H : AHeap) (Q : Post) :
    WP AP ctx law23_TraceParts_c85 ⟨tm, dfs, up, H⟩ Q =
    (GS AP dirty ctx law23_TraceParts_c85_r0 ⟨tm, dfs, up, H⟩ (SEQ (WP AP ctx law23_TraceParts_c86) Q)) := Gxrseq AP ctx _ _ law23_TraceParts_c85_r0 law23_TraceParts_c86
theorem law23_TraceParts_c85_r0_w (ctx : Ctx) (tm : T AV) (dfs : List ADef) (up : Option Chain) (H : AHeap) (Q : Post) :
    GS AP true ctx law23_TraceParts_c85_r0 ⟨tm, dfs, up, H⟩ Q =
    (LK dirty (tm.get 124) fun g ti124 => BI g (Op.move [ti124]) fun g t126 => BI g (Op.move [t126]) fun g t20 => GO g Q .normal ⟨(setsE [(20, t20), (126, t126)] tm), dfs, up, H⟩) := WPS_shallow (l := law23_TraceParts_c85_r0) (by kernel_rfl)
theorem law23_TraceParts_c84_w (ctx : Ctx) (tm : T AV) (dfs : List ADef) (up : Option Chain) (H : AHeap) (Q : Post) :
    WP AP ctx law23_TraceParts_c84 ⟨tm, dfs, up, H⟩ Q =
    (WP AP ctx law23_TraceParts_c85 ⟨tm, dfs, up, H⟩ (BLK 9 Q)) := WP_block AP ctx _ _ 9 law23_TraceParts_c85
theorem law23_TraceParts_c88_w (ctx : Ctx) (tm : T AV) (dfs : List ADef) (up : Option Chain) (H : AHeap) (Q : Post) :
    WP AP ctx law23_TraceParts_c88 ⟨tm, dfs, up, H⟩ Q =
    (GS AP dirty ctx law23_TraceParts_c88_r0 ⟨tm, dfs, up, H⟩ Q) := Gxregion AP ctx _ _ law23_TraceParts_c88_r0
theorem law23_TraceParts_c88_r0_w (ctx : Ctx) (tm : T AV) (dfs : List ADef) (up : Option Chain) (H : AHeap) (Q : Post) :
    GS AP true ctx law23_TraceParts_c88_r0 ⟨tm, dfs, up, H⟩ Q =
    (LK dirty (tm.get 124) fun g ti124 => BI g ((Op.bin .add) [ti124, (.int .i64 1)]) fun g t140 => BI g (Op.move [t140]) fun g t124 => GO g Q .normal ⟨(setsE [(124, t124), (140, t140)] tm), dfs, up, H⟩) := WPS_shallow (l := law23_TraceParts_c88_r0) (by kernel_rfl)
theorem law23_TraceParts_c83_w (ctx : Ctx) (tm : T AV) (dfs : List ADef) (up : Option Chain) (H : AHeap) (Q : Post) :
    WP AP ctx law23_TraceParts_c83 ⟨tm, dfs, up, H⟩ Q =
    (WP AP ctx law23_TraceParts_c84 ⟨tm, dfs, up, H⟩ (SEQ (WP AP ctx law23_TraceParts_c88) Q)) := WP_seq AP ctx _ _ law23_TraceParts_c84 law23_TraceParts_c88
theorem law23_TraceParts_c81_w (ctx : Ctx) (tm : T AV) (dfs : List ADef) (up : Option Chain) (H : AHeap) (Q : Post) :
    WP AP ctx law23_TraceParts_c81 ⟨tm, dfs, up, H⟩ Q =
    (WP AP ctx law23_TraceParts_c82 ⟨tm, dfs, up, H⟩ (SEQ (WP AP ctx law23_TraceParts_c83) Q)) := WP_seq AP ctx _ _ law23_TraceParts_c82 law23_TraceParts_c83
theorem law23_TraceParts_c80_w (ctx : Ctx) (tm : T AV) (dfs : List ADef) (up : Option Chain) (H : AHeap) (Q : Post) :
    WP AP ctx law23_TraceParts_c80 ⟨tm, dfs, up, H⟩ Q =
    (GS AP dirty ctx law23_TraceParts_c80_r0 ⟨tm, dfs, up, H⟩ (SEQ (WP AP ctx law23_TraceParts_c81) Q)) := Gxrseq AP ctx _ _ law23_TraceParts_c80_r0 law23_TraceParts_c81
theorem law23_TraceParts_c80_r0_w (ctx : Ctx) (tm : T AV) (dfs : List ADef) (up : Option Chain) (H : AHeap) (Q : Post) :
    GS AP true ctx law23_TraceParts_c80_r0 ⟨tm, dfs, up, H⟩ Q =
    (LK dirty (tm.get 124) fun g ti124 => LK g (tm.get 123) fun g ti123 => BI g ((Op.bin .lss) [ti124, ti123]) fun g t125 => GO g Q .normal ⟨(setsE [(125, t125)] tm), dfs, up, H⟩) := WPS_shallow (l := law23_TraceParts_c80_r0) (by kernel_rfl)
theorem law23_TraceParts_c79_w (ctx : Ctx) (tm : T AV) (dfs : List ADef) (up : Option Chain) (H : AHeap) (Q : Post) :
    WP AP ctx law23_TraceParts_c79 ⟨tm, dfs, up, H⟩ Q =
    (LOOP (WP AP ctx law23_TraceParts_c80) none ⟨tm, dfs, up, H⟩ Q) := WP_loop AP ctx _ _ none law23_TraceParts_c80
theorem law23_TraceParts_c78_w (ctx : Ctx) (tm : T AV) (dfs : List ADef) (up : Option Chain) (H : AHeap) (Q : Post) :
    WP AP ctx law23_TraceParts_c78 ⟨tm, dfs, up, H⟩ Q =
    (WP AP ctx law23_TraceParts_c79 ⟨tm, dfs, up, H⟩ (BLK 8 Q)) := WP_block AP ctx _ _ 8 law23_TraceParts_c79
theorem law23_TraceParts_c77_w (ctx : Ctx) (tm : T AV) (dfs : List ADef) (up : Option Chain) (H : AHeap) (Q : Post) :
    WP AP ctx law23_TraceParts_c77 ⟨tm, dfs, up, H⟩ Q =
    (GS AP dirty ctx law23_TraceParts_c77_r0 ⟨tm, dfs, up, H⟩ (SEQ (WP AP ctx law23_TraceParts_c78) Q)) := Gxrseq AP ctx _ _ law23_TraceParts_c77_r0 law23_TraceParts_c78
theorem law23_TraceParts_c77_r0_w (ctx : Ctx) (tm : T AV) (dfs : List ADef) (up : Option Chain) (H : AHeap) (Q : Post) :
    GS AP true ctx law23_TraceParts_c77_r0 ⟨tm, dfs, up, H⟩ Q =
    (LK dirty (tm.get 0) fun g ti0 => BI g (Op.move [ti0]) fun g t122 => BI g (Op.lenSl [t122]) fun g t123 => BI g (Op.move [(.int .i64 0)]) fun g t124 => 
    GO g Q .normal ⟨(setsE [(124, t124), (123, t123), (122, t122)] tm), dfs, up, H⟩) := WPS_shallow (l := law23_TraceParts_c77_r0) (by kernel_rfl)
theorem law23_TraceParts_c89_w (ctx : Ctx) (tm : T AV) (dfs : List ADef) (up : Option Chain) (H : AHeap) (Q : Post) :
    WP AP ctx law23_TraceParts_c89 ⟨tm, dfs, up, H⟩ Q =
    (GS AP dirty ctx law23_TraceParts_c89_r0 ⟨tm, dfs, up, H⟩ (SEQ (WP AP ctx .ret) Q)) := Gxrseq AP ctx _ _ law23_TraceParts_c89_r0 .ret
theorem law23_TraceParts_c89_r0_w (ctx : Ctx) (tm : T AV) (dfs : List ADef) (up : Option Chain) (H : AHeap) (Q : Post) :
    GS AP true ctx law23_TraceParts_c89_r0 ⟨tm, dfs, up, H⟩ Q =
    (LK dirty (tm.get 12) fun g ti12 => BI g (Op.move [ti12]) fun g t141 => BI g (Op.move [t141]) fun g t6 => GO g Q .normal ⟨(setsE [(6, t6), (141, t141)] tm), dfs, up, H⟩) := WPS_shallow (l := law23_TraceParts_c89_r0) (by kernel_rfl)
theorem law23_TraceParts_c76_w (ctx : Ctx) (tm : T AV) (dfs : List ADef) (up : Option Chain) (H : AHeap) (Q : Post) :
    WP AP ctx law23_TraceParts_c76 ⟨tm, dfs, up, H⟩ Q =
    (WP AP ctx law23_TraceParts_c77 ⟨tm, dfs, up, H⟩ (SEQ (WP AP ctx law23_TraceParts_c89) Q)) := WP_seq AP ctx _ _ law23_TraceParts_c77 law23_TraceParts_c89
theorem law23_TraceParts_c64_w (ctx : Ctx) (tm : T AV) (dfs : List ADef) (up : Option Chain) (H : AHeap) (Q : Post) :
    WP AP ctx law23_TraceParts_c64 ⟨tm, dfs, up, H⟩ Q =
    (WP AP ctx law23_TraceParts_c65 ⟨tm, dfs, up, H⟩ (SEQ (WP AP ctx law23_TraceParts_c76) Q)) := WP_seq AP ctx _ _ law23_TraceParts_c65 law23_TraceParts_c76
theorem law23_TraceParts_c63_w (ctx : Ctx) (tm : T AV) (dfs : List ADef) (up : Option Chain) (H : AHeap) (Q : Post) :
    WP AP ctx law23_TraceParts_c63 ⟨tm, dfs, up, H⟩ Q =
    (GS AP dirty ctx law23_TraceParts_c63_r0 ⟨tm, dfs, up, H⟩ (SEQ (WP AP ctx law23_TraceParts_c64) Q)) := Gxrseq AP ctx _ _ law23_TraceParts_c63_r0 law23_TraceParts_c64
theorem law23_TraceParts_c63_r0_w (ctx : Ctx) (tm : T AV) (dfs : List ADef) (up : Option Chain) (H : AHeap) (Q : Post) :
    GS AP true ctx law23_TraceParts_c63_r0 ⟨tm, dfs, up, H⟩ Q =
    (LK dirty (tm.get 10) fun g ti10 => BI g (Op.move [ti10]) fun g t109 => LK g (tm.get 11) fun g ti11 => BI g (Op.move [ti11]) fun g t110 => CA AP g (.func N_ref23_Same) [t109, t110] H (fun g t111 H1 => 
    BI g (Op.move [t111]) fun g t12 => GO g Q .normal ⟨(setsE [(12, t12), (111, t111), (110, t110), (109, t109)] tm), dfs, up, H1⟩) (PAN (some []) (setsE [(110, t110), (109, t109)] tm) dfs up Q)) := WPS_shallow (l := law23_TraceParts_c63_r0) (by kernel_rfl)
theorem law23_TraceParts_c51_w (ctx : Ctx) (tm : T AV) (dfs : List ADef) (up : Option Chain) (H : AHeap) (Q : Post) :
    WP AP ctx law23_TraceParts_c51 ⟨tm, dfs, up, H⟩ Q =
    (WP AP ctx law23_TraceParts_c52 ⟨tm, dfs, up, H⟩ (SEQ (WP AP ctx law23_TraceParts_c63) Q)) := WP_seq AP ctx _ _ law23_TraceParts_c52 law23_TraceParts_c63
theorem law23_TraceParts_c39_w (ctx : Ctx) (tm : T AV) (dfs : List ADef) (up : Option Chain) (H : AHeap) (Q : Post) :
    WP AP ctx law23_TraceParts_c39 ⟨tm, dfs, up, H⟩ Q =
    (WP AP ctx law23_TraceParts_c40 ⟨tm, dfs, up, H⟩ (SEQ (WP AP ctx law23_TraceParts_c51) Q)) := WP_seq AP ctx _ _ law23_TraceParts_c40 law23_TraceParts_c51
theorem law23_TraceParts_c35_w (ctx : Ctx) (tm : T AV) (dfs : List ADef) (up : Option Chain) (H : AHeap) (Q : Post) :
    WP AP ctx law23_TraceParts_c35 ⟨tm, dfs, up, H⟩ Q =
    (WP AP ctx law23_TraceParts_c36 ⟨tm, dfs, up, H⟩ (SEQ (WP AP ctx law23_TraceParts_c39) Q)) := WP_seq AP ctx _ _ law23_TraceParts_c36 law23_TraceParts_c39
theorem law23_TraceParts_c34_w (ctx : Ctx) (tm : T AV) (dfs : List ADef) (up : Option Chain) (H : AHeap) (Q : Post) :
    WP AP ctx law23_TraceParts_c34 ⟨tm, dfs, up, H⟩ Q =
    (GS AP dirty ctx law23_TraceParts_c34_r0 ⟨tm, dfs, up, H⟩ (SEQ (WP AP ctx law23_TraceParts_c35) Q)) := Gxrseq AP ctx _ _ law23_TraceParts_c34_r0 law23_TraceParts_c35
theorem law23_TraceParts_c34_r0_w (ctx : Ctx) (tm : T AV) (dfs : List ADef) (up : Option Chain) (H : AHeap) (Q : Post) :
    GS AP true ctx law23_TraceParts_c34_r0 ⟨tm, dfs, up, H⟩ Q =
    (LK dirty (tm.get 11) fun g ti11 => BI g (Op.move [ti11]) fun g t73 => LK g (tm.get 5) fun g ti5 => BI g ((Op.indexArr 2 1) [ti5, (.int .i64 0)]) fun g t74 => BI g (Op.load1 [t74] H) fun g t75 => LK g (tm.get 5) fun g ti5_1 => BI g ((Op.indexArr 2 1) [ti5_1, (.int .i64 1)]) fun g t76 => BI g (Op.load1 [t76] H) fun g t77 => CA AP g (.func N_ref23_Between) [t73, t75, t77] H (fun g t78 H1 => 
    BI g (Op.move [t78]) fun g t16 => GO g Q .normal ⟨(setsE [(16, t16), (78, t78), (77, t77), (76, t76), (75, t75), (74, t74), (73, t73)] tm), dfs, up, H1⟩) (PAN (some []) (setsE [(77, t77), (76, t76), (75, t75), (74, t74), (73, t73)] tm) dfs up Q)) := WPS_shallow (l := law23_TraceParts_c34_r0) (by kernel_rfl)
theorem law23_TraceParts_c33_w (ctx : Ctx) (tm : T AV) (dfs : List ADef) (up : Option Chain) (H : AHeap) (Q : Post) :
    WP AP ctx law23_TraceParts_c33 ⟨tm, dfs, up, H⟩ Q =
    (GS AP dirty ctx law23_TraceParts_c33_r0 ⟨tm, dfs, up, H⟩ (SEQ (WP AP ctx law23_TraceParts_c34) Q)) := Gxrseq AP ctx _ _ law23_TraceParts_c33_r0 law23_TraceParts_c34
theorem law23_TraceParts_c33_r0_w (ctx : Ctx) (tm : T AV) (dfs : List ADef) (up : Option Chain) (H : AHeap) (Q : Post) :
    GS AP true ctx law23_TraceParts_c33_r0 ⟨tm, dfs, up, H⟩ Q =
    (LK dirty (tm.get 10) fun g ti10 => BI g (Op.move [ti10]) fun g t67 => LK g (tm.get 5) fun g ti5 => BI g ((Op.indexArr 2 1) [ti5, (.int .i64 0)]) fun g t68 => BI g (Op.load1 [t68] H) fun g t69 => LK g (tm.get 5) fun g ti5_1 => BI g ((Op.indexArr 2 1) [ti5_1, (.int .i64 1)]) fun g t70 => BI g (Op.load1 [t70] H) fun g t71 => CA AP g (.func N_trace_Between) [t67, t69, t71] H (fun g t72 H1 => 
    BI g (Op.move [t72]) fun g t15 => GO g Q .normal ⟨(setsE [(15, t15), (72, t72), (71, t71), (70, t70), (69, t69), (68, t68), (67, t67)] tm), dfs, up, H1⟩) (PAN (some []) (setsE [(71, t71), (70, t70), (69, t69), (68, t68), (67, t67)] tm) dfs up Q)) := WPS_shallow (l := law23_TraceParts_c33_r0) (by kernel_rfl)
theorem law23_TraceParts_c32_w (ctx : Ctx) (tm : T AV) (dfs : List ADef) (up : Option Chain) (H : AHeap) (Q : Post) :
    WP AP ctx law23_TraceParts_c32 ⟨tm, dfs, up, H⟩ Q =
    (GS AP dirty ctx law23_TraceParts_c32_r0 ⟨tm, dfs, up, H⟩ (SEQ (WP AP ctx law23_TraceParts_c33) Q)) := Gxrseq AP ctx _ _ law23_TraceParts_c32_r0 law23_TraceParts_c33
theorem law23_TraceParts_c32_r0_w (ctx : Ctx) (tm : T AV) (dfs : List ADef) (up : Option Chain) (H : AHeap) (Q : Post) :
    GS AP true ctx law23_TraceParts_c32_r0 ⟨tm, dfs, up, H⟩ Q =
    (LK dirty (tm.get 11) fun g ti11 => BI g (Op.move [ti11]) fun g t64 => LK g (tm.get 1) fun g ti1 => BI g (Op.move [ti1]) fun g t65 => CA AP g (.func N_ref23_Of) [t64, t65] H (fun g t66 H1 => 
    BI g (Op.move [t66]) fun g t14 => GO g Q .normal ⟨(setsE [(14, t14), (66, t66), (65, t65), (64, t64)] tm), dfs, up, H1⟩) (PAN (some []) (setsE [(65, t65), (64, t64)] tm) dfs up Q)) := WPS_shallow (l := law23_TraceParts_c32_r0) (by kernel_rfl)
theorem law23_TraceParts_c31_w (ctx : Ctx) (tm : T AV) (dfs : List ADef) (up : Option Chain) (H : AHeap) (Q : Post) :
    WP AP ctx law23_TraceParts_c31 ⟨tm, dfs, up, H⟩ Q =
    (GS AP dirty ctx law23_TraceParts_c31_r0 ⟨tm, dfs, up, H⟩ (SEQ (WP AP ctx law23_TraceParts_c32) Q)) := Gxrseq AP ctx _ _ law23_TraceParts_c31_r0 law23_TraceParts_c32
theorem law23_TraceParts_c31_r0_w (ctx : Ctx) (tm : T AV) (dfs : List ADef) (up : Option Chain) (H : AHeap) (Q : Post) :
    GS AP true ctx law23_TraceParts_c31_r0 ⟨tm, dfs, up, H⟩ Q =
    (LK dirty (tm.get 10) fun g ti10 => BI g (Op.move [ti10]) fun g t61 => LK g (tm.get 1) fun g ti1 => BI g (Op.move [ti1]) fun g t62 => CA AP g (.func N_trace_Of) [t61, t62] H (fun g t63 H1 => 
    BI g (Op.move [t63]) fun g t13 => GO g Q .normal ⟨(setsE [(13, t13), (63, t63), (62, t62), (61, t61)] tm), dfs, up, H1⟩) (PAN (some []) (setsE [(62, t62), (61, t61)] tm) dfs up Q)) := WPS_shallow (l := law23_TraceParts_c31_r0) (by kernel_rfl)
theorem law23_TraceParts_c27_w (ctx : Ctx) (tm : T AV) (dfs : List ADef) (up : Option Chain) (H : AHeap) (Q : Post) :
    WP AP ctx law23_TraceParts_c27 ⟨tm, dfs, up, H⟩ Q =
    (WP AP ctx law23_TraceParts_c28 ⟨tm, dfs, up, H⟩ (SEQ (WP AP ctx law23_TraceParts_c31) Q)) := WP_seq AP ctx _ _ law23_TraceParts_c28 law23_TraceParts_c31
theorem law23_TraceParts_c26_w (ctx : Ctx) (tm : T AV) (dfs : List ADef) (up : Option Chain) (H : AHeap) (Q : Post) :
    WP AP ctx law23_TraceParts_c26 ⟨tm, dfs, up, H⟩ Q =
    (GS AP dirty ctx law23_TraceParts_c26_r0 ⟨tm, dfs, up, H⟩ (SEQ (WP AP ctx law23_TraceParts_c27) Q)) := Gxrseq AP ctx _ _ law23_TraceParts_c26_r0 law23_TraceParts_c27
theorem law23_TraceParts_c26_r0_w (ctx : Ctx) (tm : T AV) (dfs : List ADef) (up : Option Chain) (H : AHeap) (Q : Post) :
    GS AP true ctx law23_TraceParts_c26_r0 ⟨tm, dfs, up, H⟩ Q =
    (LK dirty (tm.get 10) fun g ti10 => BI g (Op.move [ti10]) fun g t56 => LK g (tm.get 11) fun g ti11 => BI g (Op.move [ti11]) fun g t57 => CA AP g (.func N_ref23_Same) [t56, t57] H (fun g t58 H1 => 
    BI g (Op.move [t58]) fun g t12 => GO g Q .normal ⟨(setsE [(12, t12), (58, t58), (57, t57), (56, t56)] tm), dfs, up, H1⟩) (PAN (some []) (setsE [(57, t57), (56, t56)] tm) dfs up Q)) := WPS_shallow (l := law23_TraceParts_c26_r0) (by kernel_rfl)
theorem law23_TraceParts_c25_w (ctx : Ctx) (tm : T AV) (dfs : List ADef) (up : Option Chain) (H : AHeap) (Q : Post) :
    WP AP ctx law23_TraceParts_c25 ⟨tm, dfs, up, H⟩ Q =
    (GS AP dirty ctx law23_TraceParts_c25_r0 ⟨tm, dfs, up, H⟩ (SEQ (WP AP ctx law23_TraceParts_c26) Q)) := Gxrseq AP ctx _ _ law23_TraceParts_c25_r0 law23_TraceParts_c26
theorem law23_TraceParts_c25_r0_w (ctx : Ctx) (tm : T AV) (dfs : List ADef) (up : Option Chain) (H : AHeap) (Q : Post) :
    GS AP true ctx law23_TraceParts_c25_r0 ⟨tm, dfs, up, H⟩ Q =
    (LK dirty (tm.get 0) fun g ti0 => BI g (Op.move [ti0]) fun g t54 => CA AP g (.func N_ref23_Merge) [t54] H (fun g t55 H1 => 
    BI g (Op.move [t55]) fun g t11 => 
    GO g Q .normal ⟨(setsE [(11, t11), (55, t55), (54, t54)] tm), dfs, up, H1⟩) (PAN (some []) (setsE [(54, t54)] tm) dfs up Q)) := WPS_shallow (l := law23_TraceParts_c25_r0) (by kernel_rfl)
theorem law23_TraceParts_c24_w (ctx : Ctx) (tm : T AV) (dfs : List ADef) (up : Option Chain) (H : AHeap) (Q : Post) :
    WP AP ctx law23_TraceParts_c24 ⟨tm, dfs, up, H⟩ Q =
    (GS AP dirty ctx law23_TraceParts_c24_r0 ⟨tm, dfs, up, H⟩ (SEQ (WP AP ctx law23_TraceParts_c25) Q)) := Gxrseq AP ctx _ _ law23_TraceParts_c24_r0 law23_TraceParts_c25
theorem law23_TraceParts_c24_r0_w (ctx : Ctx) (tm : T AV) (dfs : List ADef) (up : Option Chain) (H : AHeap) (Q : Post) :
    GS AP true ctx law23_TraceParts_c24_r0 ⟨tm, dfs, up, H⟩ Q =
    (LK dirty (tm.get 7) fun g ti7 => BI g (Op.move [ti7]) fun g t52 => CA AP g (.func N_trace_Merge) [t52] H (fun g t53 H1 => 
    BI g (Op.move [t53]) fun g t10 => 
    GO g Q .normal ⟨(setsE [(10, t10), (53, t53), (52, t52)] tm), dfs, up, H1⟩) (PAN (some []) (setsE [(52, t52)] tm) dfs up Q)) := WPS_shallow (l := law23_TraceParts_c24_r0) (by kernel_rfl)
theorem law23_TraceParts_c7_w (ctx : Ctx) (tm : T AV) (dfs : List ADef) (up : Option Chain) (H : AHeap) (Q : Post) :
    WP AP ctx law23_TraceParts_c7 ⟨tm, dfs, up, H⟩ Q =
    (WP AP ctx law23_TraceParts_c8 ⟨tm, dfs, up, H⟩ (SEQ (WP AP ctx law23_TraceParts_c24) Q)) := WP_seq AP ctx _ _ law23_TraceParts_c8 law23_TraceParts_c24
theorem law23_TraceParts_c6_w (ctx : Ctx) (tm : T AV) (dfs : List ADef) (up : Option Chain) (H : AHeap) (Q : Post) :
    WP AP ctx law23_TraceParts_c6 ⟨tm, dfs, up, H⟩ Q =
    (GS AP dirty ctx law23_TraceParts_c6_r0 ⟨tm, dfs, up, H⟩ (SEQ (WP AP ctx law23_TraceParts_c7) Q)) := Gxrseq AP ctx _ _ law23_TraceParts_c6_r0 law23_TraceParts_c7
theorem law23_TraceParts_c6_r0_w (ctx : Ctx) (tm : T AV) (dfs : List ADef) (up : Option Chain) (H : AHeap) (Q : Post) :
    GS AP true ctx law23_TraceParts_c6_r0 ⟨tm, dfs, up, H⟩ Q =
    (BI dirty (Op.move [.nils]) fun g t7 => GO g Q .normal ⟨(setsE [(7, t7)] tm), dfs, up, H⟩) := WPS_shallow (l := law23_TraceParts_c6_r0) (by kernel_rfl)
theorem law23_TraceParts_c2_w (ctx : Ctx) (tm : T AV) (dfs : List ADef) (up : Option Chain) (H : AHeap) (Q : Post) :
    WP AP ctx law23_TraceParts_c2 ⟨tm, dfs, up, H⟩ Q =
    (WP AP ctx law23_TraceParts_c3 ⟨tm, dfs, up, H⟩ (SEQ (WP AP ctx law23_TraceParts_c6) Q)) := WP_seq AP ctx _ _ law23_TraceParts_c3 law23_TraceParts_c6
theorem law23_TraceParts_c1_w (ctx : Ctx) (tm : T AV) (dfs : List ADef) (up : Option Chain) (H : AHeap) (Q : Post) :
    WP AP ctx law23_TraceParts_c1 ⟨tm, dfs, up, H⟩ Q =
    (GS AP dirty ctx law23_TraceParts_c1_r0 ⟨tm, dfs, up, H⟩ (SEQ (WP AP ctx law23_TraceParts_c2) Q)) := Gxrseq AP ctx _ _ law23_TraceParts_c1_r0 law23_TraceParts_c2
theorem law23_TraceParts_c1_r0_w (ctx : Ctx) (tm : T AV) (dfs : List ADef) (up : Option Chain) (H : AHeap) (Q : Post) :
    GS AP true ctx law23_TraceParts_c1_r0 ⟨tm, dfs, up, H⟩ Q =
    (LK dirty (tm.get 2) fun g ti2 => BI2 g ((Op.box T__12) [ti2]) fun g o1 mk1 => BI g (Op.move [(.bool false)]) fun g t6 => GO g Q .normal ⟨(setsE [(6, t6), (5, (mk1 H.next))] tm), dfs, up, (H.alloc o1)⟩) := WPS_shallow (l := law23_TraceParts_c1_r0) (by kernel_rfl)
/-! ### shunt/shuntlaw23.twin -/
def law23_twin_c4_r0 : List AStep := [⟨false, (some 10), none, [.tmp 3], .pure Op.move, (some [])⟩,
  ⟨false, (some 2), none, [.tmp 10], .pure Op.move, (some [])⟩]
def law23_twin_c4 : ACode := .seq (.region law23_twin_c4_r0) .ret
def law23_twin_c3_r0 : List AStep := [⟨false, (some 4), none, [.tmp 3], .pure Op.move, (some [])⟩,
  ⟨false, (some 5), none, [.tmp 0], .pure Op.move, (some [])⟩,
  ⟨false, (some 6), none, [.tmp 4, .tmp 5], .eff (Op.append T_api_Event 9 72), (some [])⟩,
  ⟨false, (some 7), none, [.const (.int .i64 77)], .pure (Op.build [(.int .i64 0), (.int .i64 0), (.int .i64 0), (.int .i64 0), (.int .i64 0), (.int .i64 0), (.int .i64 0), (.int .u64 0), (.int .i64 0)] [(0, 1)]), (some [])⟩,
  ⟨false, (some 8), none, [.tmp 7], .alloc (Op.buildSlice T_api_Event 1 [(.int .i64 0), (.int .i64 0), (.int .i64 0), (.int .i64 0), (.int .i64 0), (.int .i64 0), (.int .i64 0), (.int .u64 0), (.int .i64 0)] [(0, 9)]), (some [])⟩,
  ⟨false, (some 9), none, [.tmp 6, .tmp 8], .eff (Op.append T_api_Event 9 72), (some [])⟩,
  ⟨false, (some 3), none, [.tmp 9], .pure Op.move, (some [])⟩]
def law23_twin_c3 : ACode := .seq (.region law23_twin_c3_r0) law23_twin_c4
def law23_twin_c2_r0 : List AStep := [⟨false, (some 3), none, [.const .nils], .pure Op.move, (some [])⟩]
def law23_twin_c2 : ACode := .seq (.region law23_twin_c2_r0) law23_twin_c3
def law23_twin_c1_r0 : List AStep := [⟨false, (some 2), none, [.const .nils], .pure Op.move, (some [])⟩]
def law23_twin_c1 : ACode := .seq (.region law23_twin_c1_r0) law23_twin_c2
def law23_twin_F : AFunc := ⟨[.tmp 2], law23_twin_c1, []⟩
theorem law23_twin_c4_w (ctx : Ctx) (tm : T AV) (dfs : List ADef) (up : Option Chain) (H : AHeap) (Q : Post) :
    WP AP ctx law23_twin_c4 ⟨tm, dfs, up, H⟩ Q =
    (GS AP dirty ctx law23_twin_c4_r0 ⟨tm, dfs, up, H⟩ (SEQ (WP AP ctx .ret) Q)) := Gxrseq AP ctx _ _ law23_twin_c4_r0 .ret
theorem law23_twin_c4_r0_w (ctx : Ctx) (tm : T AV) (dfs : List ADef) (up : Option Chain) (H : AHeap) (Q : Post) :
    GS AP true ctx law23_twin_c4_r0 ⟨tm, dfs, up, H⟩ Q =
    (LK dirty (tm.get 3) fun g ti3 => BI g (Op.move [ti3]) fun g t10 => BI g (Op.move [t10]) fun g t2 => GO g Q .normal ⟨(setsE [(2, t2), (10, t10)] tm), dfs, up, H⟩) := WPS_shallow (l := law23_twin_c4_r0) (by kernel_rfl)
theorem law23_twin_c3_w (ctx : Ctx) (tm : T AV) (dfs : List ADef) (up : Option Chain) (H : AHeap) (Q : Post) :
    WP AP ctx law23_twin_c3 ⟨tm, dfs, up, H⟩ Q =
    (GS AP dirty ctx law23_twin_c3_r0 ⟨tm, dfs, up, H⟩ (SEQ (WP AP ctx law23_twin_c4) Q)) := Gxrseq AP ctx _ _ law23_twin_c3_r0 law23_twin_c4
theorem law23_twin_c3_r0_w (ctx : Ctx) (tm : T AV) (dfs : List ADef) (up : Option Chain) (H : AHeap) (Q : Post) :
    GS AP true ctx law23_twin_c3_r0 ⟨tm, dfs, up, H⟩ Q =
    (LK dirty (tm.get 3) fun g ti3 => BI g (Op.move [ti3]) fun g t4 => LK g (tm.get 0) fun g ti0 => BI g (Op.move [ti0]) fun g t5 => BI2 g ((Op.append T_api_Event 9 72) [t4, t5] H) fun g t6 H1 => 
    BI g ((Op.build [(.int .i64 0), (.int .i64 0), (.int .i64 0), (.int .i64 0), (.int .i64 0), (.int .i64 0), (.int .i64 0), (.int .u64 0), (.int .i64 0)] [(0, 1)]) [(.int .i64 77)]) fun g t7 => BI2 g ((Op.buildSlice T_api_Event 1 [(.int .i64 0), (.int .i64 0), (.int .i64 0), (.int .i64 0), (.int .i64 0), (.int .i64 0), (.int .i64 0), (.int .u64 0), (.int .i64 0)] [(0, 9)]) [t7]) fun g o2 mk2 => BI2 g ((Op.append T_api_Event 9 72) [t6, (mk2 H1.next)] (H1.alloc o2)) fun g t9 H3 => 
    BI g (Op.move [t9]) fun g t3 => GO g Q .normal ⟨(setsE [(3, t3), (9, t9), (8, (mk2 H1.next)), (7, t7), (6, t6), (5, t5), (4, t4)] tm), dfs, up, H3⟩) := WPS_shallow (l := law23_twin_c3_r0) (by kernel_rfl)
theorem law23_twin_c2_w (ctx : Ctx) (tm : T AV) (dfs : List ADef) (up : Option Chain) (H : AHeap) (Q : Post) :
    WP AP ctx law23_twin_c2 ⟨tm, dfs, up, H⟩ Q =
    (GS AP dirty ctx law23_twin_c2_r0 ⟨tm, dfs, up, H⟩ (SEQ (WP AP ctx law23_twin_c3) Q)) := Gxrseq AP ctx _ _ law23_twin_c2_r0 law23_twin_c3
theorem law23_twin_c2_r0_w (ctx : Ctx) (tm : T AV) (dfs : List ADef) (up : Option Chain) (H : AHeap) (Q : Post) :
    GS AP true ctx law23_twin_c2_r0 ⟨tm, dfs, up, H⟩ Q =
    (BI dirty (Op.move [.nils]) fun g t3 => GO g Q .normal ⟨(setsE [(3, t3)] tm), dfs, up, H⟩) := WPS_shallow (l := law23_twin_c2_r0) (by kernel_rfl)
theorem law23_twin_c1_w (ctx : Ctx) (tm : T AV) (dfs : List ADef) (up : Option Chain) (H : AHeap) (Q : Post) :
    WP AP ctx law23_twin_c1 ⟨tm, dfs, up, H⟩ Q =
    (GS AP dirty ctx law23_twin_c1_r0 ⟨tm, dfs, up, H⟩ (SEQ (WP AP ctx law23_twin_c2) Q)) := Gxrseq AP ctx _ _ law23_twin_c1_r0 law23_twin_c2
theorem law23_twin_c1_r0_w (ctx : Ctx) (tm : T AV) (dfs : List ADef) (up : Option Chain) (H : AHeap) (Q : Post) :
    GS AP true ctx law23_twin_c1_r0 ⟨tm, dfs, up, H⟩ Q =
    (BI dirty (Op.move [.nils]) fun g t2 => GO g Q .normal ⟨(setsE [(2, t2)] tm), dfs, up, H⟩) := WPS_shallow (l := law23_twin_c1_r0) (by kernel_rfl)
/-! ### shunt/trace.Merge -/
def trace_Merge_c14 : ACode := .cond (.tmp 11) .skip (.exit 2)
def trace_Merge_c20_r0 : List AStep := [⟨false, (some 40), none, [.tmp 5], .pure Op.move, (some [])⟩,
  ⟨false, (some 4), none, [.tmp 40], .pure Op.move, (some [])⟩]
def trace_Merge_c20 : ACode := .region trace_Merge_c20_r0
def trace_Merge_c19 : ACode := .cond (.tmp 39) trace_Merge_c20 .skip
def trace_Merge_c18_r19 : List AStep := [⟨false, (some 39), none, [.tmp 19, .tmp 38, .const (.bool false)], .pure Op.pick, (some [13, 14, 15, 16, 17, 18, 19, 20, 21, 22, 23, 24, 25, 26, 27, 28, 29, 30, 31, 32, 33, 34, 35, 36, 37, 38, 39])⟩]
def trace_Merge_c18_r18a : List AStep := [⟨false, (some 38), (some (19, true)), [.tmp 22, .const (.bool true), .tmp 37], .pure Op.pick, (some [13, 14, 15, 16, 17, 18, 19, 20, 21, 22, 23, 24, 25, 26, 27, 28, 29, 30, 31, 32, 33, 34, 35, 36, 37, 38, 39])⟩]
def trace_Merge_c18_r18 : List AStep := trace_Merge_c18_r18a ++ trace_Merge_c18_r19
def trace_Merge_c18_r17a : List AStep := [⟨false, (some 37), (some (22, false)), [.tmp 29, .tmp 36], .pure (Op.bin .lss), (some [13, 14, 15, 16, 17, 18, 19, 20, 21, 22, 23, 24, 25, 26, 27, 28, 29, 30, 31, 32, 33, 34, 35, 36, 37, 38, 39])⟩]
def trace_Merge_c18_r17 : List AStep := trace_Merge_c18_r17a ++ trace_Merge_c18_r18
def trace_Merge_c18_r16a : List AStep := [⟨false, (some 36), (some (22, false)), [.tmp 35], .read Op.load1, (some [13, 14, 15, 16, 17, 18, 19, 20, 21, 22, 23, 24, 25, 26, 27, 28, 29, 30, 31, 32, 33, 34, 35, 36, 37, 38, 39])⟩]
def trace_Merge_c18_r16 : List AStep := trace_Merge_c18_r16a ++ trace_Merge_c18_r17
def trace_Merge_c18_r15a : List AStep := [⟨false, (some 35), (some (22, false)), [.tmp 34], .pure (Op.fieldAddr 1), (some [13, 14, 15, 16, 17, 18, 19, 20, 21, 22, 23, 24, 25, 26, 27, 28, 29, 30, 31, 32, 33, 34, 35, 36, 37, 38, 39])⟩]
def trace_Merge_c18_r15 : List AStep := trace_Merge_c18_r15a ++ trace_Merge_c18_r16
def trace_Merge_c18_r14a : List AStep := [⟨false, (some 34), (some (22, false)), [.tmp 33, .const (.int .i64 0)], .pure (Op.indexSl 9), (some [13, 14, 15, 16, 17, 18, 19, 20, 21, 22, 23, 24, 25, 26, 27, 28, 29, 30, 31, 32, 33, 34, 35, 36, 37, 38, 39])⟩]
def trace_Merge_c18_r14 : List AStep := trace_Merge_c18_r14a ++ trace_Merge_c18_r15
def trace_Merge_c18_r13a : List AStep := [⟨false, (some 33), (some (22, false)), [.tmp 32], .read Op.load1, (some [13, 14, 15, 16, 17, 18, 19, 20, 21, 22, 23, 24, 25, 26, 27, 28, 29, 30, 31, 32, 33, 34, 35, 36, 37, 38, 39])⟩]
def trace_Merge_c18_r13 : List AStep := trace_Merge_c18_r13a ++ trace_Merge_c18_r14
def trace_Merge_c18_r12a : List AStep := [⟨false, (some 32), (some (22, false)), [.tmp 30, .tmp 31], .pure (Op.indexSl 1), (some [13, 14, 15, 16, 17, 18, 19, 20, 21, 22, 23, 24, 25, 26, 27, 28, 29, 30, 31, 32, 33, 34, 35, 36, 37, 38, 39])⟩]
def trace_Merge_c18_r12 : List AStep := trace_Merge_c18_r12a ++ trace_Merge_c18_r13
def trace_Merge_c18_r11a : List AStep := [⟨false, (some 31), (some (22, false)), [.tmp 4], .pure Op.move, (some [13, 14, 15, 16, 17, 18, 19, 20, 21, 22, 23, 24, 25, 26, 27, 28, 29, 30, 31, 32, 33, 34, 35, 36, 37, 38, 39])⟩]
def trace_Merge_c18_r11 : List AStep := trace_Merge_c18_r11a ++ trace_Merge_c18_r12
def trace_Merge_c18_r10a : List AStep := [⟨false, (some 30), (some (22, false)), [.tmp 0], .pure Op.move, none⟩]
def trace_Merge_c18_r10 : List AStep := trace_Merge_c18_r10a ++ trace_Merge_c18_r11
def trace_Merge_c18_r9a : List AStep := [⟨false, (some 29), (some (22, false)), [.tmp 28], .read Op.load1, none⟩]
def trace_Merge_c18_r9 : List AStep := trace_Merge_c18_r9a ++ trace_Merge_c18_r10
def trace_Merge_c18_r8a : List AStep := [⟨false, (some 28), (some (22, false)), [.tmp 27], .pure (Op.fieldAddr 1), none⟩]
def trace_Merge_c18_r8 : List AStep := trace_Merge_c18_r8a ++ trace_Merge_c18_r9
def trace_Merge_c18_r7a : List AStep := [⟨false, (some 27), (some (22, false)), [.tmp 26, .const (.int .i64 0)], .pure (Op.indexSl 9), none⟩]
def trace_Merge_c18_r7 : List AStep := trace_Merge_c18_r7a ++ trace_Merge_c18_r8
def trace_Merge_c18_r6a : List AStep := [⟨false, (some 26), (some (22, false)), [.tmp 25], .read Op.load1, none⟩]
def trace_Merge_c18_r6 : List AStep := trace_Merge_c18_r6a ++ trace_Merge_c18_r7
def trace_Merge_c18_r5a : List AStep := [⟨false, (some 25), (some (22, false)), [.tmp 23, .tmp 24], .pure (Op.indexSl 1), none⟩]
def trace_Merge_c18_r5 : List AStep := trace_Merge_c18_r5a ++ trace_Merge_c18_r6
def trace_Merge_c18_r4a : List AStep := [⟨false, (some 24), (some (22, false)), [.tmp 5], .pure Op.move, none⟩]
def trace_Merge_c18_r4 : List AStep := trace_Merge_c18_r4a ++ trace_Merge_c18_r5
def trace_Merge_c18_r3a : List AStep := [⟨false, (some 23), (some (22, false)), [.tmp 0], .pure Op.move, none⟩]
def trace_Merge_c18_r3 : List AStep := trace_Merge_c18_r3a ++ trace_Merge_c18_r4
def trace_Merge_c18_r2a : List AStep := [⟨false, (some 22), (some (19, true)), [.tmp 21], .pure Op.move, (some [13, 14, 15, 16, 17, 18, 19, 20, 21, 22, 23, 24, 25, 26, 27, 28, 29, 30, 31, 32, 33, 34, 35, 36, 37, 38, 39])⟩]
def trace_Merge_c18_r2 : List AStep := trace_Merge_c18_r2a ++ trace_Merge_c18_r3
def trace_Merge_c18_r1a : List AStep := [⟨false, (some 21), (some (19, true)), [.tmp 20, .const (.int .i64 0)], .pure (Op.bin .lss), (some [13, 14, 15, 16, 17, 18, 19, 20, 21, 22, 23, 24, 25, 26, 27, 28, 29, 30, 31, 32, 33, 34, 35, 36, 37, 38, 39])⟩]
def trace_Merge_c18_r1 : List AStep := trace_Merge_c18_r1a ++ trace_Merge_c18_r2
def trace_Merge_c18_r0a : List AStep := [⟨false, (some 13), none, [.tmp 0], .pure Op.move, none⟩,
  ⟨false, (some 14), none, [.tmp 5], .pure Op.move, (some [13, 14, 15, 16, 17, 18, 19, 20, 21, 22, 23, 24, 25, 26, 27, 28, 29, 30, 31, 32, 33, 34, 35, 36, 37, 38, 39])⟩,
  ⟨false, (some 15), none, [.tmp 13, .tmp 14], .pure (Op.indexSl 1), (some [13, 14, 15, 16, 17, 18, 19, 20, 21, 22, 23, 24, 25, 26, 27, 28, 29, 30, 31, 32, 33, 34, 35, 36, 37, 38, 39])⟩,
  ⟨false, (some 16), none, [.tmp 15], .read Op.load1, (some [13, 14, 15, 16, 17, 18, 19, 20, 21, 22, 23, 24, 25, 26, 27, 28, 29, 30, 31, 32, 33, 34, 35, 36, 37, 38, 39])⟩,
  ⟨false, (some 17), none, [.tmp 16], .pure Op.lenSl, (some [13, 14, 15, 16, 17, 18, 19, 20, 21, 22, 23, 24, 25, 26, 27, 28, 29, 30, 31, 32, 33, 34, 35, 36, 37, 38, 39])⟩,
  ⟨false, (some 18), none, [.tmp 17, .const (.int .i64 0)], .pure (Op.bin .gtr), (some [13, 14, 15, 16, 17, 18, 19, 20, 21, 22, 23, 24, 25, 26, 27, 28, 29, 30, 31, 32, 33, 34, 35, 36, 37, 38, 39])⟩,
  ⟨false, (some 19), none, [.tmp 18], .pure Op.move, (some [13, 14, 15, 16, 17, 18, 19, 20, 21, 22, 23, 24, 25, 26, 27, 28, 29, 30, 31, 32, 33, 34, 35, 36, 37, 38, 39])⟩,
  ⟨false, (some 20), (some (19, true)), [.tmp 4], .pure Op.move, (some [13, 14, 15, 16, 17, 18, 19, 20, 21, 22, 23, 24, 25, 26, 27, 28, 29, 30, 31, 32, 33, 34, 35, 36, 37, 38, 39])⟩]
def trace_Merge_c18_r0 : List AStep := trace_Merge_c18_r0a ++ trace_Merge_c18_r1
def trace_Merge_c18 : ACode := .seq (.region trace_Merge_c18_r0) trace_Merge_c19
def trace_Merge_c17_r0 : List AStep := [⟨false, (some 12), none, [.tmp 10], .pure Op.move, (some [])⟩,
  ⟨false, (some 5), none, [.tmp 12], .pure Op.move, (some [])⟩]
def trace_Merge_c17 : ACode := .seq (.region trace_Merge_c17_r0) trace_Merge_c18
def trace_Merge_c16 : ACode := .block 3 trace_Merge_c17
def trace_Merge_c21_r0 : List AStep := [⟨false, (some 41), none, [.tmp 10, .const (.int .i64 1)], .pure (Op.bin .add), (some [])⟩,
  ⟨false, (some 10), none, [.tmp 41], .pure Op.move, (some [])⟩]
def trace_Merge_c21 : ACode := .region trace_Merge_c21_r0
def trace_Merge_c15 : ACode := .seq trace_Merge_c16 trace_Merge_c21
def trace_Merge_c13 : ACode := .seq trace_Merge_c14 trace_Merge_c15
def trace_Merge_c12_r0 : List AStep := [⟨false, (some 11), none, [.tmp 10, .tmp 9], .pure (Op.bin .lss), (some [])⟩]
def trace_Merge_c12 : ACode := .seq (.region trace_Merge_c12_r0) trace_Merge_c13
def trace_Merge_c11 : ACode := .loop none trace_Merge_c12
def trace_Merge_c10 : ACode := .block 2 trace_Merge_c11
def trace_Merge_c9_r0 : List AStep := [⟨false, (some 8), none, [.tmp 0], .pure Op.move, (some [])⟩,
  ⟨false, (some 9), none, [.tmp 8], .pure Op.lenSl, (some [])⟩,
  ⟨false, (some 10), none, [.const (.int .i64 0)], .pure Op.move, (some [])⟩]
def trace_Merge_c9 : ACode := .seq (.region trace_Merge_c9_r0) trace_Merge_c10
def trace_Merge_c25_r0 : List AStep := [⟨false, (some 44), none, [.tmp 3], .pure Op.move, (some [])⟩,
  ⟨false, (some 2), none, [.tmp 44], .pure Op.move, (some [])⟩]
def trace_Merge_c25 : ACode := .seq (.region trace_Merge_c25_r0) .ret
def trace_Merge_c24 : ACode := .cond (.tmp 43) trace_Merge_c25 .skip
def trace_Merge_c23_r0 : List AStep := [⟨false, (some 42), none, [.tmp 4], .pure Op.move, (some [])⟩,
  ⟨false, (some 43), none, [.tmp 42, .const (.int .i64 0)], .pure (Op.bin .lss), (some [])⟩]
def trace_Merge_c23 : ACode := .seq (.region trace_Merge_c23_r0) trace_Merge_c24
def trace_Merge_c27_r0 : List AStep := [⟨false, (some 54), none, [.tmp 0], .pure Op.move, (some [])⟩,
  ⟨false, (some 55), none, [.tmp 4], .pure Op.move, (some [])⟩,
  ⟨false, (some 56), none, [.tmp 0], .pure Op.move, (some [])⟩,
  ⟨false, (some 57), none, [.tmp 4], .pure Op.move, (some [])⟩,
  ⟨false, (some 58), none, [.tmp 56, .tmp 57], .pure (Op.indexSl 1), (some [])⟩,
  ⟨false, (some 59), none, [.tmp 58], .read Op.load1, (some [])⟩,
  ⟨false, (some 60), none, [.tmp 59, .const (.int .i64 1)], .pure (Op.sliceSl 9 [(some 0), none, none]), (some [])⟩,
  ⟨false, (some 61), none, [.tmp 54, .tmp 55], .pure (Op.indexSl 1), (some [])⟩,
  ⟨false, none, none, [.tmp 61, .tmp 60], .eff (Op.store 1), (some [])⟩]
def trace_Merge_c27 : ACode := .region trace_Merge_c27_r0
def trace_Merge_c26_r0 : List AStep := [⟨false, (some 45), none, [.tmp 3], .pure Op.move, (some [])⟩,
  ⟨false, (some 46), none, [.tmp 0], .pure Op.move, (some [])⟩,
  ⟨false, (some 47), none, [.tmp 4], .pure Op.move, (some [])⟩,
  ⟨false, (some 48), none, [.tmp 46, .tmp 47], .pure (Op.indexSl 1), (some [])⟩,
  ⟨false, (some 49), none, [.tmp 48], .read Op.load1, (some [])⟩,
  ⟨false, (some 50), none, [.tmp 49, .const (.int .i64 0)], .pure (Op.indexSl 9), (some [])⟩,
  ⟨false, (some 51), none, [.tmp 50], .read (Op.loadN 9), (some [])⟩,
  ⟨false, (some 52), none, [.tmp 51], .alloc (Op.buildSlice T_api_Event 1 [(.int .i64 0), (.int .i64 0), (.int .i64 0), (.int .i64 0), (.int .i64 0), (.int .i64 0), (.int .i64 0), (.int .u64 0), (.int .i64 0)] [(0, 9)]), (some [])⟩,
  ⟨false, (some 53), none, [.tmp 45, .tmp 52], .eff (Op.append T_api_Event 9 72), (some [])⟩,
  ⟨false, (some 3), none, [.tmp 53], .pure Op.move, (some [])⟩]
def trace_Merge_c26 : ACode := .seq (.region trace_Merge_c26_r0) trace_Merge_c27
def trace_Merge_c22 : ACode := .seq trace_Merge_c23 trace_Merge_c26
def trace_Merge_c8 : ACode := .seq trace_Merge_c9 trace_Merge_c22
def trace_Merge_c7_r0 : List AStep := [⟨false, (some 4), none, [.const (.int .i64 (-1))], .pure Op.move, (some [])⟩]
def trace_Merge_c7 : ACode := .seq (.region trace_Merge_c7_r0) trace_Merge_c8
def trace_Merge_c6 : ACode := .block 1 trace_Merge_c7
def trace_Merge_c5 : ACode := .loop none trace_Merge_c6
def trace_Merge_c4 : ACode := .block 0 trace_Merge_c5
def trace_Merge_c3_r0 : List AStep := [⟨false, (some 3), none, [.const .nils], .pure Op.move, (some [])⟩]
def trace_Merge_c3 : ACode := .seq (.region trace_Merge_c3_r0) trace_Merge_c4
def trace_Merge_c2_r0 : List AStep := [⟨false, (some 6), none, [.tmp 0], .pure Op.move, (some [])⟩,
  ⟨false, (some 7), none, [.tmp 6], .callF N_slices_Clone_s_api_Event, (some [])⟩,
  ⟨false, (some 0), none, [.tmp 7], .pure Op.move, (some [])⟩]
def trace_Merge_c2 : ACode := .seq (.region trace_Merge_c2_r0) trace_Merge_c3
def trace_Merge_c1_r0 : List AStep := [⟨false, (some 2), none, [.const .nils], .pure Op.move, (some [])⟩]
def trace_Merge_c1 : ACode := .seq (.region trace_Merge_c1_r0) trace_Merge_c2
def trace_Merge_F : AFunc := ⟨[.tmp 2], trace_Merge_c1, []⟩
theorem trace_Merge_c14_w (ctx : Ctx) (tm : T AV) (dfs : List ADef) (up : Option Chain) (H : AHeap) (Q : Post) :
    WP AP ctx trace_Merge_c14 ⟨tm, dfs, up, H⟩ Q =
    (BI dirty (tm.get 11) fun g v => BI g (asBool v) fun g q => IG g q (fun g => GW AP g ctx .skip ⟨tm, dfs, up, H⟩ Q) (fun g => GW AP g ctx (.exit 2) ⟨tm, dfs, up, H⟩ Q)) := Gxcond AP ctx _ _ 11 .skip (.exit 2)
theorem trace_Merge_c20_w (ctx : Ctx) (tm : T AV) (dfs : List ADef) (up : Option Chain) (H : AHeap) (Q : Post) :
    WP AP ctx trace_Merge_c20 ⟨tm, dfs, up, H⟩ Q =
    (GS AP dirty ctx trace_Merge_c20_r0 ⟨tm, dfs, up, H⟩ Q) := Gxregion AP ctx _ _ trace_Merge_c20_r0
theorem trace_Merge_c20_r0_w (ctx : Ctx) (tm : T AV) (dfs : List ADef) (up : Option Chain) (H : AHeap) (Q : Post) :
    GS AP true ctx trace_Merge_c20_r0 ⟨tm, dfs, up, H⟩ Q =
    (LK dirty (tm.get 5) fun g ti5 => BI g (Op.move [ti5]) fun g t40 => BI g (Op.move [t40]) fun g t4 => GO g Q .normal ⟨(setsE [(4, t4), (40, t40)] tm), dfs, up, H⟩) := WPS_shallow (l := trace_Merge_c20_r0) (by kernel_rfl)
theorem trace_Merge_c19_w (ctx : Ctx) (tm : T AV) (dfs : List ADef) (up : Option Chain) (H : AHeap) (Q : Post) :
    WP AP ctx trace_Merge_c19 ⟨tm, dfs, up, H⟩ Q =
    (BI dirty (tm.get 39) fun g v => BI g (asBool v) fun g q => IG g q (fun g => GW AP g ctx trace_Merge_c20 ⟨tm, dfs, up, H⟩ Q) (fun g => GW AP g ctx .skip ⟨tm, dfs, up, H⟩ Q)) := Gxcond AP ctx _ _ 39 trace_Merge_c20 .skip
theorem trace_Merge_c18_w (ctx : Ctx) (tm : T AV) (dfs : List ADef) (up : Option Chain) (H : AHeap) (Q : Post) :
    WP AP ctx trace_Merge_c18 ⟨tm, dfs, up, H⟩ Q =
    (GS AP dirty ctx trace_Merge_c18_r0 ⟨tm, dfs, up, H⟩ (SEQ (WP AP ctx trace_Merge_c19) Q)) := Gxrseq AP ctx _ _ trace_Merge_c18_r0 trace_Merge_c19
theorem trace_Merge_c18_r0_w (ctx : Ctx) (tm : T AV) (dfs : List ADef) (up : Option Chain) (H : AHeap) (Q : Post) :
    GS AP true ctx trace_Merge_c18_r0 ⟨tm, dfs, up, H⟩ Q =
    (LK dirty (tm.get 0) fun g ti0 => BI g (Op.move [ti0]) fun g t13 => LK g (tm.get 5) fun g ti5 => BI g (Op.move [ti5]) fun g t14 => BI g ((Op.indexSl 1) [t13, t14]) fun g t15 => 
    BI g (Op.load1 [t15] H) fun g t16 => BI g (Op.lenSl [t16]) fun g t17 => BI g ((Op.bin .gtr) [t17, (.int .i64 0)]) fun g t18 => 
    BI g (Op.move [t18]) fun g t19 => BI g (wantV true (some t19)) fun g w => IG g w (fun g => LK g (tm.get 4) fun g ti4 => BI g (Op.move [ti4]) fun g t20 => GS AP g ctx trace_Merge_c18_r1 ⟨(setsE [(20, t20), (19, t19), (18, t18), (17, t17), (16, t16), (15, t15), (14, t14), (13, t13)] tm), dfs, up, H⟩ Q) (fun g => GS AP g ctx trace_Merge_c18_r1 ⟨(setsE [(20, .undef), (19, t19), (18, t18), (17, t17), (16, t16), (15, t15), (14, t14), (13, t13)] tm), dfs, up, H⟩ Q)) := WPS_part (l := trace_Merge_c18_r0a) (tail := trace_Merge_c18_r1) (by kernel_rfl)
theorem trace_Merge_c18_r1_w (ctx : Ctx) (tm : T AV) (dfs : List ADef) (up : Option Chain) (H : AHeap) (Q : Post) :
    GS AP true ctx trace_Merge_c18_r1 ⟨tm, dfs, up, H⟩ Q =
    (BI dirty (wantV true (tm.get 19)) fun g w => IG g w (fun g => LK g (tm.get 20) fun g ti20 => BI g ((Op.bin .lss) [ti20, (.int .i64 0)]) fun g t21 => GS AP g ctx trace_Merge_c18_r2 ⟨(setsE [(21, t21)] tm), dfs, up, H⟩ Q) (fun g => GS AP g ctx trace_Merge_c18_r2 ⟨(setsE [(21, .undef)] tm), dfs, up, H⟩ Q)) := WPS_part (l := trace_Merge_c18_r1a) (tail := trace_Merge_c18_r2) (by kernel_rfl)
theorem trace_Merge_c18_r2_w (ctx : Ctx) (tm : T AV) (dfs : List ADef) (up : Option Chain) (H : AHeap) (Q : Post) :
    GS AP true ctx trace_Merge_c18_r2 ⟨tm, dfs, up, H⟩ Q =
    (BI dirty (wantV true (tm.get 19)) fun g w => IG g w (fun g => LK g (tm.get 21) fun g ti21 => BI g (Op.move [ti21]) fun g t22 => GS AP g ctx trace_Merge_c18_r3 ⟨(setsE [(22, t22)] tm), dfs, up, H⟩ Q) (fun g => GS AP g ctx trace_Merge_c18_r3 ⟨(setsE [(22, .undef)] tm), dfs, up, H⟩ Q)) := WPS_part (l := trace_Merge_c18_r2a) (tail := trace_Merge_c18_r3) (by kernel_rfl)
theorem trace_Merge_c18_r3_w (ctx : Ctx) (tm : T AV) (dfs : List ADef) (up : Option Chain) (H : AHeap) (Q : Post) :
    GS AP true ctx trace_Merge_c18_r3 ⟨tm, dfs, up, H⟩ Q =
    (BI dirty (wantV false (tm.get 22)) fun g w => IG g w (fun g => LK g (tm.get 0) fun g ti0 => BI g (Op.move [ti0]) fun g t23 => GS AP g ctx trace_Merge_c18_r4 ⟨(setsE [(23, t23)] tm), dfs, up, H⟩ Q) (fun g => GS AP g ctx trace_Merge_c18_r4 ⟨(setsE [(23, .undef)] tm), dfs, up, H⟩ Q)) := WPS_part (l := trace_Merge_c18_r3a) (tail := trace_Merge_c18_r4) (by kernel_rfl)
theorem trace_Merge_c18_r4_w (ctx : Ctx) (tm : T AV) (dfs : List ADef) (up : Option Chain) (H : AHeap) (Q : Post) :
    GS AP true ctx trace_Merge_c18_r4 ⟨tm, dfs, up, H⟩ Q =
    (BI dirty (wantV false (tm.get 22)) fun g w => IG g w (fun g => LK g (tm.get 5) fun g ti5 => BI g (Op.move [ti5]) fun g t24 => GS AP g ctx trace_Merge_c18_r5 ⟨(setsE [(24, t24)] tm), dfs, up, H⟩ Q) (fun g => GS AP g ctx trace_Merge_c18_r5 ⟨(setsE [(24, .undef)] tm), dfs, up, H⟩ Q)) := WPS_part (l := trace_Merge_c18_r4a) (tail := trace_Merge_c18_r5) (by kernel_rfl)
theorem trace_Merge_c18_r5_w (ctx : Ctx) (tm : T AV) (dfs : List ADef) (up : Option Chain) (H : AHeap) (Q : Post) :
    GS AP true ctx trace_Merge_c18_r5 ⟨tm, dfs, up, H⟩ Q =
    (BI dirty (wantV false (tm.get 22)) fun g w => IG g w (fun g => LK g (tm.get 23) fun g ti23 => LK g (tm.get 24) fun g ti24 => BI g ((Op.indexSl 1) [ti23, ti24]) fun g t25 => GS AP g ctx trace_Merge_c18_r6 ⟨(setsE [(25, t25)] tm), dfs, up, H⟩ Q) (fun g => GS AP g ctx trace_Merge_c18_r6 ⟨(setsE [(25, .undef)] tm), dfs, up, H⟩ Q)) := WPS_part (l := trace_Merge_c18_r5a) (tail := trace_Merge_c18_r6) (by kernel_rfl)
theorem trace_Merge_c18_r6_w (ctx : Ctx) (tm : T AV) (dfs : List ADef) (up : Option Chain) (H : AHeap) (Q : Post) :
    GS AP true ctx trace_Merge_c18_r6 ⟨tm, dfs, up, H⟩ Q =
    (BI dirty (wantV false (tm.get 22)) fun g w => IG g w (fun g => LK g (tm.get 25) fun g ti25 => BI g (Op.load1 [ti25] H) fun g t26 => GS AP g ctx trace_Merge_c18_r7 ⟨(setsE [(26, t26)] tm), dfs, up, H⟩ Q) (fun g => GS AP g ctx trace_Merge_c18_r7 ⟨(setsE [(26, .undef)] tm), dfs, up, H⟩ Q)) := WPS_part (l := trace_Merge_c18_r6a) (tail := trace_Merge_c18_r7) (by kernel_rfl)
theorem trace_Merge_c18_r7_w (ctx : Ctx) (tm : T AV) (dfs : List ADef) (up : Option Chain) (H : AHeap) (Q : Post) :
    GS AP true ctx trace_Merge_c18_r7 ⟨tm, dfs, up, H⟩ Q =
    (BI dirty (wantV false (tm.get 22)) fun g w => IG g w (fun g => LK g (tm.get 26) fun g ti26 => BI g ((Op.indexSl 9) [ti26, (.int .i64 0)]) fun g t27 => GS AP g ctx trace_Merge_c18_r8 ⟨(setsE [(27, t27)] tm), dfs, up, H⟩ Q) (fun g => GS AP g ctx trace_Merge_c18_r8 ⟨(setsE [(27, .undef)] tm), dfs, up, H⟩ Q)) := WPS_part (l := trace_Merge_c18_r7a) (tail := trace_Merge_c18_r8) (by kernel_rfl)
theorem trace_Merge_c18_r8_w (ctx : Ctx) (tm : T AV) (dfs : List ADef) (up : Option Chain) (H : AHeap) (Q : Post) :
    GS AP true ctx trace_Merge_c18_r8 ⟨tm, dfs, up, H⟩ Q =
    (BI dirty (wantV false (tm.get 22)) fun g w => IG g w (fun g => LK g (tm.get 27) fun g ti27 => BI g ((Op.fieldAddr 1) [ti27]) fun g t28 => GS AP g ctx trace_Merge_c18_r9 ⟨(setsE [(28, t28)] tm), dfs, up, H⟩ Q) (fun g => GS AP g ctx trace_Merge_c18_r9 ⟨(setsE [(28, .undef)] tm), dfs, up, H⟩ Q)) := WPS_part (l := trace_Merge_c18_r8a) (tail := trace_Merge_c18_r9) (by kernel_rfl)
theorem trace_Merge_c18_r9_w (ctx : Ctx) (tm : T AV) (dfs : List ADef) (up : Option Chain) (H : AHeap) (Q : Post) :
    GS AP true ctx trace_Merge_c18_r9 ⟨tm, dfs, up, H⟩ Q =
    (BI dirty (wantV false (tm.get 22)) fun g w => IG g w (fun g => LK g (tm.get 28) fun g ti28 => BI g (Op.load1 [ti28] H) fun g t29 => GS AP g ctx trace_Merge_c18_r10 ⟨(setsE [(29, t29)] tm), dfs, up, H⟩ Q) (fun g => GS AP g ctx trace_Merge_c18_r10 ⟨(setsE [(29, .undef)] tm), dfs, up, H⟩ Q)) := WPS_part (l := trace_Merge_c18_r9a) (tail := trace_Merge_c18_r10) (by kernel_rfl)
theorem trace_Merge_c18_r10_w (ctx : Ctx) (tm : T AV) (dfs : List ADef) (up : Option Chain) (H : AHeap) (Q : Post) :
    GS AP true ctx trace_Merge_c18_r10 ⟨tm, dfs, up, H⟩ Q =
    (BI dirty (wantV false (tm.get 22)) fun g w => IG g w (fun g => LK g (tm.get 0) fun g ti0 => BI g (Op.move [ti0]) fun g t30 => GS AP g ctx trace_Merge_c18_r11 ⟨(setsE [(30, t30)] tm), dfs, up, H⟩ Q) (fun g => GS AP g ctx trace_Merge_c18_r11 ⟨(setsE [(30, .undef)] tm), dfs, up, H⟩ Q)) := WPS_part (l := trace_Merge_c18_r10a) (tail := trace_Merge_c18_r11) (by kernel_rfl)
theorem trace_Merge_c18_r11_w (ctx : Ctx) (tm : T AV) (dfs : List ADef) (up : Option Chain) (H : AHeap) (Q : Post) :
    GS AP true ctx trace_Merge_c18_r11 ⟨tm, dfs, up, H⟩ Q =
    (BI dirty (wantV false (tm.get 22)) fun g w => IG g w (fun g => LK g (tm.get 4) fun g ti4 => BI g (Op.move [ti4]) fun g t31 => GS AP g ctx trace_Merge_c18_r12 ⟨(setsE [(31, t31)] tm), dfs, up, H⟩ Q) (fun g => GS AP g ctx trace_Merge_c18_r12 ⟨(setsE [(31, .undef)] tm), dfs, up, H⟩ Q)) := WPS_part (l := trace_Merge_c18_r11a) (tail := trace_Merge_c18_r12) (by kernel_rfl)
theorem trace_Merge_c18_r12_w (ctx : Ctx) (tm : T AV) (dfs : List ADef) (up : Option Chain) (H : AHeap) (Q : Post) :
    GS AP true ctx trace_Merge_c18_r12 ⟨tm, dfs, up, H⟩ Q =
    (BI dirty (wantV false (tm.get 22)) fun g w => IG g w (fun g => LK g (tm.get 30) fun g ti30 => LK g (tm.get 31) fun g ti31 => BI g ((Op.indexSl 1) [ti30, ti31]) fun g t32 => GS AP g ctx trace_Merge_c18_r13 ⟨(setsE [(32, t32)] tm), dfs, up, H⟩ Q) (fun g => GS AP g ctx trace_Merge_c18_r13 ⟨(setsE [(32, .undef)] tm), dfs, up, H⟩ Q)) := WPS_part (l := trace_Merge_c18_r12a) (tail := trace_Merge_c18_r13) (by kernel_rfl)
theorem trace_Merge_c18_r13_w (ctx : Ctx) (tm : T AV) (dfs : List ADef) (up : Option Chain) (H : AHeap) (Q : Post) :
    GS AP true ctx trace_Merge_c18_r13 ⟨tm, dfs, up, H⟩ Q =
    (BI dirty (wantV false (tm.get 22)) fun g w => IG g w (fun g => LK g (tm.get 32) fun g ti32 => BI g (Op.load1 [ti32] H) fun g t33 => GS AP g ctx trace_Merge_c18_r14 ⟨(setsE [(33, t33)] tm), dfs, up, H⟩ Q) (fun g => GS AP g ctx trace_Merge_c18_r14 ⟨(setsE [(33, .undef)] tm), dfs, up, H⟩ Q)) := WPS_part (l := trace_Merge_c18_r13a) (tail := trace_Merge_c18_r14) (by kernel_rfl)
theorem trace_Merge_c18_r14_w (ctx : Ctx) (tm : T AV) (dfs : List ADef) (up : Option Chain) (H : AHeap) (Q : Post) :
    GS AP true ctx trace_Merge_c18_r14 ⟨tm, dfs, up, H⟩ Q =
    (BI dirty (wantV false (tm.get 22)) fun g w => IG g w (fun g => LK g (tm.get 33) fun g ti33 => BI g ((Op.indexSl 9) [ti33, (.int .i64 0)]) fun g t34 => GS AP g ctx trace_Merge_c18_r15 ⟨(setsE [(34, t34)] tm), dfs, up, H⟩ Q) (fun g => GS AP g ctx trace_Merge_c18_r15 ⟨(setsE [(34, .undef)] tm), dfs, up, H⟩ Q)) := WPS_part (l := trace_Merge_c18_r14a) (tail := trace_Merge_c18_r15) (by kernel_rfl)
theorem trace_Merge_c18_r15_w (ctx : Ctx) (tm : T AV) (dfs : List ADef) (up : Option Chain) (H : AHeap) (Q : Post) :
    GS AP true ctx trace_Merge_c18_r15 ⟨tm, dfs, up, H⟩ Q =
    (BI dirty (wantV false (tm.get 22)) fun g w => IG g w (fun g => LK g (tm.get 34) fun g ti34 => BI g ((Op.fieldAddr 1) [ti34]) fun g t35 => GS AP g ctx trace_Merge_c18_r16 ⟨(setsE [(35, t35)] tm), dfs, up, H⟩ Q) (fun g => GS AP g ctx trace_Merge_c18_r16 ⟨(setsE [(35, .undef)] tm), dfs, up, H⟩ Q)) := WPS_part (l := trace_Merge_c18_r15a) (tail := trace_Merge_c18_r16) (by kernel_rfl)
theorem trace_Merge_c18_r16_w (ctx : Ctx) (tm : T AV) (dfs : List ADef) (up : Option Chain) (H : AHeap) (Q : Post) :
    GS AP true ctx trace_Merge_c18_r16 ⟨tm, dfs, up, H⟩ Q =
    (BI dirty (wantV false (tm.get 22)) fun g w => IG g w (fun g => LK g (tm.get 35) fun g ti35 => BI g (Op.load1 [ti35] H) fun g t36 => GS AP g ctx trace_Merge_c18_r17 ⟨(setsE [(36, t36)] tm), dfs, up, H⟩ Q) (fun g => GS AP g ctx trace_Merge_c18_r17 ⟨(setsE [(36, .undef)] tm), dfs, up, H⟩ Q)) := WPS_part (l := trace_Merge_c18_r16a) (tail := trace_Merge_c18_r17) (by kernel_rfl)
theorem trace_Merge_c18_r17_w (ctx : Ctx) (tm : T AV) (dfs : List ADef) (up : Option Chain) (H : AHeap) (Q : Post) :
    GS AP true ctx trace_Merge_c18_r17 ⟨tm, dfs, up, H⟩ Q =
    (BI dirty (wantV false (tm.get 22)) fun g w => IG g w (fun g => LK g (tm.get 29) fun g ti29 => LK g (tm.get 36) fun g ti36 => BI g ((Op.bin .lss) [ti29, ti36]) fun g t37 => GS AP g ctx trace_Merge_c18_r18 ⟨(setsE [(37, t37)] tm), dfs, up, H⟩ Q) (fun g => GS AP g ctx trace_Merge_c18_r18 ⟨(setsE [(37, .undef)] tm), dfs, up, H⟩ Q)) := WPS_part (l := trace_Merge_c18_r17a) (tail := trace_Merge_c18_r18) (by kernel_rfl)
theorem trace_Merge_c18_r18_w (ctx : Ctx) (tm : T AV) (dfs : List ADef) (up : Option Chain) (H : AHeap) (Q : Post) :
    GS AP true ctx trace_Merge_c18_r18 ⟨tm, dfs, up, H⟩ Q =
    (BI dirty (wantV true (tm.get 19)) fun g w => IG g w (fun g => LK g (tm.get 22) fun g ti22 => LK g (tm.get 37) fun g ti37 => BI g (Op.pick [ti22, (.bool true), ti37]) fun g t38 => GS AP g ctx trace_Merge_c18_r19 ⟨(setsE [(38, t38)] tm), dfs, up, H⟩ Q) (fun g => GS AP g ctx trace_Merge_c18_r19 ⟨(setsE [(38, .undef)] tm), dfs, up, H⟩ Q)) := WPS_part (l := trace_Merge_c18_r18a) (tail := trace_Merge_c18_r19) (by kernel_rfl)
theorem trace_Merge_c18_r19_w (ctx : Ctx) (tm : T AV) (dfs : List ADef) (up : Option Chain) (H : AHeap) (Q : Post) :
    GS AP true ctx trace_Merge_c18_r19 ⟨tm, dfs, up, H⟩ Q =
    (LK dirty (tm.get 19) fun g ti19 => LK g (tm.get 38) fun g ti38 => BI g (Op.pick [ti19, ti38, (.bool false)]) fun g t39 => GO g Q .normal ⟨(setsE [(39, t39)] tm), dfs, up, H⟩) := WPS_shallow (l := trace_Merge_c18_r19) (by kernel_rfl)
theorem trace_Merge_c17_w (ctx : Ctx) (tm : T AV) (dfs : List ADef) (up : Option Chain) (H : AHeap) (Q : Post) :
    WP AP ctx trace_Merge_c17 ⟨tm, dfs, up, H⟩ Q =
    (GS AP dirty ctx trace_Merge_c17_r0 ⟨tm, dfs, up, H⟩ (SEQ (WP AP ctx trace_Merge_c18) Q)) := Gxrseq AP ctx _ _ trace_Merge_c17_r0 trace_Merge_c18
theorem trace_Merge_c17_r0_w (ctx : Ctx) (tm : T AV) (dfs : List ADef) (up : Option Chain) (H : AHeap) (Q : Post) :
    GS AP true ctx trace_Merge_c17_r0 ⟨tm, dfs, up, H⟩ Q =
    (LK dirty (tm.get 10) fun g ti10 => BI g (Op.move [ti10]) fun g t12 => BI g (Op.move [t12]) fun g t5 => GO g Q .normal ⟨(setsE [(5, t5), (12, t12)] tm), dfs, up, H⟩) := WPS_shallow (l := trace_Merge_c17_r0) (by kernel_rfl)
theorem trace_Merge_c16_w (ctx : Ctx) (tm : T AV) (dfs : List ADef) (up : Option Chain) (H : AHeap) (Q : Post) :
    WP AP ctx trace_Merge_c16 ⟨tm, dfs, up, H⟩ Q =
    (WP AP ctx trace_Merge_c17 ⟨tm, dfs, up, H⟩ (BLK 3 Q)) := WP_block AP ctx _ _ 3 trace_Merge_c17
theorem trace_Merge_c21_w (ctx : Ctx) (tm : T AV) (dfs : List ADef) (up : Option Chain) (H : AHeap) (Q : Post) :
    WP AP ctx trace_Merge_c21 ⟨tm, dfs, up, H⟩ Q =
    (GS AP dirty ctx trace_Merge_c21_r0 ⟨tm, dfs, up, H⟩ Q) := Gxregion AP ctx _ _ trace_Merge_c21_r0
theorem trace_Merge_c21_r0_w (ctx : Ctx) (tm : T AV) (dfs : List ADef) (up : Option Chain) (H : AHeap) (Q : Post) :
    GS AP true ctx trace_Merge_c21_r0 ⟨tm, dfs, up, H⟩ Q =
    (LK dirty (tm.get 10) fun g ti10 => BI g ((Op.bin .add) [ti10, (.int .i64 1)]) fun g t41 => BI g (Op.move [t41]) fun g t10 => GO g Q .normal ⟨(setsE [(10, t10), (41, t41)] tm), dfs, up, H⟩) := WPS_shallow (l := trace_Merge_c21_r0) (by kernel_rfl)
theorem trace_Merge_c15_w (ctx : Ctx) (tm : T AV) (dfs : List ADef) (up : Option Chain) (H : AHeap) (Q : Post) :
    WP AP ctx trace_Merge_c15 ⟨tm, dfs, up, H⟩ Q =
    (WP AP ctx trace_Merge_c16 ⟨tm, dfs, up, H⟩ (SEQ (WP AP ctx trace_Merge_c21) Q)) := WP_seq AP ctx _ _ trace_Merge_c16 trace_Merge_c21
theorem trace_Merge_c13_w (ctx : Ctx) (tm : T AV) (dfs : List ADef) (up : Option Chain) (H : AHeap) (Q : Post) :
    WP AP ctx trace_Merge_c13 ⟨tm, dfs, up, H⟩ Q =
    (WP AP ctx trace_Merge_c14 ⟨tm, dfs, up, H⟩ (SEQ (WP AP ctx trace_Merge_c15) Q)) := WP_seq AP ctx _ _ trace_Merge_c14 trace_Merge_c15
theorem trace_Merge_c12_w (ctx : Ctx) (tm : T AV) (dfs : List ADef) (up : Option Chain) (H : AHeap) (Q : Post) :
    WP AP ctx trace_Merge_c12 ⟨tm, dfs, up, H⟩ Q =
    (GS AP dirty ctx trace_Merge_c12_r0 ⟨tm, dfs, up, H⟩ (SEQ (WP AP ctx trace_Merge_c13) Q)) := Gxrseq AP ctx _ _ trace_Merge_c12_r0 trace_Merge_c13
theorem trace_Merge_c12_r0_w (ctx : Ctx) (tm : T AV) (dfs : List ADef) (up : Option Chain) (H : AHeap) (Q : Post) :
    GS AP true ctx trace_Merge_c12_r0 ⟨tm, dfs, up, H⟩ Q =
    (LK dirty (tm.get 10) fun g ti10 => LK g (tm.get 9) fun g ti9 => BI g ((Op.bin .lss) [ti10, ti9]) fun g t11 => GO g Q .normal ⟨(setsE [(11, t11)] tm), dfs, up, H⟩) := WPS_shallow (l := trace_Merge_c12_r0) (by kernel_rfl)
theorem trace_Merge_c11_w (ctx : Ctx) (tm : T AV) (dfs : List ADef) (up : Option Chain) (H : AHeap) (Q : Post) :
    WP AP ctx trace_Merge_c11 ⟨tm, dfs, up, H⟩ Q =
    (LOOP (WP AP ctx trace_Merge_c12) none ⟨tm, dfs, up, H⟩ Q) := WP_loop AP ctx _ _ none trace_Merge_c12
theorem trace_Merge_c10_w (ctx : Ctx) (tm : T AV) (dfs : List ADef) (up : Option Chain) (H : AHeap) (Q : Post) :
    WP AP ctx trace_Merge_c10 ⟨tm, dfs, up, H⟩ Q =
    (WP AP ctx trace_Merge_c11 ⟨tm, dfs, up, H⟩ (BLK 2 Q)) := WP_block AP ctx _ _ 2 trace_Merge_c11
theorem trace_Merge_c9_w (ctx : Ctx) (tm : T AV) (dfs : List ADef) (up : Option Chain) (H : AHeap) (Q : Post) :
    WP AP ctx trace_Merge_c9 ⟨tm, dfs, up, H⟩ Q =
    (GS AP dirty ctx trace_Merge_c9_r0 ⟨tm, dfs, up, H⟩ (SEQ (WP AP ctx trace_Merge_c10) Q)) := Gxrseq AP ctx _ _ trace_Merge_c9_r0 trace_Merge_c10
theorem trace_Merge_c9_r0_w (ctx : Ctx) (tm : T AV) (dfs : List ADef) (up : Option Chain) (H : AHeap) (Q : Post) :
    GS AP true ctx trace_Merge_c9_r0 ⟨tm, dfs, up, H⟩ Q =
    (LK dirty (tm.get 0) fun g ti0 => BI g (Op.move [ti0]) fun g t8 => BI g (Op.lenSl [t8]) fun g t9 => BI g (Op.move [(.int .i64 0)]) fun g t10 => 
    GO g Q .normal ⟨(setsE [(10, t10), (9, t9), (8, t8)] tm), dfs, up, H⟩) := WPS_shallow (l := trace_Merge_c9_r0) (by kernel_rfl)
theorem trace_Merge_c25_w (ctx : Ctx) (tm : T AV) (dfs : List ADef) (up : Option Chain) (H : AHeap) (Q : Post) :
    WP AP ctx trace_Merge_c25 ⟨tm, dfs, up, H⟩ Q =
    (GS AP dirty ctx trace_Merge_c25_r0 ⟨tm, dfs, up, H⟩ (SEQ (WP AP ctx .ret) Q)) := Gxrseq AP ctx _ _ trace_Merge_c25_r0 .ret
theorem trace_Merge_c25_r0_w (ctx : Ctx) (tm : T AV) (dfs : List ADef) (up : Option Chain) (H : AHeap) (Q : Post) :
    GS AP true ctx trace_Merge_c25_r0 ⟨tm, dfs, up, H⟩ Q =
    (LK dirty (tm.get 3) fun g ti3 => BI g (Op.move [ti3]) fun g t44 => BI g (Op.move [t44]) fun g t2 => GO g Q .normal ⟨(setsE [(2, t2), (44, t44)] tm), dfs, up, H⟩) := WPS_shallow (l := trace_Merge_c25_r0) (by kernel_rfl)
theorem trace_Merge_c24_w (ctx : Ctx) (tm : T AV) (dfs : List ADef) (up : Option Chain) (H : AHeap) (Q : Post) :
    WP AP ctx trace_Merge_c24 ⟨tm, dfs, up, H⟩ Q =
    (BI dirty (tm.get 43) fun g v => BI g (asBool v) fun g q => IG g q (fun g => GW AP g ctx trace_Merge_c25 ⟨tm, dfs, up, H⟩ Q) (fun g => GW AP g ctx .skip ⟨tm, dfs, up, H⟩ Q)) := Gxcond AP ctx _ _ 43 trace_Merge_c25 .skip
theorem trace_Merge_c23_w (ctx : Ctx) (tm : T AV) (dfs : List ADef) (up : Option Chain) (H : AHeap) (Q : Post) :
    WP AP ctx trace_Merge_c23 ⟨tm, dfs, up, H⟩ Q =
    (GS AP dirty ctx trace_Merge_c23_r0 ⟨tm, dfs, up, H⟩ (SEQ (WP AP ctx trace_Merge_c24) Q)) := Gxrseq AP ctx _ _ trace_Merge_c23_r0 trace_Merge_c24
theorem trace_Merge_c23_r0_w (ctx : Ctx) (tm : T AV) (dfs : List ADef) (up : Option Chain) (H : AHeap) (Q : Post) :
    GS AP true ctx trace_Merge_c23_r0 ⟨tm, dfs, up, H⟩ Q =
    (LK dirty (tm.get 4) fun g ti4 => BI g (Op.move [ti4]) fun g t42 => BI g ((Op.bin .lss) [t42, (.int .i64 0)]) fun g t43 => GO g Q .normal ⟨(setsE [(43, t43), (42, t42)] tm), dfs, up, H⟩) := WPS_shallow (l := trace_Merge_c23_r0) (by kernel_rfl)
theorem trace_Merge_c27_w (ctx : Ctx) (tm : T AV) (dfs : List ADef) (up : Option Chain) (H : AHeap) (Q : Post) :
    WP AP ctx trace_Merge_c27 ⟨tm, dfs, up, H⟩ Q =
    (GS AP dirty ctx trace_Merge_c27_r0 ⟨tm, dfs, up, H⟩ Q) := Gxregion AP ctx _ _ trace_Merge_c27_r0
theorem trace_Merge_c27_r0_w (ctx : Ctx) (tm : T AV) (dfs : List ADef) (up : Option Chain) (H : AHeap) (Q : Post) :
    GS AP true ctx trace_Merge_c27_r0 ⟨tm, dfs, up, H⟩ Q =
    (LK dirty (tm.get 0) fun g ti0 => BI g (Op.move [ti0]) fun g t54 => LK g (tm.get 4) fun g ti4 => BI g (Op.move [ti4]) fun g t55 => LK g (tm.get 0) fun g ti0_1 => BI g (Op.move [ti0_1]) fun g t56 => 
    LK g (tm.get 4) fun g ti4_1 => BI g (Op.move [ti4_1]) fun g t57 => BI g ((Op.indexSl 1) [t56, t57]) fun g t58 => BI g (Op.load1 [t58] H) fun g t59 => BI g ((Op.sliceSl 9 [(some 0), none, none]) [t59, (.int .i64 1)]) fun g t60 => BI g ((Op.indexSl 1) [t54, t55]) fun g t61 => BI2 g ((Op.store 1) [t61, t60] H) fun g t_u H1 => 
    GO g Q .normal ⟨(setsE [(61, t61), (60, t60), (59, t59), (58, t58), (57, t57), (56, t56), (55, t55), (54, t54)] tm), dfs, up, H1⟩) := WPS_shallow (l := trace_Merge_c27_r0) (by kernel_rfl)
theorem trace_Merge_c26_w (ctx : Ctx) (tm : T AV) (dfs : List ADef) (up : Option Chain) (H : AHeap) (Q : Post) :
    WP AP ctx trace_Merge_c26 ⟨tm, dfs, up, H⟩ Q =
    (GS AP dirty ctx trace_Merge_c26_r0 ⟨tm, dfs, up, H⟩ (SEQ (WP AP ctx trace_Merge_c27) Q)) := Gxrseq AP ctx _ _ trace_Merge_c26_r0 trace_Merge_c27
theorem trace_Merge_c26_r0_w (ctx : Ctx) (tm : T AV) (dfs : List ADef) (up : Option Chain) (H : AHeap) (Q : Post) :
    GS AP true ctx trace_Merge_c26_r0 ⟨tm, dfs, up, H⟩ Q =
    (LK dirty (tm.get 3) fun g ti3 => BI g (Op.move [ti3]) fun g t45 => LK g (tm.get 0) fun g ti0 => BI g (Op.move [ti0]) fun g t46 => LK g (tm.get 4) fun g ti4 => BI g (Op.move [ti4]) fun g t47 => 
    BI g ((Op.indexSl 1) [t46, t47]) fun g t48 => BI g (Op.load1 [t48] H) fun g t49 => BI g ((Op.indexSl 9) [t49, (.int .i64 0)]) fun g t50 => 
    BI g ((Op.loadN 9) [t50] H) fun g t51 => BI2 g ((Op.buildSlice T_api_Event 1 [(.int .i64 0), (.int .i64 0), (.int .i64 0), (.int .i64 0), (.int .i64 0), (.int .i64 0), (.int .i64 0), (.int .u64 0), (.int .i64 0)] [(0, 9)]) [t51]) fun g o1 mk1 => BI2 g ((Op.append T_api_Event 9 72) [t45, (mk1 H.next)] (H.alloc o1)) fun g t53 H2 => 
    BI g (Op.move [t53]) fun g t3 => GO g Q .normal ⟨(setsE [(3, t3), (53, t53), (52, (mk1 H.next)), (51, t51), (50, t50), (49, t49), (48, t48), (47, t47), (46, t46), (45, t45)] tm), dfs, up, H2⟩) := WPS_shallow (l := trace_Merge_c26_r0) (by kernel_rfl)
theorem trace_Merge_c22_w (ctx : Ctx) (tm : T AV) (dfs : List ADef) (up : Option Chain) (H : AHeap) (Q : Post) :
    WP AP ctx trace_Merge_c22 ⟨tm, dfs, up, H⟩ Q =
    (WP AP ctx trace_Merge_c23 ⟨tm, dfs, up, H⟩ (SEQ (WP AP ctx trace_Merge_c26) Q)) := WP_seq AP ctx _ _ trace_Merge_c23 trace_Merge_c26
theorem trace_Merge_c8_w (ctx : Ctx) (tm : T AV) (dfs : List ADef) (up : Option Chain) (H : AHeap) (Q : Post) :
    WP AP ctx trace_Merge_c8 ⟨tm, dfs, up, H⟩ Q =
    (WP AP ctx trace_Merge_c9 ⟨tm, dfs, up, H⟩ (SEQ (WP AP ctx trace_Merge_c22) Q)) := WP_seq AP ctx _ _ trace_Merge_c9 trace_Merge_c22
theorem trace_Merge_c7_w (ctx : Ctx) (tm : T AV) (dfs : List ADef) (up : Option Chain) (H : AHeap) (Q : Post) :
    WP AP ctx trace_Merge_c7 ⟨tm, dfs, up, H⟩ Q =
    (GS AP dirty ctx trace_Merge_c7_r0 ⟨tm, dfs, up, H⟩ (SEQ (WP AP ctx trace_Merge_c8) Q)) := Gxrseq AP ctx _ _ trace_Merge_c7_r0 trace_Merge_c8
theorem trace_Merge_c7_r0_w (ctx : Ctx) (tm : T AV) (dfs : List ADef) (up : Option Chain) (H : AHeap) (Q : Post) :
    GS AP true ctx trace_Merge_c7_r0 ⟨tm, dfs, up, H⟩ Q =
    (BI dirty (Op.move [(.int .i64 (-1))]) fun g t4 => GO g Q .normal ⟨(setsE [(4, t4)] tm), dfs, up, H⟩) := WPS_shallow (l := trace_Merge_c7_r0) (by kernel_rfl)
theorem trace_Merge_c6_w (ctx : Ctx) (tm : T AV) (dfs : List ADef) (up : Option Chain) (H : AHeap) (Q : Post) :
    WP AP ctx trace_Merge_c6 ⟨tm, dfs, up, H⟩ Q =
    (WP AP ctx trace_Merge_c7 ⟨tm, dfs, up, H⟩ (BLK 1 Q)) := WP_block AP ctx _ _ 1 trace_Merge_c7
theorem trace_Merge_c5_w (ctx : Ctx) (tm : T AV) (dfs : List ADef) (up : Option Chain) (H : AHeap) (Q : Post) :
    WP AP ctx trace_Merge_c5 ⟨tm, dfs, up, H⟩ Q =
    (LOOP (WP AP ctx trace_Merge_c6) none ⟨tm, dfs, up, H⟩ Q) := WP_loop AP ctx _ _ none trace_Merge_c6
theorem trace_Merge_c4_w (ctx : Ctx) (tm : T AV) (dfs : List ADef) (up : Option Chain) (H : AHeap) (Q : Post) :
    WP AP ctx trace_Merge_c4 ⟨tm, dfs, up, H⟩ Q =
    (WP AP ctx trace_Merge_c5 ⟨tm, dfs, up, H⟩ (BLK 0 Q)) := WP_block AP ctx _ _ 0 trace_Merge_c5
theorem trace_Merge_c3_w (ctx : Ctx) (tm : T AV) (dfs : List ADef) (up : Option Chain) (H : AHeap) (Q : Post) :
    WP AP ctx trace_Merge_c3 ⟨tm, dfs, up, H⟩ Q =
    (GS AP dirty ctx trace_Merge_c3_r0 ⟨tm, dfs, up, H⟩ (SEQ (WP AP ctx trace_Merge_c4) Q)) := Gxrseq AP ctx _ _ trace_Merge_c3_r0 trace_Merge_c4
theorem trace_Merge_c3_r0_w (ctx : Ctx) (tm : T AV) (dfs : List ADef) (up : Option Chain) (H : AHeap) (Q : Post) :
    GS AP true ctx trace_Merge_c3_r0 ⟨tm, dfs, up, H⟩ Q =
    (BI dirty (Op.move [.nils]) fun g t3 => GO g Q .normal ⟨(setsE [(3, t3)] tm), dfs, up, H⟩) := WPS_shallow (l := trace_Merge_c3_r0) (by kernel_rfl)
theorem trace_Merge_c2_w (ctx : Ctx) (tm : T AV) (dfs : List ADef) (up : Option Chain) (H : AHeap) (Q : Post) :
    WP AP ctx trace_Merge_c2 ⟨tm, dfs, up, H⟩ Q =
    (GS AP dirty ctx trace_Merge_c2_r0 ⟨tm, dfs, up, H⟩ (SEQ (WP AP ctx trace_Merge_c3) Q)) := Gxrseq AP ctx _ _ trace_Merge_c2_r0 trace_Merge_c3
theorem trace_Merge_c2_r0_w (ctx : Ctx) (tm : T AV) (dfs : List ADef) (up : Option Chain) (H : AHeap) (Q : Post) :
    GS AP true ctx trace_Merge_c2_r0 ⟨tm, dfs, up, H⟩ Q =
    (LK dirty (tm.get 0) fun g ti0 => BI g (Op.move [ti0]) fun g t6 => CA AP g (.func N_slices_Clone_s_api_Event) [t6] H (fun g t7 H1 => 
    BI g (Op.move [t7]) fun g t0 => 
    GO g Q .normal ⟨(setsE [(0, t0), (7, t7), (6, t6)] tm), dfs, up, H1⟩) (PAN (some []) (setsE [(6, t6)] tm) dfs up Q)) := WPS_shallow (l := trace_Merge_c2_r0) (by kernel_rfl)
theorem trace_Merge_c1_w (ctx : Ctx) (tm : T AV) (dfs : List ADef) (up : Option Chain) (H : AHeap) (Q : Post) :
    WP AP ctx trace_Merge_c1 ⟨tm, dfs, up, H⟩ Q =
    (GS AP dirty ctx trace_Merge_c1_r0 ⟨tm, dfs, up, H⟩ (SEQ (WP AP ctx trace_Merge_c2) Q)) := Gxrseq AP ctx _ _ trace_Merge_c1_r0 trace_Merge_c2
theorem trace_Merge_c1_r0_w (ctx : Ctx) (tm : T AV) (dfs : List ADef) (up : Option Chain) (H : AHeap) (Q : Post) :
    GS AP true ctx trace_Merge_c1_r0 ⟨tm, dfs, up, H⟩ Q =
    (BI dirty (Op.move [.nils]) fun g t2 => GO g Q .normal ⟨(setsE [(2, t2)] tm), dfs, up, H⟩) := WPS_shallow (l := trace_Merge_c1_r0) (by kernel_rfl)
/-! ### shunt/shuntref23.Merge -/
def ref23_Merge_c10 : ACode := .cond (.tmp 16) .skip (.exit 0)
def ref23_Merge_c9_r0 : List AStep := [⟨false, (some 13), none, [.tmp 5], .pure Op.move, (some [])⟩,
  ⟨false, (some 14), none, [.tmp 0], .pure Op.move, (some [])⟩,
  ⟨false, (some 15), none, [.tmp 14], .pure Op.lenSl, (some [])⟩,
  ⟨false, (some 16), none, [.tmp 13, .tmp 15], .pure (Op.bin .lss), (some [])⟩]
def ref23_Merge_c9 : ACode := .seq (.region ref23_Merge_c9_r0) ref23_Merge_c10
def ref23_Merge_c13_r0 : List AStep := [⟨false, (some 19), none, [.tmp 4], .pure Op.move, (some [])⟩,
  ⟨false, (some 20), none, [.tmp 0], .pure Op.move, (some [])⟩,
  ⟨false, (some 21), none, [.tmp 5], .pure Op.move, (some [])⟩,
  ⟨false, (some 22), none, [.tmp 20, .tmp 21], .pure (Op.indexSl 1), (some [])⟩,
  ⟨false, (some 23), none, [.tmp 22], .read Op.load1, (some [])⟩,
  ⟨false, (some 24), none, [.tmp 23], .pure Op.lenSl, (some [])⟩,
  ⟨false, (some 25), none, [.tmp 19, .tmp 24], .pure (Op.bin .add), (some [])⟩,
  ⟨false, (some 4), none, [.tmp 25], .pure Op.move, (some [])⟩]
def ref23_Merge_c13 : ACode := .region ref23_Merge_c13_r0
def ref23_Merge_c12 : ACode := .block 1 ref23_Merge_c13
def ref23_Merge_c14_r0 : List AStep := [⟨false, (some 17), none, [.tmp 5], .pure Op.move, (some [])⟩,
  ⟨false, (some 18), none, [.tmp 17, .const (.int .i64 1)], .pure (Op.bin .add), (some [])⟩,
  ⟨false, (some 5), none, [.tmp 18], .pure Op.move, (some [])⟩]
def ref23_Merge_c14 : ACode := .region ref23_Merge_c14_r0
def ref23_Merge_c11 : ACode := .seq ref23_Merge_c12 ref23_Merge_c14
def ref23_Merge_c8 : ACode := .seq ref23_Merge_c9 ref23_Merge_c11
def ref23_Merge_c7 : ACode := .loop none ref23_Merge_c8
def ref23_Merge_c6 : ACode := .block 0 ref23_Merge_c7
def ref23_Merge_c5_r0 : List AStep := [⟨false, (some 5), none, [.const (.int .i64 0)], .pure Op.move, (some [])⟩]
def ref23_Merge_c5 : ACode := .seq (.region ref23_Merge_c5_r0) ref23_Merge_c6
def ref23_Merge_c22 : ACode := .cond (.tmp 28) .skip (.exit 2)
def ref23_Merge_c21_r0 : List AStep := [⟨false, (some 26), none, [.tmp 7], .pure Op.move, (some [])⟩,
  ⟨false, (some 27), none, [.tmp 4], .pure Op.move, (some [])⟩,
  ⟨false, (some 28), none, [.tmp 26, .tmp 27], .pure (Op.bin .lss), (some [])⟩]
def ref23_Merge_c21 : ACode := .seq (.region ref23_Merge_c21_r0) ref23_Merge_c22
def ref23_Merge_c32 : ACode := .cond (.tmp 34) .skip (.exit 4)
def ref23_Merge_c31_r0 : List AStep := [⟨false, (some 31), none, [.tmp 9], .pure Op.move, (some [])⟩,
  ⟨false, (some 32), none, [.tmp 0], .pure Op.move, (some [])⟩,
  ⟨false, (some 33), none, [.tmp 32], .pure Op.lenSl, (some [])⟩,
  ⟨false, (some 34), none, [.tmp 31, .tmp 33], .pure (Op.bin .lss), (some [])⟩]
def ref23_Merge_c31 : ACode := .seq (.region ref23_Merge_c31_r0) ref23_Merge_c32
def ref23_Merge_c37_r0 : List AStep := [⟨false, (some 76), none, [.tmp 9], .pure Op.move, (some [])⟩,
  ⟨false, (some 8), none, [.tmp 76], .pure Op.move, (some [])⟩]
def ref23_Merge_c37 : ACode := .region ref23_Merge_c37_r0
def ref23_Merge_c36 : ACode := .cond (.tmp 75) ref23_Merge_c37 .skip
def ref23_Merge_c35_r27 : List AStep := [⟨false, (some 75), none, [.tmp 47, .tmp 74, .const (.bool false)], .pure Op.pick, (some [37, 38, 39, 40, 41, 42, 43, 44, 45, 46, 47, 48, 49, 50, 51, 52, 53, 54, 55, 56, 57, 58, 59, 60, 61, 62, 63, 64, 65, 66, 67, 68, 69, 70, 71, 72, 73, 74, 75])⟩]
def ref23_Merge_c35_r26a : List AStep := [⟨false, (some 74), (some (47, true)), [.tmp 50, .const (.bool true), .tmp 73], .pure Op.pick, (some [37, 38, 39, 40, 41, 42, 43, 44, 45, 46, 47, 48, 49, 50, 51, 52, 53, 54, 55, 56, 57, 58, 59, 60, 61, 62, 63, 64, 65, 66, 67, 68, 69, 70, 71, 72, 73, 74, 75])⟩]
def ref23_Merge_c35_r26 : List AStep := ref23_Merge_c35_r26a ++ ref23_Merge_c35_r27
def ref23_Merge_c35_r25a : List AStep := [⟨false, (some 73), (some (50, false)), [.tmp 61, .tmp 72], .pure (Op.bin .lss), (some [37, 38, 39, 40, 41, 42, 43, 44, 45, 46, 47, 48, 49, 50, 51, 52, 53, 54, 55, 56, 57, 58, 59, 60, 61, 62, 63, 64, 65, 66, 67, 68, 69, 70, 71, 72, 73, 74, 75])⟩]
def ref23_Merge_c35_r25 : List AStep := ref23_Merge_c35_r25a ++ ref23_Merge_c35_r26
def ref23_Merge_c35_r24a : List AStep := [⟨false, (some 72), (some (50, false)), [.tmp 71], .read Op.load1, (some [37, 38, 39, 40, 41, 42, 43, 44, 45, 46, 47, 48, 49, 50, 51, 52, 53, 54, 55, 56, 57, 58, 59, 60, 61, 62, 63, 64, 65, 66, 67, 68, 69, 70, 71, 72, 73, 74, 75])⟩]
def ref23_Merge_c35_r24 : List AStep := ref23_Merge_c35_r24a ++ ref23_Merge_c35_r25
def ref23_Merge_c35_r23a : List AStep := [⟨false, (some 71), (some (50, false)), [.tmp 70], .pure (Op.fieldAddr 1), (some [37, 38, 39, 40, 41, 42, 43, 44, 45, 46, 47, 48, 49, 50, 51, 52, 53, 54, 55, 56, 57, 58, 59, 60, 61, 62, 63, 64, 65, 66, 67, 68, 69, 70, 71, 72, 73, 74, 75])⟩]
def ref23_Merge_c35_r23 : List AStep := ref23_Merge_c35_r23a ++ ref23_Merge_c35_r24
def ref23_Merge_c35_r22a : List AStep := [⟨false, (some 70), (some (50, false)), [.tmp 65, .tmp 69], .pure (Op.indexSl 9), (some [37, 38, 39, 40, 41, 42, 43, 44, 45, 46, 47, 48, 49, 50, 51, 52, 53, 54, 55, 56, 57, 58, 59, 60, 61, 62, 63, 64, 65, 66, 67, 68, 69, 70, 71, 72, 73, 74, 75])⟩]
def ref23_Merge_c35_r22 : List AStep := ref23_Merge_c35_r22a ++ ref23_Merge_c35_r23
def ref23_Merge_c35_r21a : List AStep := [⟨false, (some 69), (some (50, false)), [.tmp 68], .read Op.load1, (some [37, 38, 39, 40, 41, 42, 43, 44, 45, 46, 47, 48, 49, 50, 51, 52, 53, 54, 55, 56, 57, 58, 59, 60, 61, 62, 63, 64, 65, 66, 67, 68, 69, 70, 71, 72, 73, 74, 75])⟩]
def ref23_Merge_c35_r21 : List AStep := ref23_Merge_c35_r21a ++ ref23_Merge_c35_r22
def ref23_Merge_c35_r20a : List AStep := [⟨false, (some 68), (some (50, false)), [.tmp 66, .tmp 67], .pure (Op.indexSl 1), (some [37, 38, 39, 40, 41, 42, 43, 44, 45, 46, 47, 48, 49, 50, 51, 52, 53, 54, 55, 56, 57, 58, 59, 60, 61, 62, 63, 64, 65, 66, 67, 68, 69, 70, 71, 72, 73, 74, 75])⟩]
def ref23_Merge_c35_r20 : List AStep := ref23_Merge_c35_r20a ++ ref23_Merge_c35_r21
def ref23_Merge_c35_r19a : List AStep := [⟨false, (some 67), (some (50, false)), [.tmp 8], .pure Op.move, (some [37, 38, 39, 40, 41, 42, 43, 44, 45, 46, 47, 48, 49, 50, 51, 52, 53, 54, 55, 56, 57, 58, 59, 60, 61, 62, 63, 64, 65, 66, 67, 68, 69, 70, 71, 72, 73, 74, 75])⟩]
def ref23_Merge_c35_r19 : List AStep := ref23_Merge_c35_r19a ++ ref23_Merge_c35_r20
def ref23_Merge_c35_r18a : List AStep := [⟨false, (some 66), (some (50, false)), [.tmp 3], .pure Op.move, none⟩]
def ref23_Merge_c35_r18 : List AStep := ref23_Merge_c35_r18a ++ ref23_Merge_c35_r19
def ref23_Merge_c35_r17a : List AStep := [⟨false, (some 65), (some (50, false)), [.tmp 64], .read Op.load1, none⟩]
def ref23_Merge_c35_r17 : List AStep := ref23_Merge_c35_r17a ++ ref23_Merge_c35_r18
def ref23_Merge_c35_r16a : List AStep := [⟨false, (some 64), (some (50, false)), [.tmp 62, .tmp 63], .pure (Op.indexSl 1), none⟩]
def ref23_Merge_c35_r16 : List AStep := ref23_Merge_c35_r16a ++ ref23_Merge_c35_r17
def ref23_Merge_c35_r15a : List AStep := [⟨false, (some 63), (some (50, false)), [.tmp 8], .pure Op.move, none⟩]
def ref23_Merge_c35_r15 : List AStep := ref23_Merge_c35_r15a ++ ref23_Merge_c35_r16
def ref23_Merge_c35_r14a : List AStep := [⟨false, (some 62), (some (50, false)), [.tmp 0], .pure Op.move, none⟩]
def ref23_Merge_c35_r14 : List AStep := ref23_Merge_c35_r14a ++ ref23_Merge_c35_r15
def ref23_Merge_c35_r13a : List AStep := [⟨false, (some 61), (some (50, false)), [.tmp 60], .read Op.load1, none⟩]
def ref23_Merge_c35_r13 : List AStep := ref23_Merge_c35_r13a ++ ref23_Merge_c35_r14
def ref23_Merge_c35_r12a : List AStep := [⟨false, (some 60), (some (50, false)), [.tmp 59], .pure (Op.fieldAddr 1), none⟩]
def ref23_Merge_c35_r12 : List AStep := ref23_Merge_c35_r12a ++ ref23_Merge_c35_r13
def ref23_Merge_c35_r11a : List AStep := [⟨false, (some 59), (some (50, false)), [.tmp 54, .tmp 58], .pure (Op.indexSl 9), none⟩]
def ref23_Merge_c35_r11 : List AStep := ref23_Merge_c35_r11a ++ ref23_Merge_c35_r12
def ref23_Merge_c35_r10a : List AStep := [⟨false, (some 58), (some (50, false)), [.tmp 57], .read Op.load1, none⟩]
def ref23_Merge_c35_r10 : List AStep := ref23_Merge_c35_r10a ++ ref23_Merge_c35_r11
def ref23_Merge_c35_r9a : List AStep := [⟨false, (some 57), (some (50, false)), [.tmp 55, .tmp 56], .pure (Op.indexSl 1), none⟩]
def ref23_Merge_c35_r9 : List AStep := ref23_Merge_c35_r9a ++ ref23_Merge_c35_r10
def ref23_Merge_c35_r8a : List AStep := [⟨false, (some 56), (some (50, false)), [.tmp 9], .pure Op.move, none⟩]
def ref23_Merge_c35_r8 : List AStep := ref23_Merge_c35_r8a ++ ref23_Merge_c35_r9
def ref23_Merge_c35_r7a : List AStep := [⟨false, (some 55), (some (50, false)), [.tmp 3], .pure Op.move, none⟩]
def ref23_Merge_c35_r7 : List AStep := ref23_Merge_c35_r7a ++ ref23_Merge_c35_r8
def ref23_Merge_c35_r6a : List AStep := [⟨false, (some 54), (some (50, false)), [.tmp 53], .read Op.load1, none⟩]
def ref23_Merge_c35_r6 : List AStep := ref23_Merge_c35_r6a ++ ref23_Merge_c35_r7
def ref23_Merge_c35_r5a : List AStep := [⟨false, (some 53), (some (50, false)), [.tmp 51, .tmp 52], .pure (Op.indexSl 1), none⟩]
def ref23_Merge_c35_r5 : List AStep := ref23_Merge_c35_r5a ++ ref23_Merge_c35_r6
def ref23_Merge_c35_r4a : List AStep := [⟨false, (some 52), (some (50, false)), [.tmp 9], .pure Op.move, none⟩]
def ref23_Merge_c35_r4 : List AStep := ref23_Merge_c35_r4a ++ ref23_Merge_c35_r5
def ref23_Merge_c35_r3a : List AStep := [⟨false, (some 51), (some (50, false)), [.tmp 0], .pure Op.move, none⟩]
def ref23_Merge_c35_r3 : List AStep := ref23_Merge_c35_r3a ++ ref23_Merge_c35_r4
def ref23_Merge_c35_r2a : List AStep := [⟨false, (some 50), (some (47, true)), [.tmp 49], .pure Op.move, (some [37, 38, 39, 40, 41, 42, 43, 44, 45, 46, 47, 48, 49, 50, 51, 52, 53, 54, 55, 56, 57, 58, 59, 60, 61, 62, 63, 64, 65, 66, 67, 68, 69, 70, 71, 72, 73, 74, 75])⟩]
def ref23_Merge_c35_r2 : List AStep := ref23_Merge_c35_r2a ++ ref23_Merge_c35_r3
def ref23_Merge_c35_r1a : List AStep := [⟨false, (some 49), (some (47, true)), [.tmp 48, .const (.int .i64 0)], .pure (Op.bin .lss), (some [37, 38, 39, 40, 41, 42, 43, 44, 45, 46, 47, 48, 49, 50, 51, 52, 53, 54, 55, 56, 57, 58, 59, 60, 61, 62, 63, 64, 65, 66, 67, 68, 69, 70, 71, 72, 73, 74, 75])⟩]
def ref23_Merge_c35_r1 : List AStep := ref23_Merge_c35_r1a ++ ref23_Merge_c35_r2
def ref23_Merge_c35_r0a : List AStep := [⟨false, (some 37), none, [.tmp 3], .pure Op.move, none⟩,
  ⟨false, (some 38), none, [.tmp 9], .pure Op.move, none⟩,
  ⟨false, (some 39), none, [.tmp 37, .tmp 38], .pure (Op.indexSl 1), none⟩,
  ⟨false, (some 40), none, [.tmp 39], .read Op.load1, none⟩,
  ⟨false, (some 41), none, [.tmp 0], .pure Op.move, none⟩,
  ⟨false, (some 42), none, [.tmp 9], .pure Op.move, (some [37, 38, 39, 40, 41, 42, 43, 44, 45, 46, 47, 48, 49, 50, 51, 52, 53, 54, 55, 56, 57, 58, 59, 60, 61, 62, 63, 64, 65, 66, 67, 68, 69, 70, 71, 72, 73, 74, 75])⟩,
  ⟨false, (some 43), none, [.tmp 41, .tmp 42], .pure (Op.indexSl 1), (some [37, 38, 39, 40, 41, 42, 43, 44, 45, 46, 47, 48, 49, 50, 51, 52, 53, 54, 55, 56, 57, 58, 59, 60, 61, 62, 63, 64, 65, 66, 67, 68, 69, 70, 71, 72, 73, 74, 75])⟩,
  ⟨false, (some 44), none, [.tmp 43], .read Op.load1, (some [37, 38, 39, 40, 41, 42, 43, 44, 45, 46, 47, 48, 49, 50, 51, 52, 53, 54, 55, 56, 57, 58, 59, 60, 61, 62, 63, 64, 65, 66, 67, 68, 69, 70, 71, 72, 73, 74, 75])⟩,
  ⟨false, (some 45), none, [.tmp 44], .pure Op.lenSl, (some [37, 38, 39, 40, 41, 42, 43, 44, 45, 46, 47, 48, 49, 50, 51, 52, 53, 54, 55, 56, 57, 58, 59, 60, 61, 62, 63, 64, 65, 66, 67, 68, 69, 70, 71, 72, 73, 74, 75])⟩,
  ⟨false, (some 46), none, [.tmp 40, .tmp 45], .pure (Op.bin .lss), (some [37, 38, 39, 40, 41, 42, 43, 44, 45, 46, 47, 48, 49, 50, 51, 52, 53, 54, 55, 56, 57, 58, 59, 60, 61, 62, 63, 64, 65, 66, 67, 68, 69, 70, 71, 72, 73, 74, 75])⟩,
  ⟨false, (some 47), none, [.tmp 46], .pure Op.move, (some [37, 38, 39, 40, 41, 42, 43, 44, 45, 46, 47, 48, 49, 50, 51, 52, 53, 54, 55, 56, 57, 58, 59, 60, 61, 62, 63, 64, 65, 66, 67, 68, 69, 70, 71, 72, 73, 74, 75])⟩,
  ⟨false, (some 48), (some (47, true)), [.tmp 8], .pure Op.move, (some [37, 38, 39, 40, 41, 42, 43, 44, 45, 46, 47, 48, 49, 50, 51, 52, 53, 54, 55, 56, 57, 58, 59, 60, 61, 62, 63, 64, 65, 66, 67, 68, 69, 70, 71, 72, 73, 74, 75])⟩]
def ref23_Merge_c35_r0 : List AStep := ref23_Merge_c35_r0a ++ ref23_Merge_c35_r1
def ref23_Merge_c35 : ACode := .seq (.region ref23_Merge_c35_r0) ref23_Merge_c36
def ref23_Merge_c34 : ACode := .block 5 ref23_Merge_c35
def ref23_Merge_c38_r0 : List AStep := [⟨false, (some 35), none, [.tmp 9], .pure Op.move, (some [])⟩,
  ⟨false, (some 36), none, [.tmp 35, .const (.int .i64 1)], .pure (Op.bin .add), (some [])⟩,
  ⟨false, (some 9), none, [.tmp 36], .pure Op.move, (some [])⟩]
def ref23_Merge_c38 : ACode := .region ref23_Merge_c38_r0
def ref23_Merge_c33 : ACode := .seq ref23_Merge_c34 ref23_Merge_c38
def ref23_Merge_c30 : ACode := .seq ref23_Merge_c31 ref23_Merge_c33
def ref23_Merge_c29 : ACode := .loop none ref23_Merge_c30
def ref23_Merge_c28 : ACode := .block 4 ref23_Merge_c29
def ref23_Merge_c27_r0 : List AStep := [⟨false, (some 9), none, [.const (.int .i64 0)], .pure Op.move, (some [])⟩]
def ref23_Merge_c27 : ACode := .seq (.region ref23_Merge_c27_r0) ref23_Merge_c28
def ref23_Merge_c40_r0 : List AStep := [⟨false, (some 90), none, [.tmp 3], .pure Op.move, (some [])⟩,
  ⟨false, (some 91), none, [.tmp 8], .pure Op.move, (some [])⟩,
  ⟨false, (some 92), none, [.tmp 90, .tmp 91], .pure (Op.indexSl 1), (some [])⟩,
  ⟨false, (some 93), none, [.tmp 92], .read Op.load1, (some [])⟩,
  ⟨false, (some 94), none, [.tmp 93, .const (.int .i64 1)], .pure (Op.bin .add), (some [])⟩,
  ⟨false, (some 95), none, [.tmp 90, .tmp 91], .pure (Op.indexSl 1), (some [])⟩,
  ⟨false, none, none, [.tmp 95, .tmp 94], .eff (Op.store 1), (some [])⟩]
def ref23_Merge_c40 : ACode := .region ref23_Merge_c40_r0
def ref23_Merge_c39_r0 : List AStep := [⟨false, (some 77), none, [.tmp 6], .pure Op.move, none⟩,
  ⟨false, (some 78), none, [.tmp 0], .pure Op.move, none⟩,
  ⟨false, (some 79), none, [.tmp 8], .pure Op.move, none⟩,
  ⟨false, (some 80), none, [.tmp 78, .tmp 79], .pure (Op.indexSl 1), none⟩,
  ⟨false, (some 81), none, [.tmp 80], .read Op.load1, none⟩,
  ⟨false, (some 82), none, [.tmp 3], .pure Op.move, none⟩,
  ⟨false, (some 83), none, [.tmp 8], .pure Op.move, (some [77, 78, 79, 80, 81, 82, 83, 84, 85, 86, 87, 88, 89, 6])⟩,
  ⟨false, (some 84), none, [.tmp 82, .tmp 83], .pure (Op.indexSl 1), (some [77, 78, 79, 80, 81, 82, 83, 84, 85, 86, 87, 88, 89, 6])⟩,
  ⟨false, (some 85), none, [.tmp 84], .read Op.load1, (some [77, 78, 79, 80, 81, 82, 83, 84, 85, 86, 87, 88, 89, 6])⟩,
  ⟨false, (some 86), none, [.tmp 81, .tmp 85], .pure (Op.indexSl 9), (some [77, 78, 79, 80, 81, 82, 83, 84, 85, 86, 87, 88, 89, 6])⟩,
  ⟨false, (some 87), none, [.tmp 86], .read (Op.loadN 9), (some [77, 78, 79, 80, 81, 82, 83, 84, 85, 86, 87, 88, 89, 6])⟩,
  ⟨false, (some 88), none, [.tmp 87], .alloc (Op.buildSlice T_api_Event 1 [(.int .i64 0), (.int .i64 0), (.int .i64 0), (.int .i64 0), (.int .i64 0), (.int .i64 0), (.int .i64 0), (.int .u64 0), (.int .i64 0)] [(0, 9)]), (some [77, 78, 79, 80, 81, 82, 83, 84, 85, 86, 87, 88, 89, 6])⟩,
  ⟨false, (some 89), none, [.tmp 77, .tmp 88], .eff (Op.append T_api_Event 9 72), (some [77, 78, 79, 80, 81, 82, 83, 84, 85, 86, 87, 88, 89, 6])⟩,
  ⟨false, (some 6), none, [.tmp 89], .pure Op.move, (some [77, 78, 79, 80, 81, 82, 83, 84, 85, 86, 87, 88, 89, 6])⟩]
def ref23_Merge_c39 : ACode := .seq (.region ref23_Merge_c39_r0) ref23_Merge_c40
def ref23_Merge_c26 : ACode := .seq ref23_Merge_c27 ref23_Merge_c39
def ref23_Merge_c25_r0 : List AStep := [⟨false, (some 8), none, [.const (.int .i64 (-1))], .pure Op.move, (some [])⟩]
def ref23_Merge_c25 : ACode := .seq (.region ref23_Merge_c25_r0) ref23_Merge_c26
def ref23_Merge_c24 : ACode := .block 3 ref23_Merge_c25
def ref23_Merge_c41_r0 : List AStep := [⟨false, (some 29), none, [.tmp 7], .pure Op.move, (some [])⟩,
  ⟨false, (some 30), none, [.tmp 29, .const (.int .i64 1)], .pure (Op.bin .add), (some [])⟩,
  ⟨false, (some 7), none, [.tmp 30], .pure Op.move, (some [])⟩]
def ref23_Merge_c41 : ACode := .region ref23_Merge_c41_r0
def ref23_Merge_c23 : ACode := .seq ref23_Merge_c24 ref23_Merge_c41
def ref23_Merge_c20 : ACode := .seq ref23_Merge_c21 ref23_Merge_c23
def ref23_Merge_c19 : ACode := .loop none ref23_Merge_c20
def ref23_Merge_c18 : ACode := .block 2 ref23_Merge_c19
def ref23_Merge_c17_r0 : List AStep := [⟨false, (some 7), none, [.const (.int .i64 0)], .pure Op.move, (some [])⟩]
def ref23_Merge_c17 : ACode := .seq (.region ref23_Merge_c17_r0) ref23_Merge_c18
def ref23_Merge_c42_r0 : List AStep := [⟨false, (some 96), none, [.tmp 6], .pure Op.move, (some [])⟩,
  ⟨false, (some 2), none, [.tmp 96], .pure Op.move, (some [])⟩]
def ref23_Merge_c42 : ACode := .seq (.region ref23_Merge_c42_r0) .ret
def ref23_Merge_c16 : ACode := .seq ref23_Merge_c17 ref23_Merge_c42
def ref23_Merge_c15_r0 : List AStep := [⟨false, (some 6), none, [.const .nils], .pure Op.move, (some [])⟩]
def ref23_Merge_c15 : ACode := .seq (.region ref23_Merge_c15_r0) ref23_Merge_c16
def ref23_Merge_c4 : ACode := .seq ref23_Merge_c5 ref23_Merge_c15
def ref23_Merge_c3_r0 : List AStep := [⟨false, (some 4), none, [.const (.int .i64 0)], .pure Op.move, (some [])⟩]
def ref23_Merge_c3 : ACode := .seq (.region ref23_Merge_c3_r0) ref23_Merge_c4
def ref23_Merge_c2_r0 : List AStep := [⟨false, (some 10), none, [.tmp 0], .pure Op.move, (some [])⟩,
  ⟨false, (some 11), none, [.tmp 10], .pure Op.lenSl, (some [])⟩,
  ⟨false, (some 12), none, [.tmp 11, .tmp 11], .alloc (Op.mkSlice T_int 8 [(.int .i64 0)]), (some [])⟩,
  ⟨false, (some 3), none, [.tmp 12], .pure Op.move, (some [])⟩]
def ref23_Merge_c2 : ACode := .seq (.region ref23_Merge_c2_r0) ref23_Merge_c3
def ref23_Merge_c1_r0 : List AStep := [⟨false, (some 2), none, [.const .nils], .pure Op.move, (some [])⟩]
def ref23_Merge_c1 : ACode := .seq (.region ref23_Merge_c1_r0) ref23_Merge_c2
def ref23_Merge_F : AFunc := ⟨[.tmp 2], ref23_Merge_c1, []⟩
theorem ref23_Merge_c10_w (ctx : Ctx) (tm : T AV) (dfs : List ADef) (up : Option Chain) (H : AHeap) (Q : Post) :
    WP AP ctx ref23_Merge_c10 ⟨tm, dfs, up, H⟩ Q =
    (BI dirty (tm.get 16) fun g v => BI g (asBool v) fun g q => IG g q (fun g => GW AP g ctx .skip ⟨tm, dfs, up, H⟩ Q) (fun g => GW AP g ctx (.exit 0) ⟨tm, dfs, up, H⟩ Q)) := Gxcond AP ctx _ _ 16 .skip (.exit 0)
theorem ref23_Merge_c9_w (ctx : Ctx) (tm : T AV) (dfs : List ADef) (up : Option Chain) (H : AHeap) (Q : Post) :
    WP AP ctx ref23_Merge_c9 ⟨tm, dfs, up, H⟩ Q =
    (GS AP dirty ctx ref23_Merge_c9_r0 ⟨tm, dfs, up, H⟩ (SEQ (WP AP ctx ref23_Merge_c10) Q)) := Gxrseq AP ctx _ _ ref23_Merge_c9_r0 ref23_Merge_c10
theorem ref23_Merge_c9_r0_w (ctx : Ctx) (tm : T AV) (dfs : List ADef) (up : Option Chain) (H : AHeap) (Q : Post) :
    GS AP true ctx ref23_Merge_c9_r0 ⟨tm, dfs, up, H⟩ Q =
    (LK dirty (tm.get 5) fun g ti5 => BI g (Op.move [ti5]) fun g t13 => LK g (tm.get 0) fun g ti0 => BI g (Op.move [ti0]) fun g t14 => BI g (Op.lenSl [t14]) fun g t15 => 
    BI g ((Op.bin .lss) [t13, t15]) fun g t16 => GO g Q .normal ⟨(setsE [(16, t16), (15, t15), (14, t14), (13, t13)] tm), dfs, up, H⟩) := WPS_shallow (l := ref23_Merge_c9_r0) (by kernel_rfl)
theorem ref23_Merge_c13_w (ctx : Ctx) (tm : T AV) (dfs : List ADef) (up : Option Chain) (H : AHeap) (Q : Post) :
    WP AP ctx ref23_Merge_c13 ⟨tm, dfs, up, H⟩ Q =
    (GS AP dirty ctx ref23_Merge_c13_r0 ⟨tm, dfs, up, H⟩ Q) := Gxregion AP ctx _ _ ref23_Merge_c13_r0
theorem ref23_Merge_c13_r0_w (ctx : Ctx) (tm : T AV) (dfs : List ADef) (up : Option Chain) (H : AHeap) (Q : Post) :
    GS AP true ctx ref23_Merge_c13_r0 ⟨tm, dfs, up, H⟩ Q =
    (LK dirty (tm.get 4) fun g ti4 => BI g (Op.move [ti4]) fun g t19 => LK g (tm.get 0) fun g ti0 => BI g (Op.move [ti0]) fun g t20 => LK g (tm.get 5) fun g ti5 => BI g (Op.move [ti5]) fun g t21 => 
    BI g ((Op.indexSl 1) [t20, t21]) fun g t22 => BI g (Op.load1 [t22] H) fun g t23 => BI g (Op.lenSl [t23]) fun g t24 => 
    BI g ((Op.bin .add) [t19, t24]) fun g t25 => BI g (Op.move [t25]) fun g t4 => GO g Q .normal ⟨(setsE [(4, t4), (25, t25), (24, t24), (23, t23), (22, t22), (21, t21), (20, t20), (19, t19)] tm), dfs, up, H⟩) := WPS_shallow (l := ref23_Merge_c13_r0) (by kernel_rfl)
theorem ref23_Merge_c12_w (ctx : Ctx) (tm : T AV) (dfs : List ADef) (up : Option Chain) (H : AHeap) (Q : Post) :
    WP AP ctx ref23_Merge_c12 ⟨tm, dfs, up, H⟩ Q =
    (WP AP ctx ref23_Merge_c13 ⟨tm, dfs, up, H⟩ (BLK 1 Q)) := WP_block AP ctx _ _ 1 ref23_Merge_c13
theorem ref23_Merge_c14_w (ctx : Ctx) (tm : T AV) (dfs : List ADef) (up : Option Chain) (H : AHeap) (Q : Post) :
    WP AP ctx ref23_Merge_c14 ⟨tm, dfs, up, H⟩ Q =
    (GS AP dirty ctx ref23_Merge_c14_r0 ⟨tm, dfs, up, H⟩ Q) := Gxregion AP ctx _ _ ref23_Merge_c14_r0
theorem ref23_Merge_c14_r0_w (ctx : Ctx) (tm : T AV) (dfs : List ADef) (up : Option Chain) (H : AHeap) (Q : Post) :
    GS AP true ctx ref23_Merge_c14_r0 ⟨tm, dfs, up, H⟩ Q =
    (LK dirty (tm.get 5) fun g ti5 => BI g (Op.move [ti5]) fun g t17 => BI g ((Op.bin .add) [t17, (.int .i64 1)]) fun g t18 => BI g (Op.move [t18]) fun g t5 => 
    GO g Q .normal ⟨(setsE [(5, t5), (18, t18), (17, t17)] tm), dfs, up, H⟩) := WPS_shallow (l := ref23_Merge_c14_r0) (by kernel_rfl)
theorem ref23_Merge_c11_w (ctx : Ctx) (tm : T AV) (dfs : List ADef) (up : Option Chain) (H : AHeap) (Q : Post) :
    WP AP ctx ref23_Merge_c11 ⟨tm, dfs, up, H⟩ Q =
    (WP AP ctx ref23_Merge_c12 ⟨tm, dfs, up, H⟩ (SEQ (WP AP ctx ref23_Merge_c14) Q)) := WP_seq AP ctx _ _ ref23_Merge_c12 ref23_Merge_c14
theorem ref23_Merge_c8_w (ctx : Ctx) (tm : T AV) (dfs : List ADef) (up : Option Chain) (H : AHeap) (Q : Post) :
    WP AP ctx ref23_Merge_c8 ⟨tm, dfs, up, H⟩ Q =
    (WP AP ctx ref23_Merge_c9 ⟨tm, dfs, up, H⟩ (SEQ (WP AP ctx ref23_Merge_c11) Q)) := WP_seq AP ctx _ _ ref23_Merge_c9 ref23_Merge_c11
theorem ref23_Merge_c7_w (ctx : Ctx) (tm : T AV) (dfs : List ADef) (up : Option Chain) (H : AHeap) (Q : Post) :
    WP AP ctx ref23_Merge_c7 ⟨tm, dfs, up, H⟩ Q =
    (LOOP (WP AP ctx ref23_Merge_c8) none ⟨tm, dfs, up, H⟩ Q) := WP_loop AP ctx _ _ none ref23_Merge_c8
theorem ref23_Merge_c6_w (ctx : Ctx) (tm : T AV) (dfs : List ADef) (up : Option Chain) (H : AHeap) (Q : Post) :
    WP AP ctx ref23_Merge_c6 ⟨tm, dfs, up, H⟩ Q =
    (WP AP ctx ref23_Merge_c7 ⟨tm, dfs, up, H⟩ (BLK 0 Q)) := WP_block AP ctx _ _ 0 ref23_Merge_c7
theorem ref23_Merge_c5_w (ctx : Ctx) (tm : T AV) (dfs : List ADef) (up : Option Chain) (H : AHeap) (Q : Post) :
    WP AP ctx ref23_Merge_c5 ⟨tm, dfs, up, H⟩ Q =
    (GS AP dirty ctx ref23_Merge_c5_r0 ⟨tm, dfs, up, H⟩ (SEQ (WP AP ctx ref23_Merge_c6) Q)) := Gxrseq AP ctx _ _ ref23_Merge_c5_r0 ref23_Merge_c6
theorem ref23_Merge_c5_r0_w (ctx : Ctx) (tm : T AV) (dfs : List ADef) (up : Option Chain) (H : AHeap) (Q : Post) :
    GS AP true ctx ref23_Merge_c5_r0 ⟨tm, dfs, up, H⟩ Q =
    (BI dirty (Op.move [(.int .i64 0)]) fun g t5 => GO g Q .normal ⟨(setsE [(5, t5)] tm), dfs, up, H⟩) := WPS_shallow (l := ref23_Merge_c5_r0) (by kernel_rfl)
theorem ref23_Merge_c22_w (ctx : Ctx) (tm : T AV) (dfs : List ADef) (up : Option Chain) (H : AHeap) (Q : Post) :
    WP AP ctx ref23_Merge_c22 ⟨tm, dfs, up, H⟩ Q =
    (BI dirty (tm.get 28) fun g v => BI g (asBool v) fun g q => IG g q (fun g => GW AP g ctx .skip ⟨tm, dfs, up, H⟩ Q) (fun g => GW AP g ctx (.exit 2) ⟨tm, dfs, up, H⟩ Q)) := Gxcond AP ctx _ _ 28 .skip (.exit 2)
theorem ref23_Merge_c21_w (ctx : Ctx) (tm : T AV) (dfs : List ADef) (up : Option Chain) (H : AHeap) (Q : Post) :
    WP AP ctx ref23_Merge_c21 ⟨tm, dfs, up, H⟩ Q =
    (GS AP dirty ctx ref23_Merge_c21_r0 ⟨tm, dfs, up, H⟩ (SEQ (WP AP ctx ref23_Merge_c22) Q)) := Gxrseq AP ctx _ _ ref23_Merge_c21_r0 ref23_Merge_c22
theorem ref23_Merge_c21_r0_w (ctx : Ctx) (tm : T AV) (dfs : List ADef) (up : Option Chain) (H : AHeap) (Q : Post) :
    GS AP true ctx ref23_Merge_c21_r0 ⟨tm, dfs, up, H⟩ Q =
    (LK dirty (tm.get 7) fun g ti7 => BI g (Op.move [ti7]) fun g t26 => LK g (tm.get 4) fun g ti4 => BI g (Op.move [ti4]) fun g t27 => BI g ((Op.bin .lss) [t26, t27]) fun g t28 => 
    GO g Q .normal ⟨(setsE [(28, t28), (27, t27), (26, t26)] tm), dfs, up, H⟩) := WPS_shallow (l := ref23_Merge_c21_r0) (by kernel_rfl)
theorem ref23_Merge_c32_w (ctx : Ctx) (tm : T AV) (dfs : List ADef) (up : Option Chain) (H : AHeap) (Q : Post) :
    WP AP ctx ref23_Merge_c32 ⟨tm, dfs, up, H⟩ Q =
    (BI dirty (tm.get 34) fun g v => BI g (asBool v) fun g q => IG g q (fun g => GW AP g ctx .skip ⟨tm, dfs, up, H⟩ Q) (fun g => GW AP g ctx (.exit 4) ⟨tm, dfs, up, H⟩ Q)) := Gxcond AP ctx _ _ 34 .skip (.exit 4)
theorem ref23_Merge_c31_w (ctx : Ctx) (tm : T AV) (dfs : List ADef) (up : Option Chain) (H : AHeap) (Q : Post) :
    WP AP ctx ref23_Merge_c31 ⟨tm, dfs, up, H⟩ Q =
    (GS AP dirty ctx ref23_Merge_c31_r0 ⟨tm, dfs, up, H⟩ (SEQ (WP AP ctx ref23_Merge_c32) Q)) := Gxrseq AP ctx _ _ ref23_Merge_c31_r0 ref23_Merge_c32
theorem ref23_Merge_c31_r0_w (ctx : Ctx) (tm : T AV) (dfs : List ADef) (up : Option Chain) (H : AHeap) (Q : Post) :
    GS AP true ctx ref23_Merge_c31_r0 ⟨tm, dfs, up, H⟩ Q =
    (LK dirty (tm.get 9) fun g ti9 => BI g (Op.move [ti9]) fun g t31 => LK g (tm.get 0) fun g ti0 => BI g (Op.move [ti0]) fun g t32 => BI g (Op.lenSl [t32]) fun g t33 => 
    BI g ((Op.bin .lss) [t31, t33]) fun g t34 => GO g Q .normal ⟨(setsE [(34, t34), (33, t33), (32, t32), (31, t31)] tm), dfs, up, H⟩) := WPS_shallow (l := ref23_Merge_c31_r0) (by kernel_rfl)
theorem ref23_Merge_c37_w (ctx : Ctx) (tm : T AV) (dfs : List ADef) (up : Option Chain) (H : AHeap) (Q : Post) :
    WP AP ctx ref23_Merge_c37 ⟨tm, dfs, up, H⟩ Q =
    (GS AP dirty ctx ref23_Merge_c37_r0 ⟨tm, dfs, up, H⟩ Q) := Gxregion AP ctx _ _ ref23_Merge_c37_r0
theorem ref23_Merge_c37_r0_w (ctx : Ctx) (tm : T AV) (dfs : List ADef) (up : Option Chain) (H : AHeap) (Q : Post) :
    GS AP true ctx ref23_Merge_c37_r0 ⟨tm, dfs, up, H⟩ Q =
    (LK dirty (tm.get 9) fun g ti9 => BI g (Op.move [ti9]) fun g t76 => BI g (Op.move [t76]) fun g t8 => GO g Q .normal ⟨(setsE [(8, t8), (76, t76)] tm), dfs, up, H⟩) := WPS_shallow (l := ref23_Merge_c37_r0) (by kernel_rfl)
theorem ref23_Merge_c36_w (ctx : Ctx) (tm : T AV) (dfs : List ADef) (up : Option Chain) (H : AHeap) (Q : Post) :
    WP AP ctx ref23_Merge_c36 ⟨tm, dfs, up, H⟩ Q =
    (BI dirty (tm.get 75) fun g v => BI g (asBool v) fun g q => IG g q (fun g => GW AP g ctx ref23_Merge_c37 ⟨tm, dfs, up, H⟩ Q) (fun g => GW AP g ctx .skip ⟨tm, dfs, up, H⟩ Q)) := Gxcond AP ctx _ _ 75 ref23_Merge_c37 .skip
theorem ref23_Merge_c35_w (ctx : Ctx) (tm : T AV) (dfs : List ADef) (up : Option Chain) (H : AHeap) (Q : Post) :
    WP AP ctx ref23_Merge_c35 ⟨tm, dfs, up, H⟩ Q =
    (GS AP dirty ctx ref23_Merge_c35_r0 ⟨tm, dfs, up, H⟩ (SEQ (WP AP ctx ref23_Merge_c36) Q)) := Gxrseq AP ctx _ _ ref23_Merge_c35_r0 ref23_Merge_c36
theorem ref23_Merge_c35_r0_w (ctx : Ctx) (tm : T AV) (dfs : List ADef) (up : Option Chain) (H : AHeap) (Q : Post) :
    GS AP true ctx ref23_Merge_c35_r0 ⟨tm, dfs, up, H⟩ Q =
    (LK dirty (tm.get 3) fun g ti3 => BI g (Op.move [ti3]) fun g t37 => LK g (tm.get 9) fun g ti9 => BI g (Op.move [ti9]) fun g t38 => BI g ((Op.indexSl 1) [t37, t38]) fun g t39 => 
    BI g (Op.load1 [t39] H) fun g t40 => LK g (tm.get 0) fun g ti0 => BI g (Op.move [ti0]) fun g t41 => LK g (tm.get 9) fun g ti9_1 => BI g (Op.move [ti9_1]) fun g t42 => 
    BI g ((Op.indexSl 1) [t41, t42]) fun g t43 => BI g (Op.load1 [t43] H) fun g t44 => BI g (Op.lenSl [t44]) fun g t45 => 
    BI g ((Op.bin .lss) [t40, t45]) fun g t46 => BI g (Op.move [t46]) fun g t47 => BI g (wantV true (some t47)) fun g w => IG g w (fun g => LK g (tm.get 8) fun g ti8 => BI g (Op.move [ti8]) fun g t48 => 
    GS AP g ctx ref23_Merge_c35_r1 ⟨(setsE [(48, t48), (47, t47), (46, t46), (45, t45), (44, t44), (43, t43), (42, t42), (41, t41), (40, t40), (39, t39), (38, t38), (37, t37)] tm), dfs, up, H⟩ Q) (fun g => GS AP g ctx ref23_Merge_c35_r1 ⟨(setsE [(48, .undef), (47, t47), (46, t46), (45, t45), (44, t44), (43, t43), (42, t42), (41, t41), (40, t40), (39, t39), (38, t38), (37, t37)] tm), dfs, up, H⟩ Q)) := WPS_part (l := ref23_Merge_c35_r0a) (tail := ref23_Merge_c35_r1) (by kernel_rfl)
theorem ref23_Merge_c35_r1_w (ctx : Ctx) (tm : T AV) (dfs : List ADef) (up : Option Chain) (H : AHeap) (Q : Post) :
    GS AP true ctx ref23_Merge_c35_r1 ⟨tm, dfs, up, H⟩ Q =
    (BI dirty (wantV true (tm.get 47)) fun g w => IG g w (fun g => LK g (tm.get 48) fun g ti48 => BI g ((Op.bin .lss) [ti48, (.int .i64 0)]) fun g t49 => GS AP g ctx ref23_Merge_c35_r2 ⟨(setsE [(49, t49)] tm), dfs, up, H⟩ Q) (fun g => GS AP g ctx ref23_Merge_c35_r2 ⟨(setsE [(49, .undef)] tm), dfs, up, H⟩ Q)) := WPS_part (l := ref23_Merge_c35_r1a) (tail := ref23_Merge_c35_r2) (by kernel_rfl)
theorem ref23_Merge_c35_r2_w (ctx : Ctx) (tm : T AV) (dfs : List ADef) (up : Option Chain) (H : AHeap) (Q : Post) :
    GS AP true ctx ref23_Merge_c35_r2 ⟨tm, dfs, up, H⟩ Q =
    (BI dirty (wantV true (tm.get 47)) fun g w => IG g w (fun g => LK g (tm.get 49) fun g ti49 => BI g (Op.move [ti49]) fun g t50 => GS AP g ctx ref23_Merge_c35_r3 ⟨(setsE [(50, t50)] tm), dfs, up, H⟩ Q) (fun g => GS AP g ctx ref23_Merge_c35_r3 ⟨(setsE [(50, .undef)] tm), dfs, up, H⟩ Q)) := WPS_part (l := ref23_Merge_c35_r2a) (tail := ref23_Merge_c35_r3) (by kernel_rfl)
theorem ref23_Merge_c35_r3_w (ctx : Ctx) (tm : T AV) (dfs : List ADef) (up : Option Chain) (H : AHeap) (Q : Post) :
    GS AP true ctx ref23_Merge_c35_r3 ⟨tm, dfs, up, H⟩ Q =
    (BI dirty (wantV false (tm.get 50)) fun g w => IG g w (fun g => LK g (tm.get 0) fun g ti0 => BI g (Op.move [ti0]) fun g t51 => GS AP g ctx ref23_Merge_c35_r4 ⟨(setsE [(51, t51)] tm), dfs, up, H⟩ Q) (fun g => GS AP g ctx ref23_Merge_c35_r4 ⟨(setsE [(51, .undef)] tm), dfs, up, H⟩ Q)) := WPS_part (l := ref23_Merge_c35_r3a) (tail := ref23_Merge_c35_r4) (by kernel_rfl)
theorem ref23_Merge_c35_r4_w (ctx : Ctx) (tm : T AV) (dfs : List ADef) (up : Option Chain) (H : AHeap) (Q : Post) :
    GS AP true ctx ref23_Merge_c35_r4 ⟨tm, dfs, up, H⟩ Q =
    (BI dirty (wantV false (tm.get 50)) fun g w => IG g w (fun g => LK g (tm.get 9) fun g ti9 => BI g (Op.move [ti9]) fun g t52 => GS AP g ctx ref23_Merge_c35_r5 ⟨(setsE [(52, t52)] tm), dfs, up, H⟩ Q) (fun g => GS AP g ctx ref23_Merge_c35_r5 ⟨(setsE [(52, .undef)] tm), dfs, up, H⟩ Q)) := WPS_part (l := ref23_Merge_c35_r4a) (tail := ref23_Merge_c35_r5) (by kernel_rfl)
theorem ref23_Merge_c35_r5_w (ctx : Ctx) (tm : T AV) (dfs : List ADef) (up : Option Chain) (H : AHeap) (Q : Post) :
    GS AP true ctx ref23_Merge_c35_r5 ⟨tm, dfs, up, H⟩ Q =
    (BI dirty (wantV false (tm.get 50)) fun g w => IG g w (fun g => LK g (tm.get 51) fun g ti51 => LK g (tm.get 52) fun g ti52 => BI g ((Op.indexSl 1) [ti51, ti52]) fun g t53 => GS AP g ctx ref23_Merge_c35_r6 ⟨(setsE [(53, t53)] tm), dfs, up, H⟩ Q) (fun g => GS AP g ctx ref23_Merge_c35_r6 ⟨(setsE [(53, .undef)] tm), dfs, up, H⟩ Q)) := WPS_part (l := ref23_Merge_c35_r5a) (tail := ref23_Merge_c35_r6) (by kernel_rfl)
theorem ref23_Merge_c35_r6_w (ctx : Ctx) (tm : T AV) (dfs : List ADef) (up : Option Chain) (H : AHeap) (Q : Post) :
    GS AP true ctx ref23_Merge_c35_r6 ⟨tm, dfs, up, H⟩ Q =
    (BI dirty (wantV false (tm.get 50)) fun g w => IG g w (fun g => LK g (tm.get 53) fun g ti53 => BI g (Op.load1 [ti53] H) fun g t54 => GS AP g ctx ref23_Merge_c35_r7 ⟨(setsE [(54, t54)] tm), dfs, up, H⟩ Q) (fun g => GS AP g ctx ref23_Merge_c35_r7 ⟨(setsE [(54, .undef)] tm), dfs, up, H⟩ Q)) := WPS_part (l := ref23_Merge_c35_r6a) (tail := ref23_Merge_c35_r7) (by kernel_rfl)
theorem ref23_Merge_c35_r7_w (ctx : Ctx) (tm : T AV) (dfs : List ADef) (up : Option Chain) (H : AHeap) (Q : Post) :
    GS AP true ctx ref23_Merge_c35_r7 ⟨tm, dfs, up, H⟩ Q =
    (BI dirty (wantV false (tm.get 50)) fun g w => IG g w (fun g => LK g (tm.get 3) fun g ti3 => BI g (Op.move [ti3]) fun g t55 => GS AP g ctx ref23_Merge_c35_r8 ⟨(setsE [(55, t55)] tm), dfs, up, H⟩ Q) (fun g => GS AP g ctx ref23_Merge_c35_r8 ⟨(setsE [(55, .undef)] tm), dfs, up, H⟩ Q)) := WPS_part (l := ref23_Merge_c35_r7a) (tail := ref23_Merge_c35_r8) (by kernel_rfl)
theorem ref23_Merge_c35_r8_w (ctx : Ctx) (tm : T AV) (dfs : List ADef) (up : Option Chain) (H : AHeap) (Q : Post) :
    GS AP true ctx ref23_Merge_c35_r8 ⟨tm, dfs, up, H⟩ Q =
    (BI dirty (wantV false (tm.get 50)) fun g w => IG g w (fun g => LK g (tm.get 9) fun g ti9 => BI g (Op.move [ti9]) fun g t56 => GS AP g ctx ref23_Merge_c35_r9 ⟨(setsE [(56, t56)] tm), dfs, up, H⟩ Q) (fun g => GS AP g ctx ref23_Merge_c35_r9 ⟨(setsE [(56, .undef)] tm), dfs, up, H⟩ Q)) := WPS_part (l := ref23_Merge_c35_r8a) (tail := ref23_Merge_c35_r9) (by kernel_rfl)
theorem ref23_Merge_c35_r9_w (ctx : Ctx) (tm : T AV) (dfs : List ADef) (up : Option Chain) (H : AHeap) (Q : Post) :
    GS AP true ctx ref23_Merge_c35_r9 ⟨tm, dfs, up, H⟩ Q =
    (BI dirty (wantV false (tm.get 50)) fun g w => IG g w (fun g => LK g (tm.get 55) fun g ti55 => LK g (tm.get 56) fun g ti56 => BI g ((Op.indexSl 1) [ti55, ti56]) fun g t57 => GS AP g ctx ref23_Merge_c35_r10 ⟨(setsE [(57, t57)] tm), dfs, up, H⟩ Q) (fun g => GS AP g ctx ref23_Merge_c35_r10 ⟨(setsE [(57, .undef)] tm), dfs, up, H⟩ Q)) := WPS_part (l := ref23_Merge_c35_r9a) (tail := ref23_Merge_c35_r10) (by kernel_rfl)
theorem ref23_Merge_c35_r10_w (ctx : Ctx) (tm : T AV) (dfs : List ADef) (up : Option Chain) (H : AHeap) (Q : Post) :
    GS AP true ctx ref23_Merge_c35_r10 ⟨tm, dfs, up, H⟩ Q =
    (BI dirty (wantV false (tm.get 50)) fun g w => IG g w (fun g => LK g (tm.get 57) fun g ti57 => BI g (Op.load1 [ti57] H) fun g t58 => GS AP g ctx ref23_Merge_c35_r11 ⟨(setsE [(58, t58)] tm), dfs, up, H⟩ Q) (fun g => GS AP g ctx ref23_Merge_c35_r11 ⟨(setsE [(58, .undef)] tm), dfs, up, H⟩ Q)) := WPS_part (l := ref23_Merge_c35_r10a) (tail := ref23_Merge_c35_r11) (by kernel_rfl)
theorem ref23_Merge_c35_r11_w (ctx : Ctx) (tm : T AV) (dfs : List ADef) (up : Option Chain) (H : AHeap) (Q : Post) :
    GS AP true ctx ref23_Merge_c35_r11 ⟨tm, dfs, up, H⟩ Q =
    (BI dirty (wantV false (tm.get 50)) fun g w => IG g w (fun g => LK g (tm.get 54) fun g ti54 => LK g (tm.get 58) fun g ti58 => BI g ((Op.indexSl 9) [ti54, ti58]) fun g t59 => GS AP g ctx ref23_Merge_c35_r12 ⟨(setsE [(59, t59)] tm), dfs, up, H⟩ Q) (fun g => GS AP g ctx ref23_Merge_c35_r12 ⟨(setsE [(59, .undef)] tm), dfs, up, H⟩ Q)) := WPS_part (l := ref23_Merge_c35_r11a) (tail := ref23_Merge_c35_r12) (by kernel_rfl)
theorem ref23_Merge_c35_r12_w (ctx : Ctx) (tm : T AV) (dfs : List ADef) (up : Option Chain) (H : AHeap) (Q : Post) :
    GS AP true ctx ref23_Merge_c35_r12 ⟨tm, dfs, up, H⟩ Q =
    (BI dirty (wantV false (tm.get 50)) fun g w => IG g w (fun g => LK g (tm.get 59) fun g ti59 => BI g ((Op.fieldAddr 1) [ti59]) fun g t60 => GS AP g ctx ref23_Merge_c35_r13 ⟨(setsE [(60, t60)] tm), dfs, up, H⟩ Q) (fun g => GS AP g ctx ref23_Merge_c35_r13 ⟨(setsE [(60, .undef)] tm), dfs, up, H⟩ Q)) := WPS_part (l := ref23_Merge_c35_r12a) (tail := ref23_Merge_c35_r13) (by kernel_rfl)
theorem ref23_Merge_c35_r13_w (ctx : Ctx) (tm : T AV) (dfs : List ADef) (up : Option Chain) (H : AHeap) (Q : Post) :
    GS AP true ctx ref23_Merge_c35_r13 ⟨tm, dfs, up, H⟩ Q =
    (BI dirty (wantV false (tm.get 50)) fun g w => IG g w (fun g => LK g (tm.get 60) fun g ti60 => BI g (Op.load1 [ti60] H) fun g t61 => GS AP g ctx ref23_Merge_c35_r14 ⟨(setsE [(61, t61)] tm), dfs, up, H⟩ Q) (fun g => GS AP g ctx ref23_Merge_c35_r14 ⟨(setsE [(61, .undef)] tm), dfs, up, H⟩ Q)) := WPS_part (l := ref23_Merge_c35_r13a) (tail := ref23_Merge_c35_r14) (by kernel_rfl)
theorem ref23_Merge_c35_r14_w (ctx : Ctx) (tm : T AV) (dfs : List ADef) (up : Option Chain) (H : AHeap) (Q : Post) :
    GS AP true ctx ref23_Merge_c35_r14 ⟨tm, dfs, up, H⟩ Q =
    (BI dirty (wantV false (tm.get 50)) fun g w => IG g w (fun g => LK g (tm.get 0) fun g ti0 => BI g (Op.move [ti0]) fun g t62 => GS AP g ctx ref23_Merge_c35_r15 ⟨(setsE [(62, t62)] tm), dfs, up, H⟩ Q) (fun g => GS AP g ctx ref23_Merge_c35_r15 ⟨(setsE [(62, .undef)] tm), dfs, up, H⟩ Q)) := WPS_part (l := ref23_Merge_c35_r14a) (tail := ref23_Merge_c35_r15) (by kernel_rfl)
theorem ref23_Merge_c35_r15_w (ctx : Ctx) (tm : T AV) (dfs : List ADef) (up : Option Chain) (H : AHeap) (Q : Post) :
    GS AP true ctx ref23_Merge_c35_r15 ⟨tm, dfs, up, H⟩ Q =
    (BI dirty (wantV false (tm.get 50)) fun g w => IG g w (fun g => LK g (tm.get 8) fun g ti8 => BI g (Op.move [ti8]) fun g t63 => GS AP g ctx ref23_Merge_c35_r16 ⟨(setsE [(63, t63)] tm), dfs, up, H⟩ Q) (fun g => GS AP g ctx ref23_Merge_c35_r16 ⟨(setsE [(63, .undef)] tm), dfs, up, H⟩ Q)) := WPS_part (l := ref23_Merge_c35_r15a) (tail := ref23_Merge_c35_r16) (by kernel_rfl)
theorem ref23_Merge_c35_r16_w (ctx : Ctx) (tm : T AV) (dfs : List ADef) (up : Option Chain) (H : AHeap) (Q : Post) :
    GS AP true ctx ref23_Merge_c35_r16 ⟨tm, dfs, up, H⟩ Q =
    (BI dirty (wantV false (tm.get 50)) fun g w => IG g w (fun g => LK g (tm.get 62) fun g ti62 => LK g (tm.get 63) fun g ti63 => BI g ((Op.indexSl 1) [ti62, ti63]) fun g t64 => GS AP g ctx ref23_Merge_c35_r17 ⟨(setsE [(64, t64)] tm), dfs, up, H⟩ Q) (fun g => GS AP g ctx ref23_Merge_c35_r17 ⟨(setsE [(64, .undef)] tm), dfs, up, H⟩ Q)) := WPS_part (l := ref23_Merge_c35_r16a) (tail := ref23_Merge_c35_r17) (by kernel_rfl)
theorem ref23_Merge_c35_r17_w (ctx : Ctx) (tm : T AV) (dfs : List ADef) (up : Option Chain) (H : AHeap) (Q : Post) :
    GS AP true ctx ref23_Merge_c35_r17 ⟨tm, dfs, up, H⟩ Q =
    (BI dirty (wantV false (tm.get 50)) fun g w => IG g w (fun g => LK g (tm.get 64) fun g ti64 => BI g (Op.load1 [ti64] H) fun g t65 => GS AP g ctx ref23_Merge_c35_r18 ⟨(setsE [(65, t65)] tm), dfs, up, H⟩ Q) (fun g => GS AP g ctx ref23_Merge_c35_r18 ⟨(setsE [(65, .undef)] tm), dfs, up, H⟩ Q)) := WPS_part (l := ref23_Merge_c35_r17a) (tail := ref23_Merge_c35_r18) (by kernel_rfl)
theorem ref23_Merge_c35_r18_w (ctx : Ctx) (tm : T AV) (dfs : List ADef) (up : Option Chain) (H : AHeap) (Q : Post) :
    GS AP true ctx ref23_Merge_c35_r18 ⟨tm, dfs, up, H⟩ Q =
    (BI dirty (wantV false (tm.get 50)) fun g w => IG g w (fun g => LK g (tm.get 3) fun g ti3 => BI g (Op.move [ti3]) fun g t66 => GS AP g ctx ref23_Merge_c35_r19 ⟨(setsE [(66, t66)] tm), dfs, up, H⟩ Q) (fun g => GS AP g ctx ref23_Merge_c35_r19 ⟨(setsE [(66, .undef)] tm), dfs, up, H⟩ Q)) := WPS_part (l := ref23_Merge_c35_r18a) (tail := ref23_Merge_c35_r19) (by kernel_rfl)
theorem ref23_Merge_c35_r19_w (ctx : Ctx) (tm : T AV) (dfs : List ADef) (up : Option Chain) (H : AHeap) (Q : Post) :
    GS AP true ctx ref23_Merge_c35_r19 ⟨tm, dfs, up, H⟩ Q =
    (BI dirty (wantV false (tm.get 50)) fun g w => IG g w (fun g => LK g (tm.get 8) fun g ti8 => BI g (Op.move [ti8]) fun g t67 => GS AP g ctx ref23_Merge_c35_r20 ⟨(setsE [(67, t67)] tm), dfs, up, H⟩ Q) (fun g => GS AP g ctx ref23_Merge_c35_r20 ⟨(setsE [(67, .undef)] tm), dfs, up, H⟩ Q)) := WPS_part (l := ref23_Merge_c35_r19a) (tail := ref23_Merge_c35_r20) (by kernel_rfl)
theorem ref23_Merge_c35_r20_w (ctx : Ctx) (tm : T AV) (dfs : List ADef) (up : Option Chain) (H : AHeap) (Q : Post) :
    GS AP true ctx ref23_Merge_c35_r20 ⟨tm, dfs, up, H⟩ Q =
    (BI dirty (wantV false (tm.get 50)) fun g w => IG g w (fun g => LK g (tm.get 66) fun g ti66 => LK g (tm.get 67) fun g ti67 => BI g ((Op.indexSl 1) [ti66, ti67]) fun g t68 => GS AP g ctx ref23_Merge_c35_r21 ⟨(setsE [(68, t68)] tm), dfs, up, H⟩ Q) (fun g => GS AP g ctx ref23_Merge_c35_r21 ⟨(setsE [(68, .undef)] tm), dfs, up, H⟩ Q)) := WPS_part (l := ref23_Merge_c35_r20a) (tail := ref23_Merge_c35_r21) (by kernel_rfl)
theorem ref23_Merge_c35_r21_w (ctx : Ctx) (tm : T AV) (dfs : List ADef) (up : Option Chain) (H : AHeap) (Q : Post) :
    GS AP true ctx ref23_Merge_c35_r21 ⟨tm, dfs, up, H⟩ Q =
    (BI dirty (wantV false (tm.get 50)) fun g w => IG g w (fun g => LK g (tm.get 68) fun g ti68 => BI g (Op.load1 [ti68] H) fun g t69 => GS AP g ctx ref23_Merge_c35_r22 ⟨(setsE [(69, t69)] tm), dfs, up, H⟩ Q) (fun g => GS AP g ctx ref23_Merge_c35_r22 ⟨(setsE [(69, .undef)] tm), dfs, up, H⟩ Q)) := WPS_part (l := ref23_Merge_c35_r21a) (tail := ref23_Merge_c35_r22) (by kernel_rfl)
theorem ref23_Merge_c35_r22_w (ctx : Ctx) (tm : T AV) (dfs : List ADef) (up : Option Chain) (H : AHeap) (Q : Post) :
    GS AP true ctx ref23_Merge_c35_r22 ⟨tm, dfs, up, H⟩ Q =
    (BI dirty (wantV false (tm.get 50)) fun g w => IG g w (fun g => LK g (tm.get 65) fun g ti65 => LK g (tm.get 69) fun g ti69 => BI g ((Op.indexSl 9) [ti65, ti69]) fun g t70 => GS AP g ctx ref23_Merge_c35_r23 ⟨(setsE [(70, t70)] tm), dfs, up, H⟩ Q) (fun g => GS AP g ctx ref23_Merge_c35_r23 ⟨(setsE [(70, .undef)] tm), dfs, up, H⟩ Q)) := WPS_part (l := ref23_Merge_c35_r22a) (tail := ref23_Merge_c35_r23) (by kernel_rfl)
theorem ref23_Merge_c35_r23_w (ctx : Ctx) (tm : T AV) (dfs : List ADef) (up : Option Chain) (H : AHeap) (Q : Post) :
    GS AP true ctx ref23_Merge_c35_r23 ⟨tm, dfs, up, H⟩ Q =
    (BI dirty (wantV false (tm.get 50)) fun g w => IG g w (fun g => LK g (tm.get 70) fun g ti70 => BI g ((Op.fieldAddr 1) [ti70]) fun g t71 => GS AP g ctx ref23_Merge_c35_r24 ⟨(setsE [(71, t71)] tm), dfs, up, H⟩ Q) (fun g => GS AP g ctx ref23_Merge_c35_r24 ⟨(setsE [(71, .undef)] tm), dfs, up, H⟩ Q)) := WPS_part (l := ref23_Merge_c35_r23a) (tail := ref23_Merge_c35_r24) (by kernel_rfl)
theorem ref23_Merge_c35_r24_w (ctx : Ctx) (tm : T AV) (dfs : List ADef) (up : Option Chain) (H : AHeap) (Q : Post) :
    GS AP true ctx ref23_Merge_c35_r24 ⟨tm, dfs, up, H⟩ Q =
    (BI dirty (wantV false (tm.get 50)) fun g w => IG g w (fun g => LK g (tm.get 71) fun g ti71 => BI g (Op.load1 [ti71] H) fun g t72 => GS AP g ctx ref23_Merge_c35_r25 ⟨(setsE [(72, t72)] tm), dfs, up, H⟩ Q) (fun g => GS AP g ctx ref23_Merge_c35_r25 ⟨(setsE [(72, .undef)] tm), dfs, up, H⟩ Q)) := WPS_part (l := ref23_Merge_c35_r24a) (tail := ref23_Merge_c35_r25) (by kernel_rfl)
theorem ref23_Merge_c35_r25_w (ctx : Ctx) (tm : T AV) (dfs : List ADef) (up : Option Chain) (H : AHeap) (Q : Post) :
    GS AP true ctx ref23_Merge_c35_r25 ⟨tm, dfs, up, H⟩ Q =
    (BI dirty (wantV false (tm.get 50)) fun g w => IG g w (fun g => LK g (tm.get 61) fun g ti61 => LK g (tm.get 72) fun g ti72 => BI g ((Op.bin .lss) [ti61, ti72]) fun g t73 => GS AP g ctx ref23_Merge_c35_r26 ⟨(setsE [(73, t73)] tm), dfs, up, H⟩ Q) (fun g => GS AP g ctx ref23_Merge_c35_r26 ⟨(setsE [(73, .undef)] tm), dfs, up, H⟩ Q)) := WPS_part (l := ref23_Merge_c35_r25a) (tail := ref23_Merge_c35_r26) (by kernel_rfl)
theorem ref23_Merge_c35_r26_w (ctx : Ctx) (tm : T AV) (dfs : List ADef) (up : Option Chain) (H : AHeap) (Q : Post) :
    GS AP true ctx ref23_Merge_c35_r26 ⟨tm, dfs, up, H⟩ Q =
    (BI dirty (wantV true (tm.get 47)) fun g w => IG g w (fun g => LK g (tm.get 50) fun g ti50 => LK g (tm.get 73) fun g ti73 => BI g (Op.pick [ti50, (.bool true), ti73]) fun g t74 => GS AP g ctx ref23_Merge_c35_r27 ⟨(setsE [(74, t74)] tm), dfs, up, H⟩ Q) (fun g => GS AP g ctx ref23_Merge_c35_r27 ⟨(setsE [(74, .undef)] tm), dfs, up, H⟩ Q)) := WPS_part (l := ref23_Merge_c35_r26a) (tail := ref23_Merge_c35_r27) (by kernel_rfl)
theorem ref23_Merge_c35_r27_w (ctx : Ctx) (tm : T AV) (dfs : List ADef) (up : Option Chain) (H : AHeap) (Q : Post) :
    GS AP true ctx ref23_Merge_c35_r27 ⟨tm, dfs, up, H⟩ Q =
    (LK dirty (tm.get 47) fun g ti47 => LK g (tm.get 74) fun g ti74 => BI g (Op.pick [ti47, ti74, (.bool false)]) fun g t75 => GO g Q .normal ⟨(setsE [(75, t75)] tm), dfs, up, H⟩) := WPS_shallow (l := ref23_Merge_c35_r27) (by kernel_rfl)
theorem ref23_Merge_c34_w (ctx : Ctx) (tm : T AV) (dfs : List ADef) (up : Option Chain) (H : AHeap) (Q : Post) :
    WP AP ctx ref23_Merge_c34 ⟨tm, dfs, up, H⟩ Q =
    (WP AP ctx ref23_Merge_c35 ⟨tm, dfs, up, H⟩ (BLK 5 Q)) := WP_block AP ctx _ _ 5 ref23_Merge_c35
theorem ref23_Merge_c38_w (ctx : Ctx) (tm : T AV) (dfs : List ADef) (up : Option Chain) (H : AHeap) (Q : Post) :
    WP AP ctx ref23_Merge_c38 ⟨tm, dfs, up, H⟩ Q =
    (GS AP dirty ctx ref23_Merge_c38_r0 ⟨tm, dfs, up, H⟩ Q) := Gxregion AP ctx _ _ ref23_Merge_c38_r0
theorem ref23_Merge_c38_r0_w (ctx : Ctx) (tm : T AV) (dfs : List ADef) (up : Option Chain) (H : AHeap) (Q : Post) :
    GS AP true ctx ref23_Merge_c38_r0 ⟨tm, dfs, up, H⟩ Q =
    (LK dirty (tm.get 9) fun g ti9 => BI g (Op.move [ti9]) fun g t35 => BI g ((Op.bin .add) [t35, (.int .i64 1)]) fun g t36 => BI g (Op.move [t36]) fun g t9 => 
    GO g Q .normal ⟨(setsE [(9, t9), (36, t36), (35, t35)] tm), dfs, up, H⟩) := WPS_shallow (l := ref23_Merge_c38_r0) (by kernel_rfl)
theorem ref23_Merge_c33_w (ctx : Ctx) (tm : T AV) (dfs : List ADef) (up : Option Chain) (H : AHeap) (Q : Post) :
    WP AP ctx ref23_Merge_c33 ⟨tm, dfs, up, H⟩ Q =
    (WP AP ctx ref23_Merge_c34 ⟨tm, dfs, up, H⟩ (SEQ (WP AP ctx ref23_Merge_c38) Q)) := WP_seq AP ctx _ _ ref23_Merge_c34 ref23_Merge_c38
theorem ref23_Merge_c30_w (ctx : Ctx) (tm : T AV) (dfs : List ADef) (up : Option Chain) (H : AHeap) (Q : Post) :
    WP AP ctx ref23_Merge_c30 ⟨tm, dfs, up, H⟩ Q =
    (WP AP ctx ref23_Merge_c31 ⟨tm, dfs, up, H⟩ (SEQ (WP AP ctx ref23_Merge_c33) Q)) := WP_seq AP ctx _ _ ref23_Merge_c31 ref23_Merge_c33
theorem ref23_Merge_c29_w (ctx : Ctx) (tm : T AV) (dfs : List ADef) (up : Option Chain) (H : AHeap) (Q : Post) :
    WP AP ctx ref23_Merge_c29 ⟨tm, dfs, up, H⟩ Q =
    (LOOP (WP AP ctx ref23_Merge_c30) none ⟨tm, dfs, up, H⟩ Q) := WP_loop AP ctx _ _ none ref23_Merge_c30
theorem ref23_Merge_c28_w (ctx : Ctx) (tm : T AV) (dfs : List ADef) (up : Option Chain) (H : AHeap) (Q : Post) :
    WP AP ctx ref23_Merge_c28 ⟨tm, dfs, up, H⟩ Q =
    (WP AP ctx ref23_Merge_c29 ⟨tm, dfs, up, H⟩ (BLK 4 Q)) := WP_block AP ctx _ _ 4 ref23_Merge_c29
theorem ref23_Merge_c27_w (ctx : Ctx) (tm : T AV) (dfs : List ADef) (up : Option Chain) (H : AHeap) (Q : Post) :
    WP AP ctx ref23_Merge_c27 ⟨tm, dfs, up, H⟩ Q =
    (GS AP dirty ctx ref23_Merge_c27_r0 ⟨tm, dfs, up, H⟩ (SEQ (WP AP ctx ref23_Merge_c28) Q)) := Gxrseq AP ctx _ _ ref23_Merge_c27_r0 ref23_Merge_c28
theorem ref23_Merge_c27_r0_w (ctx : Ctx) (tm : T AV) (dfs : List ADef) (up : Option Chain) (H : AHeap) (Q : Post) :
    GS AP true ctx ref23_Merge_c27_r0 ⟨tm, dfs, up, H⟩ Q =
    (BI dirty (Op.move [(.int .i64 0)]) fun g t9 => GO g Q .normal ⟨(setsE [(9, t9)] tm), dfs, up, H⟩) := WPS_shallow (l := ref23_Merge_c27_r0) (by kernel_rfl)
theorem ref23_Merge_c40_w (ctx : Ctx) (tm : T AV) (dfs : List ADef) (up : Option Chain) (H : AHeap) (Q : Post) :
    WP AP ctx ref23_Merge_c40 ⟨tm, dfs, up, H⟩ Q =
    (GS AP dirty ctx ref23_Merge_c40_r0 ⟨tm, dfs, up, H⟩ Q) := Gxregion AP ctx _ _ ref23_Merge_c40_r0
theorem ref23_Merge_c40_r0_w (ctx : Ctx) (tm : T AV) (dfs : List ADef) (up : Option Chain) (H : AHeap) (Q : Post) :
    GS AP true ctx ref23_Merge_c40_r0 ⟨tm, dfs, up, H⟩ Q =
    (LK dirty (tm.get 3) fun g ti3 => BI g (Op.move [ti3]) fun g t90 => LK g (tm.get 8) fun g ti8 => BI g (Op.move [ti8]) fun g t91 => BI g ((Op.indexSl 1) [t90, t91]) fun g t92 => 
    BI g (Op.load1 [t92] H) fun g t93 => BI g ((Op.bin .add) [t93, (.int .i64 1)]) fun g t94 => BI g ((Op.indexSl 1) [t90, t91]) fun g t95 => 
    BI2 g ((Op.store 1) [t95, t94] H) fun g t_u H1 => 
    GO g Q .normal ⟨(setsE [(95, t95), (94, t94), (93, t93), (92, t92), (91, t91), (90, t90)] tm), dfs, up, H1⟩) := WPS_shallow (l := ref23_Merge_c40_r0) (by kernel_rfl)
theorem ref23_Merge_c39_w (ctx : Ctx) (tm : T AV) (dfs : List ADef) (up : Option Chain) (H : AHeap) (Q : Post) :
    WP AP ctx ref23_Merge_c39 ⟨tm, dfs, up, H⟩ Q =
    (GS AP dirty ctx ref23_Merge_c39_r0 ⟨tm, dfs, up, H⟩ (SEQ (WP AP ctx ref23_Merge_c40) Q)) := Gxrseq AP ctx _ _ ref23_Merge_c39_r0 ref23_Merge_c40
theorem ref23_Merge_c39_r0_w (ctx : Ctx) (tm : T AV) (dfs : List ADef) (up : Option Chain) (H : AHeap) (Q : Post) :
    GS AP true ctx ref23_Merge_c39_r0 ⟨tm, dfs, up, H⟩ Q =
    (LK dirty (tm.get 6) fun g ti6 => BI g (Op.move [ti6]) fun g t77 => LK g (tm.get 0) fun g ti0 => BI g (Op.move [ti0]) fun g t78 => LK g (tm.get 8) fun g ti8 => BI g (Op.move [ti8]) fun g t79 => 
    BI g ((Op.indexSl 1) [t78, t79]) fun g t80 => BI g (Op.load1 [t80] H) fun g t81 => LK g (tm.get 3) fun g ti3 => BI g (Op.move [ti3]) fun g t82 => 
    LK g (tm.get 8) fun g ti8_1 => BI g (Op.move [ti8_1]) fun g t83 => BI g ((Op.indexSl 1) [t82, t83]) fun g t84 => BI g (Op.load1 [t84] H) fun g t85 => BI g ((Op.indexSl 9) [t81, t85]) fun g t86 => BI g ((Op.loadN 9) [t86] H) fun g t87 => BI2 g ((Op.buildSlice T_api_Event 1 [(.int .i64 0), (.int .i64 0), (.int .i64 0), (.int .i64 0), (.int .i64 0), (.int .i64 0), (.int .i64 0), (.int .u64 0), (.int .i64 0)] [(0, 9)]) [t87]) fun g o1 mk1 => BI2 g ((Op.append T_api_Event 9 72) [t77, (mk1 H.next)] (H.alloc o1)) fun g t89 H2 => 
    BI g (Op.move [t89]) fun g t6 => GO g Q .normal ⟨(setsE [(6, t6), (89, t89), (88, (mk1 H.next)), (87, t87), (86, t86), (85, t85), (84, t84), (83, t83), (82, t82), (81, t81), (80, t80), (79, t79), (78, t78), (77, t77)] tm), dfs, up, H2⟩) := WPS_shallow (l := ref23_Merge_c39_r0) (by kernel_rfl)
theorem ref23_Merge_c26_w (ctx : Ctx) (tm : T AV) (dfs : List ADef) (up : Option Chain) (H : AHeap) (Q : Post) :
    WP AP ctx ref23_Merge_c26 ⟨tm, dfs, up, H⟩ Q =
    (WP AP ctx ref23_Merge_c27 ⟨tm, dfs, up, H⟩ (SEQ (WP AP ctx ref23_Merge_c39) Q)) := WP_seq AP ctx _ _ ref23_Merge_c27 ref23_Merge_c39
theorem ref23_Merge_c25_w (ctx : Ctx) (tm : T AV) (dfs : List ADef) (up : Option Chain) (H : AHeap) (Q : Post) :
    WP AP ctx ref23_Merge_c25 ⟨tm, dfs, up, H⟩ Q =
    (GS AP dirty ctx ref23_Merge_c25_r0 ⟨tm, dfs, up, H⟩ (SEQ (WP AP ctx ref23_Merge_c26) Q)) := Gxrseq AP ctx _ _ ref23_Merge_c25_r0 ref23_Merge_c26
theorem ref23_Merge_c25_r0_w (ctx : Ctx) (tm : T AV) (dfs : List ADef) (up : Option Chain) (H : AHeap) (Q : Post) :
    GS AP true ctx ref23_Merge_c25_r0 ⟨tm, dfs, up, H⟩ Q =
    (BI dirty (Op.move [(.int .i64 (-1))]) fun g t8 => GO g Q .normal ⟨(setsE [(8, t8)] tm), dfs, up, H⟩) := WPS_shallow (l := ref23_Merge_c25_r0) (by kernel_rfl)
theorem ref23_Merge_c24_w (ctx : Ctx) (tm : T AV) (dfs : List ADef) (up : Option Chain) (H : AHeap) (Q : Post) :
    WP AP ctx ref23_Merge_c24 ⟨tm, dfs, up, H⟩ Q =
    (WP AP ctx ref23_Merge_c25 ⟨tm, dfs, up, H⟩ (BLK 3 Q)) := WP_block AP ctx _ _ 3 ref23_Merge_c25
theorem ref23_Merge_c41_w (ctx : Ctx) (tm : T AV) (dfs : List ADef) (up : Option Chain) (H : AHeap) (Q : Post) :
    WP AP ctx ref23_Merge_c41 ⟨tm, dfs, up, H⟩ Q =
    (GS AP dirty ctx ref23_Merge_c41_r0 ⟨tm, dfs, up, H⟩ Q) := Gxregion AP ctx _ _ ref23_Merge_c41_r0
theorem ref23_Merge_c41_r0_w (ctx : Ctx) (tm : T AV) (dfs : List ADef) (up : Option Chain) (H : AHeap) (Q : Post) :
    GS AP true ctx ref23_Merge_c41_r0 ⟨tm, dfs, up, H⟩ Q =
    (LK dirty (tm.get 7) fun g ti7 => BI g (Op.move [ti7]) fun g t29 => BI g ((Op.bin .add) [t29, (.int .i64 1)]) fun g t30 => BI g (Op.move [t30]) fun g t7 => 
    GO g Q .normal ⟨(setsE [(7, t7), (30, t30), (29, t29)] tm), dfs, up, H⟩) := WPS_shallow (l := ref23_Merge_c41_r0) (by kernel_rfl)
theorem ref23_Merge_c23_w (ctx : Ctx) (tm : T AV) (dfs : List ADef) (up : Option Chain) (H : AHeap) (Q : Post) :
    WP AP ctx ref23_Merge_c23 ⟨tm, dfs, up, H⟩ Q =
    (WP AP ctx ref23_Merge_c24 ⟨tm, dfs, up, H⟩ (SEQ (WP AP ctx ref23_Merge_c41) Q)) := WP_seq AP ctx _ _ ref23_Merge_c24 ref23_Merge_c41
theorem ref23_Merge_c20_w (ctx : Ctx) (tm : T AV) (dfs : List ADef) (up : Option Chain) (H : AHeap) (Q : Post) :
    WP AP ctx ref23_Merge_c20 ⟨tm, dfs, up, H⟩ Q =
    (WP AP ctx ref23_Merge_c21 ⟨tm, dfs, up, H⟩ (SEQ (WP AP ctx ref23_Merge_c23) Q)) := WP_seq AP ctx _ _ ref23_Merge_c21 ref23_Merge_c23
theorem ref23_Merge_c19_w (ctx : Ctx) (tm : T AV) (dfs : List ADef) (up : Option Chain) (H : AHeap) (Q : Post) :
    WP AP ctx ref23_Merge_c19 ⟨tm, dfs, up, H⟩ Q =
    (LOOP (WP AP ctx ref23_Merge_c20) none ⟨tm, dfs, up, H⟩ Q) := WP_loop AP ctx _ _ none ref23_Merge_c20
theorem ref23_Merge_c18_w (ctx : Ctx) (tm : T AV) (dfs : List ADef) (up : Option Chain) (H : AHeap) (Q : Post) :
    WP AP ctx ref23_Merge_c18 ⟨tm, dfs, up, H⟩ Q =
    (WP AP ctx ref23_Merge_c19 ⟨tm, dfs, up, H⟩ (BLK 2 Q)) := WP_block AP ctx _ _ 2 ref23_Merge_c19
theorem ref23_Merge_c17_w (ctx : Ctx) (tm : T AV) (dfs : List ADef) (up : Option Chain) (H : AHeap) (Q : Post) :
    WP AP ctx ref23_Merge_c17 ⟨tm, dfs, up, H⟩ Q =
    (GS AP dirty ctx ref23_Merge_c17_r0 ⟨tm, dfs, up, H⟩ (SEQ (WP AP ctx ref23_Merge_c18) Q)) := Gxrseq AP ctx _ _ ref23_Merge_c17_r0 ref23_Merge_c18
theorem ref23_Merge_c17_r0_w (ctx : Ctx) (tm : T AV) (dfs : List ADef) (up : Option Chain) (H : AHeap) (Q : Post) :
    GS AP true ctx ref23_Merge_c17_r0 ⟨tm, dfs, up, H⟩ Q =
    (BI dirty (Op.move [(.int .i64 0)]) fun g t7 => GO g Q .normal ⟨(setsE [(7, t7)] tm), dfs, up, H⟩) := WPS_shallow (l := ref23_Merge_c17_r0) (by kernel_rfl)
theorem ref23_Merge_c42_w (ctx : Ctx) (tm : T AV) (dfs : List ADef) (up : Option Chain) (H : AHeap) (Q : Post) :
    WP AP ctx ref23_Merge_c42 ⟨tm, dfs, up, H⟩ Q =
    (GS AP dirty ctx ref23_Merge_c42_r0 ⟨tm, dfs, up, H⟩ (SEQ (WP AP ctx .ret) Q)) := Gxrseq AP ctx _ _ ref23_Merge_c42_r0 .ret
theorem ref23_Merge_c42_r0_w (ctx : Ctx) (tm : T AV) (dfs : List ADef) (up : Option Chain) (H : AHeap) (Q : Post) :
    GS AP true ctx ref23_Merge_c42_r0 ⟨tm, dfs, up, H⟩ Q =
    (LK dirty (tm.get 6) fun g ti6 => BI g (Op.move [ti6]) fun g t96 => BI g (Op.move [t96]) fun g t2 => GO g Q .normal ⟨(setsE [(2, t2), (96, t96)] tm), dfs, up, H⟩) := WPS_shallow (l := ref23_Merge_c42_r0) (by kernel_rfl)
theorem ref23_Merge_c16_w (ctx : Ctx) (tm : T AV) (dfs : List ADef) (up : Option Chain) (H : AHeap) (Q : Post) :
    WP AP ctx ref23_Merge_c16 ⟨tm, dfs, up, H⟩ Q =
    (WP AP ctx ref23_Merge_c17 ⟨tm, dfs, up, H⟩ (SEQ (WP AP ctx ref23_Merge_c42) Q)) := WP_seq AP ctx _ _ ref23_Merge_c17 ref23_Merge_c42
theorem ref23_Merge_c15_w (ctx : Ctx) (tm : T AV) (dfs : List ADef) (up : Option Chain) (H : AHeap) (Q : Post) :
    WP AP ctx ref23_Merge_c15 ⟨tm, dfs, up, H⟩ Q =
    (GS AP dirty ctx ref23_Merge_c15_r0 ⟨tm, dfs, up, H⟩ (SEQ (WP AP ctx ref23_Merge_c16) Q)) := Gxrseq AP ctx _ _ ref23_Merge_c15_r0 ref23_Merge_c16
theorem ref23_Merge_c15_r0_w (ctx : Ctx) (tm : T AV) (dfs : List ADef) (up : Option Chain) (H : AHeap) (Q : Post) :
    GS AP true ctx ref23_Merge_c15_r0 ⟨tm, dfs, up, H⟩ Q =
    (BI dirty (Op.move [.nils]) fun g t6 => GO g Q .normal ⟨(setsE [(6, t6)] tm), dfs, up, H⟩) := WPS_shallow (l := ref23_Merge_c15_r0) (by kernel_rfl)
theorem ref23_Merge_c4_w (ctx : Ctx) (tm : T AV) (dfs : List ADef) (up : Option Chain) (H : AHeap) (Q : Post) :
    WP AP ctx ref23_Merge_c4 ⟨tm, dfs, up, H⟩ Q =
    (WP AP ctx ref23_Merge_c5 ⟨tm, dfs, up, H⟩ (SEQ (WP AP ctx ref23_Merge_c15) Q)) := WP_seq AP ctx _ _ ref23_Merge_c5 ref23_Merge_c15
theorem ref23_Merge_c3_w (ctx : Ctx) (tm : T AV) (dfs : List ADef) (up : Option Chain) (H : AHeap) (Q : Post) :
    WP AP ctx ref23_Merge_c3 ⟨tm, dfs, up, H⟩ Q =
    (GS AP dirty ctx ref23_Merge_c3_r0 ⟨tm, dfs, up, H⟩ (SEQ (WP AP ctx ref23_Merge_c4) Q)) := Gxrseq AP ctx _ _ ref23_Merge_c3_r0 ref23_Merge_c4
theorem ref23_Merge_c3_r0_w (ctx : Ctx) (tm : T AV) (dfs : List ADef) (up : Option Chain) (H : AHeap) (Q : Post) :
    GS AP true ctx ref23_Merge_c3_r0 ⟨tm, dfs, up, H⟩ Q =
    (BI dirty (Op.move [(.int .i64 0)]) fun g t4 => GO g Q .normal ⟨(setsE [(4, t4)] tm), dfs, up, H⟩) := WPS_shallow (l := ref23_Merge_c3_r0) (by kernel_rfl)
theorem ref23_Merge_c2_w (ctx : Ctx) (tm : T AV) (dfs : List ADef) (up : Option Chain) (H : AHeap) (Q : Post) :
    WP AP ctx ref23_Merge_c2 ⟨tm, dfs, up, H⟩ Q =
    (GS AP dirty ctx ref23_Merge_c2_r0 ⟨tm, dfs, up, H⟩ (SEQ (WP AP ctx ref23_Merge_c3) Q)) := Gxrseq AP ctx _ _ ref23_Merge_c2_r0 ref23_Merge_c3
theorem ref23_Merge_c2_r0_w (ctx : Ctx) (tm : T AV) (dfs : List ADef) (up : Option Chain) (H : AHeap) (Q : Post) :
    GS AP true ctx ref23_Merge_c2_r0 ⟨tm, dfs, up, H⟩ Q =
    (LK dirty (tm.get 0) fun g ti0 => BI g (Op.move [ti0]) fun g t10 => BI g (Op.lenSl [t10]) fun g t11 => BI2 g ((Op.mkSlice T_int 8 [(.int .i64 0)]) [t11, t11]) fun g o1 mk1 => BI g (Op.move [(mk1 H.next)]) fun g t3 => GO g Q .normal ⟨(setsE [(3, t3), (12, (mk1 H.next)), (11, t11), (10, t10)] tm), dfs, up, (H.alloc o1)⟩) := WPS_shallow (l := ref23_Merge_c2_r0) (by kernel_rfl)
theorem ref23_Merge_c1_w (ctx : Ctx) (tm : T AV) (dfs : List ADef) (up : Option Chain) (H : AHeap) (Q : Post) :
    WP AP ctx ref23_Merge_c1 ⟨tm, dfs, up, H⟩ Q =
    (GS AP dirty ctx ref23_Merge_c1_r0 ⟨tm, dfs, up, H⟩ (SEQ (WP AP ctx ref23_Merge_c2) Q)) := Gxrseq AP ctx _ _ ref23_Merge_c1_r0 ref23_Merge_c2
theorem ref23_Merge_c1_r0_w (ctx : Ctx) (tm : T AV) (dfs : List ADef) (up : Option Chain) (H : AHeap) (Q : Post) :
    GS AP true ctx ref23_Merge_c1_r0 ⟨tm, dfs, up, H⟩ Q =
    (BI dirty (Op.move [.nils]) fun g t2 => GO g Q .normal ⟨(setsE [(2, t2)] tm), dfs, up, H⟩) := WPS_shallow (l := ref23_Merge_c1_r0) (by kernel_rfl)
/-! ### shunt/shuntref23.Same -/
def ref23_Same_c5_r0 : List AStep := [⟨false, (some 4), none, [.const (.bool false)], .pure Op.move, (some [])⟩]
def ref23_Same_c5 : ACode := .seq (.region ref23_Same_c5_r0) .ret
def ref23_Same_c4 : ACode := .cond (.tmp 10) ref23_Same_c5 .skip
def ref23_Same_c3_r0 : List AStep := [⟨false, (some 6), none, [.tmp 0], .pure Op.move, (some [])⟩,
  ⟨false, (some 7), none, [.tmp 6], .pure Op.lenSl, (some [])⟩,
  ⟨false, (some 8), none, [.tmp 1], .pure Op.move, (some [])⟩,
  ⟨false, (some 9), none, [.tmp 8], .pure Op.lenSl, (some [])⟩,
  ⟨false, (some 10), none, [.tmp 7, .tmp 9], .pure (Op.bin .neq), (some [])⟩]
def ref23_Same_c3 : ACode := .seq (.region ref23_Same_c3_r0) ref23_Same_c4
def ref23_Same_c12 : ACode := .cond (.tmp 14) .skip (.exit 0)
def ref23_Same_c11_r0 : List AStep := [⟨false, (some 11), none, [.tmp 5], .pure Op.move, (some [])⟩,
  ⟨false, (some 12), none, [.tmp 0], .pure Op.move, (some [])⟩,
  ⟨false, (some 13), none, [.tmp 12], .pure Op.lenSl, (some [])⟩,
  ⟨false, (some 14), none, [.tmp 11, .tmp 13], .pure (Op.bin .lss), (some [])⟩]
def ref23_Same_c11 : ACode := .seq (.region ref23_Same_c11_r0) ref23_Same_c12
def ref23_Same_c17_r0 : List AStep := [⟨false, (some 4), none, [.const (.bool false)], .pure Op.move, (some [])⟩]
def ref23_Same_c17 : ACode := .seq (.region ref23_Same_c17_r0) .ret
def ref23_Same_c16 : ACode := .cond (.tmp 25) ref23_Same_c17 .skip
def ref23_Same_c15_r0 : List AStep := [⟨false, (some 17), none, [.tmp 0], .pure Op.move, none⟩,
  ⟨false, (some 18), none, [.tmp 5], .pure Op.move, none⟩,
  ⟨false, (some 19), none, [.tmp 17, .tmp 18], .pure (Op.indexSl 9), none⟩,
  ⟨false, (some 20), none, [.tmp 19], .read (Op.loadN 9), none⟩,
  ⟨false, (some 21), none, [.tmp 1], .pure Op.move, none⟩,
  ⟨false, (some 22), none, [.tmp 5], .pure Op.move, (some [17, 18, 19, 20, 21, 22, 23, 24, 25])⟩,
  ⟨false, (some 23), none, [.tmp 21, .tmp 22], .pure (Op.indexSl 9), (some [17, 18, 19, 20, 21, 22, 23, 24, 25])⟩,
  ⟨false, (some 24), none, [.tmp 23], .read (Op.loadN 9), (some [17, 18, 19, 20, 21, 22, 23, 24, 25])⟩,
  ⟨false, (some 25), none, [.tmp 20, .tmp 24], .read (Op.eq (.agg (.part 0 none .int (.part 1 none .int (.part 2 none .int (.part 3 none .int (.part 4 none .int (.part 5 none .int (.part 6 none .int (.part 7 none .int (.part 8 none .int .nil)))))))))) true), (some [17, 18, 19, 20, 21, 22, 23, 24, 25])⟩]
def ref23_Same_c15 : ACode := .seq (.region ref23_Same_c15_r0) ref23_Same_c16
def ref23_Same_c14 : ACode := .block 1 ref23_Same_c15
def ref23_Same_c18_r0 : List AStep := [⟨false, (some 15), none, [.tmp 5], .pure Op.move, (some [])⟩,
  ⟨false, (some 16), none, [.tmp 15, .const (.int .i64 1)], .pure (Op.bin .add), (some [])⟩,
  ⟨false, (some 5), none, [.tmp 16], .pure Op.move, (some [])⟩]
def ref23_Same_c18 : ACode := .region ref23_Same_c18_r0
def ref23_Same_c13 : ACode := .seq ref23_Same_c14 ref23_Same_c18
def ref23_Same_c10 : ACode := .seq ref23_Same_c11 ref23_Same_c13
def ref23_Same_c9 : ACode := .loop none ref23_Same_c10
def ref23_Same_c8 : ACode := .block 0 ref23_Same_c9
def ref23_Same_c7_r0 : List AStep := [⟨false, (some 5), none, [.const (.int .i64 0)], .pure Op.move, (some [])⟩]
def ref23_Same_c7 : ACode := .seq (.region ref23_Same_c7_r0) ref23_Same_c8
def ref23_Same_c19_r0 : List AStep := [⟨false, (some 4), none, [.const (.bool true)], .pure Op.move, (some [])⟩]
def ref23_Same_c19 : ACode := .seq (.region ref23_Same_c19_r0) .ret
def ref23_Same_c6 : ACode := .seq ref23_Same_c7 ref23_Same_c19
def ref23_Same_c2 : ACode := .seq ref23_Same_c3 ref23_Same_c6
def ref23_Same_c1_r0 : List AStep := [⟨false, (some 4), none, [.const (.bool false)], .pure Op.move, (some [])⟩]
def ref23_Same_c1 : ACode := .seq (.region ref23_Same_c1_r0) ref23_Same_c2
def ref23_Same_F : AFunc := ⟨[.tmp 4], ref23_Same_c1, []⟩
theorem ref23_Same_c5_w (ctx : Ctx) (tm : T AV) (dfs : List ADef) (up : Option Chain) (H : AHeap) (Q : Post) :
    WP AP ctx ref23_Same_c5 ⟨tm, dfs, up, H⟩ Q =
    (GS AP dirty ctx ref23_Same_c5_r0 ⟨tm, dfs, up, H⟩ (SEQ (WP AP ctx .ret) Q)) := Gxrseq AP ctx _ _ ref23_Same_c5_r0 .ret
theorem ref23_Same_c5_r0_w (ctx : Ctx) (tm : T AV) (dfs : List ADef) (up : Option Chain) (H : AHeap) (Q : Post) :
    GS AP true ctx ref23_Same_c5_r0 ⟨tm, dfs, up, H⟩ Q =
    (BI dirty (Op.move [(.bool false)]) fun g t4 => GO g Q .normal ⟨(setsE [(4, t4)] tm), dfs, up, H⟩) := WPS_shallow (l := ref23_Same_c5_r0) (by kernel_rfl)
theorem ref23_Same_c4_w (ctx : Ctx) (tm : T AV) (dfs : List ADef) (up : Option Chain) (H : AHeap) (Q : Post) :
    WP AP ctx ref23_Same_c4 ⟨tm, dfs, up, H⟩ Q =
    (BI dirty (tm.get 10) fun g v => BI g (asBool v) fun g q => IG g q (fun g => GW AP g ctx ref23_Same_c5 ⟨tm, dfs, up, H⟩ Q) (fun g => GW AP g ctx .skip ⟨tm, dfs, up, H⟩ Q)) := Gxcond AP ctx _ _ 10 ref23_Same_c5 .skip
theorem ref23_Same_c3_w (ctx : Ctx) (tm : T AV) (dfs : List ADef) (up : Option Chain) (H : AHeap) (Q : Post) :
    WP AP ctx ref23_Same_c3 ⟨tm, dfs, up, H⟩ Q =
    (GS AP dirty ctx ref23_Same_c3_r0 ⟨tm, dfs, up, H⟩ (SEQ (WP AP ctx ref23_Same_c4) Q)) := Gxrseq AP ctx _ _ ref23_Same_c3_r0 ref23_Same_c4
theorem ref23_Same_c3_r0_w (ctx : Ctx) (tm : T AV) (dfs : List ADef) (up : Option Chain) (H : AHeap) (Q : Post) :
    GS AP true ctx ref23_Same_c3_r0 ⟨tm, dfs, up, H⟩ Q =
    (LK dirty (tm.get 0) fun g ti0 => BI g (Op.move [ti0]) fun g t6 => BI g (Op.lenSl [t6]) fun g t7 => LK g (tm.get 1) fun g ti1 => BI g (Op.move [ti1]) fun g t8 => 
    BI g (Op.lenSl [t8]) fun g t9 => BI g ((Op.bin .neq) [t7, t9]) fun g t10 => GO g Q .normal ⟨(setsE [(10, t10), (9, t9), (8, t8), (7, t7), (6, t6)] tm), dfs, up, H⟩) := WPS_shallow (l := ref23_Same_c3_r0) (by kernel_rfl)
theorem ref23_Same_c12_w (ctx : Ctx) (tm : T AV) (dfs : List ADef) (up : Option Chain) (H : AHeap) (Q : Post) :
    WP AP ctx ref23_Same_c12 ⟨tm, dfs, up, H⟩ Q =
    (BI dirty (tm.get 14) fun g v => BI g (asBool v) fun g q => IG g q (fun g => GW AP g ctx .skip ⟨tm, dfs, up, H⟩ Q) (fun g => GW AP g ctx (.exit 0) ⟨tm, dfs, up, H⟩ Q)) := Gxcond AP ctx _ _ 14 .skip (.exit 0)
theorem ref23_Same_c11_w (ctx : Ctx) (tm : T AV) (dfs : List ADef) (up : Option Chain) (H : AHeap) (Q : Post) :
    WP AP ctx ref23_Same_c11 ⟨tm, dfs, up, H⟩ Q =
    (GS AP dirty ctx ref23_Same_c11_r0 ⟨tm, dfs, up, H⟩ (SEQ (WP AP ctx ref23_Same_c12) Q)) := Gxrseq AP ctx _ _ ref23_Same_c11_r0 ref23_Same_c12
theorem ref23_Same_c11_r0_w (ctx : Ctx) (tm : T AV) (dfs : List ADef) (up : Option Chain) (H : AHeap) (Q : Post) :
    GS AP true ctx ref23_Same_c11_r0 ⟨tm, dfs, up, H⟩ Q =
    (LK dirty (tm.get 5) fun g ti5 => BI g (Op.move [ti5]) fun g t11 => LK g (tm.get 0) fun g ti0 => BI g (Op.move [ti0]) fun g t12 => BI g (Op.lenSl [t12]) fun g t13 => 
    BI g ((Op.bin .lss) [t11, t13]) fun g t14 => GO g Q .normal ⟨(setsE [(14, t14), (13, t13), (12, t12), (11, t11)] tm), dfs, up, H⟩) := WPS_shallow (l := ref23_Same_c11_r0) (by kernel_rfl)
theorem ref23_Same_c17_w (ctx : Ctx) (tm : T AV) (dfs : List ADef) (up : Option Chain) (H : AHeap) (Q : Post) :
    WP AP ctx ref23_Same_c17 ⟨tm, dfs, up, H⟩ Q =
    (GS AP dirty ctx ref23_Same_c17_r0 ⟨tm, dfs, up, H⟩ (SEQ (WP AP ctx .ret) Q)) := Gxrseq AP ctx _ _ ref23_Same_c17_r0 .ret
theorem ref23_Same_c17_r0_w (ctx : Ctx) (tm : T AV) (dfs : List ADef) (up : Option Chain) (H : AHeap) (Q : Post) :
    GS AP true ctx ref23_Same_c17_r0 ⟨tm, dfs, up, H⟩ Q =
    (BI dirty (Op.move [(.bool false)]) fun g t4 => GO g Q .normal ⟨(setsE [(4, t4)] tm), dfs, up, H⟩) := WPS_shallow (l := ref23_Same_c17_r0) (by kernel_rfl)
theorem ref23_Same_c16_w (ctx : Ctx) (tm : T AV) (dfs : List ADef) (up : Option Chain) (H : AHeap) (Q : Post) :
    WP AP ctx ref23_Same_c16 ⟨tm, dfs, up, H⟩ Q =
    (BI dirty (tm.get 25) fun g v => BI g (asBool v) fun g q => IG g q (fun g => GW AP g ctx ref23_Same_c17 ⟨tm, dfs, up, H⟩ Q) (fun g => GW AP g ctx .skip ⟨tm, dfs, up, H⟩ Q)) := Gxcond AP ctx _ _ 25 ref23_Same_c17 .skip
theorem ref23_Same_c15_w (ctx : Ctx) (tm : T AV) (dfs : List ADef) (up : Option Chain) (H : AHeap) (Q : Post) :
    WP AP ctx ref23_Same_c15 ⟨tm, dfs, up, H⟩ Q =
    (GS AP dirty ctx ref23_Same_c15_r0 ⟨tm, dfs, up, H⟩ (SEQ (WP AP ctx ref23_Same_c16) Q)) := Gxrseq AP ctx _ _ ref23_Same_c15_r0 ref23_Same_c16
theorem ref23_Same_c15_r0_w (ctx : Ctx) (tm : T AV) (dfs : List ADef) (up : Option Chain) (H : AHeap) (Q : Post) :
    GS AP true ctx ref23_Same_c15_r0 ⟨tm, dfs, up, H⟩ Q =
    (LK dirty (tm.get 0) fun g ti0 => BI g (Op.move [ti0]) fun g t17 => LK g (tm.get 5) fun g ti5 => BI g (Op.move [ti5]) fun g t18 => BI g ((Op.indexSl 9) [t17, t18]) fun g t19 => 
    BI g ((Op.loadN 9) [t19] H) fun g t20 => LK g (tm.get 1) fun g ti1 => BI g (Op.move [ti1]) fun g t21 => LK g (tm.get 5) fun g ti5_1 => BI g (Op.move [ti5_1]) fun g t22 => 
    BI g ((Op.indexSl 9) [t21, t22]) fun g t23 => BI g ((Op.loadN 9) [t23] H) fun g t24 => BI g ((Op.eq (.agg (.part 0 none .int (.part 1 none .int (.part 2 none .int (.part 3 none .int (.part 4 none .int (.part 5 none .int (.part 6 none .int (.part 7 none .int (.part 8 none .int .nil)))))))))) true) [t20, t24] H) fun g t25 => GO g Q .normal ⟨(setsE [(25, t25), (24, t24), (23, t23), (22, t22), (21, t21), (20, t20), (19, t19), (18, t18), (17, t17)] tm), dfs, up, H⟩) := WPS_shallow (l := ref23_Same_c15_r0) (by kernel_rfl)
theorem ref23_Same_c14_w (ctx : Ctx) (tm : T AV) (dfs : List ADef) (up : Option Chain) (H : AHeap) (Q : Post) :
    WP AP ctx ref23_Same_c14 ⟨tm, dfs, up, H⟩ Q =
    (WP AP ctx ref23_Same_c15 ⟨tm, dfs, up, H⟩ (BLK 1 Q)) := WP_block AP ctx _ _ 1 ref23_Same_c15
theorem ref23_Same_c18_w (ctx : Ctx) (tm : T AV) (dfs : List ADef) (up : Option Chain) (H : AHeap) (Q : Post) :
    WP AP ctx ref23_Same_c18 ⟨tm, dfs, up, H⟩ Q =
    (GS AP dirty ctx ref23_Same_c18_r0 ⟨tm, dfs, up, H⟩ Q) := Gxregion AP ctx _ _ ref23_Same_c18_r0
theorem ref23_Same_c18_r0_w (ctx : Ctx) (tm : T AV) (dfs : List ADef) (up : Option Chain) (H : AHeap) (Q : Post) :
    GS AP true ctx ref23_Same_c18_r0 ⟨tm, dfs, up, H⟩ Q =
    (LK dirty (tm.get 5) fun g ti5 => BI g (Op.move [ti5]) fun g t15 => BI g ((Op.bin .add) [t15, (.int .i64 1)]) fun g t16 => BI g (Op.move [t16]) fun g t5 => 
    GO g Q .normal ⟨(setsE [(5, t5), (16, t16), (15, t15)] tm), dfs, up, H⟩) := WPS_shallow (l := ref23_Same_c18_r0) (by kernel_rfl)
theorem ref23_Same_c13_w (ctx : Ctx) (tm : T AV) (dfs : List ADef) (up : Option Chain) (H : AHeap) (Q : Post) :
    WP AP ctx ref23_Same_c13 ⟨tm, dfs, up, H⟩ Q =
    (WP AP ctx ref23_Same_c14 ⟨tm, dfs, up, H⟩ (SEQ (WP AP ctx ref23_Same_c18) Q)) := WP_seq AP ctx _ _ ref23_Same_c14 ref23_Same_c18
theorem ref23_Same_c10_w (ctx : Ctx) (tm : T AV) (dfs : List ADef) (up : Option Chain) (H : AHeap) (Q : Post) :
    WP AP ctx ref23_Same_c10 ⟨tm, dfs, up, H⟩ Q =
    (WP AP ctx ref23_Same_c11 ⟨tm, dfs, up, H⟩ (SEQ (WP AP ctx ref23_Same_c13) Q)) := WP_seq AP ctx _ _ ref23_Same_c11 ref23_Same_c13
theorem ref23_Same_c9_w (ctx : Ctx) (tm : T AV) (dfs : List ADef) (up : Option Chain) (H : AHeap) (Q : Post) :
    WP AP ctx ref23_Same_c9 ⟨tm, dfs, up, H⟩ Q =
    (LOOP (WP AP ctx ref23_Same_c10) none ⟨tm, dfs, up, H⟩ Q) := WP_loop AP ctx _ _ none ref23_Same_c10
theorem ref23_Same_c8_w (ctx : Ctx) (tm : T AV) (dfs : List ADef) (up : Option Chain) (H : AHeap) (Q : Post) :
    WP AP ctx ref23_Same_c8 ⟨tm, dfs, up, H⟩ Q =
    (WP AP ctx ref23_Same_c9 ⟨tm, dfs, up, H⟩ (BLK 0 Q)) := WP_block AP ctx _ _ 0 ref23_Same_c9
theorem ref23_Same_c7_w (ctx : Ctx) (tm : T AV) (dfs : List ADef) (up : Option Chain) (H : AHeap) (Q : Post) :
    WP AP ctx ref23_Same_c7 ⟨tm, dfs, up, H⟩ Q =
    (GS AP dirty ctx ref23_Same_c7_r0 ⟨tm, dfs, up, H⟩ (SEQ (WP AP ctx ref23_Same_c8) Q)) := Gxrseq AP ctx _ _ ref23_Same_c7_r0 ref23_Same_c8
theorem ref23_Same_c7_r0_w (ctx : Ctx) (tm : T AV) (dfs : List ADef) (up : Option Chain) (H : AHeap) (Q : Post) :
    GS AP true ctx ref23_Same_c7_r0 ⟨tm, dfs, up, H⟩ Q =
    (BI dirty (Op.move [(.int .i64 0)]) fun g t5 => GO g Q .normal ⟨(setsE [(5, t5)] tm), dfs, up, H⟩) := WPS_shallow (l := ref23_Same_c7_r0) (by kernel_rfl)
theorem ref23_Same_c19_w (ctx : Ctx) (tm : T AV) (dfs : List ADef) (up : Option Chain) (H : AHeap) (Q : Post) :
    WP AP ctx ref23_Same_c19 ⟨tm, dfs, up, H⟩ Q =
    (GS AP dirty ctx ref23_Same_c19_r0 ⟨tm, dfs, up, H⟩ (SEQ (WP AP ctx .ret) Q)) := Gxrseq AP ctx _ _ ref23_Same_c19_r0 .ret
theorem ref23_Same_c19_r0_w (ctx : Ctx) (tm : T AV) (dfs : List ADef) (up : Option Chain) (H : AHeap) (Q : Post) :
    GS AP true ctx ref23_Same_c19_r0 ⟨tm, dfs, up, H⟩ Q =
    (BI dirty (Op.move [(.bool true)]) fun g t4 => GO g Q .normal ⟨(setsE [(4, t4)] tm), dfs, up, H⟩) := WPS_shallow (l := ref23_Same_c19_r0) (by kernel_rfl)
theorem ref23_Same_c6_w (ctx : Ctx) (tm : T AV) (dfs : List ADef) (up : Option Chain) (H : AHeap) (Q : Post) :
    WP AP ctx ref23_Same_c6 ⟨tm, dfs, up, H⟩ Q =
    (WP AP ctx ref23_Same_c7 ⟨tm, dfs, up, H⟩ (SEQ (WP AP ctx ref23_Same_c19) Q)) := WP_seq AP ctx _ _ ref23_Same_c7 ref23_Same_c19
theorem ref23_Same_c2_w (ctx : Ctx) (tm : T AV) (dfs : List ADef) (up : Option Chain) (H : AHeap) (Q : Post) :
    WP AP ctx ref23_Same_c2 ⟨tm, dfs, up, H⟩ Q =
    (WP AP ctx ref23_Same_c3 ⟨tm, dfs, up, H⟩ (SEQ (WP AP ctx ref23_Same_c6) Q)) := WP_seq AP ctx _ _ ref23_Same_c3 ref23_Same_c6
theorem ref23_Same_c1_w (ctx : Ctx) (tm : T AV) (dfs : List ADef) (up : Option Chain) (H : AHeap) (Q : Post) :
    WP AP ctx ref23_Same_c1 ⟨tm, dfs, up, H⟩ Q =
    (GS AP dirty ctx ref23_Same_c1_r0 ⟨tm, dfs, up, H⟩ (SEQ (WP AP ctx ref23_Same_c2) Q)) := Gxrseq AP ctx _ _ ref23_Same_c1_r0 ref23_Same_c2
theorem ref23_Same_c1_r0_w (ctx : Ctx) (tm : T AV) (dfs : List ADef) (up : Option Chain) (H : AHeap) (Q : Post) :
    GS AP true ctx ref23_Same_c1_r0 ⟨tm, dfs, up, H⟩ Q =
    (BI dirty (Op.move [(.bool false)]) fun g t4 => GO g Q .normal ⟨(setsE [(4, t4)] tm), dfs, up, H⟩) := WPS_shallow (l := ref23_Same_c1_r0) (by kernel_rfl)
/-! ### shunt/trace.Of -/
def trace_Of_c2_r0 : List AStep := [⟨false, (some 5), none, [.tmp 0], .pure Op.move, (some [])⟩,
  ⟨false, (some 6), none, [.tmp 3], .pure (Op.mkFunc N_trace_Of_1 0), (some [])⟩,
  ⟨false, (some 7), none, [.tmp 5, .tmp 6], .callF N_trace_sift_api_Event, (some [])⟩,
  ⟨false, (some 4), none, [.tmp 7], .pure Op.move, (some [])⟩]
def trace_Of_c2 : ACode := .seq (.region trace_Of_c2_r0) .ret
def trace_Of_c1_r0 : List AStep := [⟨false, (some 3), none, [.tmp 1], .alloc (Op.box T_int), (some [])⟩,
  ⟨false, (some 4), none, [.const .nils], .pure Op.move, (some [])⟩]
def trace_Of_c1 : ACode := .seq (.region trace_Of_c1_r0) trace_Of_c2
def trace_Of_F : AFunc := ⟨[.tmp 4], trace_Of_c1, []⟩
theorem trace_Of_c2_w (ctx : Ctx) (tm : T AV) (dfs : List ADef) (up : Option Chain) (H : AHeap) (Q : Post) :
    WP AP ctx trace_Of_c2 ⟨tm, dfs, up, H⟩ Q =
    (GS AP dirty ctx trace_Of_c2_r0 ⟨tm, dfs, up, H⟩ (SEQ (WP AP ctx .ret) Q)) := Gxrseq AP ctx _ _ trace_Of_c2_r0 .ret
theorem trace_Of_c2_r0_w (ctx : Ctx) (tm : T AV) (dfs : List ADef) (up : Option Chain) (H : AHeap) (Q : Post) :
    GS AP true ctx trace_Of_c2_r0 ⟨tm, dfs, up, H⟩ Q =
    (LK dirty (tm.get 0) fun g ti0 => BI g (Op.move [ti0]) fun g t5 => LK g (tm.get 3) fun g ti3 => BI g ((Op.mkFunc N_trace_Of_1 0) [ti3]) fun g t6 => CA AP g (.func N_trace_sift_api_Event) [t5, t6] H (fun g t7 H1 => 
    BI g (Op.move [t7]) fun g t4 => GO g Q .normal ⟨(setsE [(4, t4), (7, t7), (6, t6), (5, t5)] tm), dfs, up, H1⟩) (PAN (some []) (setsE [(6, t6), (5, t5)] tm) dfs up Q)) := WPS_shallow (l := trace_Of_c2_r0) (by kernel_rfl)
theorem trace_Of_c1_w (ctx : Ctx) (tm : T AV) (dfs : List ADef) (up : Option Chain) (H : AHeap) (Q : Post) :
    WP AP ctx trace_Of_c1 ⟨tm, dfs, up, H⟩ Q =
    (GS AP dirty ctx trace_Of_c1_r0 ⟨tm, dfs, up, H⟩ (SEQ (WP AP ctx trace_Of_c2) Q)) := Gxrseq AP ctx _ _ trace_Of_c1_r0 trace_Of_c2
theorem trace_Of_c1_r0_w (ctx : Ctx) (tm : T AV) (dfs : List ADef) (up : Option Chain) (H : AHeap) (Q : Post) :
    GS AP true ctx trace_Of_c1_r0 ⟨tm, dfs, up, H⟩ Q =
    (LK dirty (tm.get 1) fun g ti1 => BI2 g ((Op.box T_int) [ti1]) fun g o1 mk1 => BI g (Op.move [.nils]) fun g t4 => GO g Q .normal ⟨(setsE [(4, t4), (3, (mk1 H.next))] tm), dfs, up, (H.alloc o1)⟩) := WPS_shallow (l := trace_Of_c1_r0) (by kernel_rfl)
/-! ### shunt/shuntref23.Of -/
def ref23_Of_c9 : ACode := .cond (.tmp 10) .skip (.exit 0)
def ref23_Of_c8_r0 : List AStep := [⟨false, (some 7), none, [.tmp 6], .pure Op.move, (some [])⟩,
  ⟨false, (some 8), none, [.tmp 0], .pure Op.move, (some [])⟩,
  ⟨false, (some 9), none, [.tmp 8], .pure Op.lenSl, (some [])⟩,
  ⟨false, (some 10), none, [.tmp 7, .tmp 9], .pure (Op.bin .lss), (some [])⟩]
def ref23_Of_c8 : ACode := .seq (.region ref23_Of_c8_r0) ref23_Of_c9
def ref23_Of_c14_r0 : List AStep := [⟨false, (some 20), none, [.tmp 5], .pure Op.move, (some [])⟩,
  ⟨false, (some 21), none, [.tmp 0], .pure Op.move, (some [])⟩,
  ⟨false, (some 22), none, [.tmp 6], .pure Op.move, (some [])⟩,
  ⟨false, (some 23), none, [.tmp 21, .tmp 22], .pure (Op.indexSl 9), (some [])⟩,
  ⟨false, (some 24), none, [.tmp 23], .read (Op.loadN 9), (some [])⟩,
  ⟨false, (some 25), none, [.tmp 24], .alloc (Op.buildSlice T_api_Event 1 [(.int .i64 0), (.int .i64 0), (.int .i64 0), (.int .i64 0), (.int .i64 0), (.int .i64 0), (.int .i64 0), (.int .u64 0), (.int .i64 0)] [(0, 9)]), (some [])⟩,
  ⟨false, (some 26), none, [.tmp 20, .tmp 25], .eff (Op.append T_api_Event 9 72), (some [])⟩,
  ⟨false, (some 5), none, [.tmp 26], .pure Op.move, (some [])⟩]
def ref23_Of_c14 : ACode := .region ref23_Of_c14_r0
def ref23_Of_c13 : ACode := .cond (.tmp 19) ref23_Of_c14 .skip
def ref23_Of_c12_r0 : List AStep := [⟨false, (some 13), none, [.tmp 0], .pure Op.move, (some [])⟩,
  ⟨false, (some 14), none, [.tmp 6], .pure Op.move, (some [])⟩,
  ⟨false, (some 15), none, [.tmp 13, .tmp 14], .pure (Op.indexSl 9), (some [])⟩,
  ⟨false, (some 16), none, [.tmp 15], .pure (Op.fieldAddr 2), (some [])⟩,
  ⟨false, (some 17), none, [.tmp 16], .read Op.load1, (some [])⟩,
  ⟨false, (some 18), none, [.tmp 1], .pure Op.move, (some [])⟩,
  ⟨false, (some 19), none, [.tmp 17, .tmp 18], .pure (Op.bin .eql), (some [])⟩]
def ref23_Of_c12 : ACode := .seq (.region ref23_Of_c12_r0) ref23_Of_c13
def ref23_Of_c11 : ACode := .block 1 ref23_Of_c12
def ref23_Of_c15_r0 : List AStep := [⟨false, (some 11), none, [.tmp 6], .pure Op.move, (some [])⟩,
  ⟨false, (some 12), none, [.tmp 11, .const (.int .i64 1)], .pure (Op.bin .add), (some [])⟩,
  ⟨false, (some 6), none, [.tmp 12], .pure Op.move, (some [])⟩]
def ref23_Of_c15 : ACode := .region ref23_Of_c15_r0
def ref23_Of_c10 : ACode := .seq ref23_Of_c11 ref23_Of_c15
def ref23_Of_c7 : ACode := .seq ref23_Of_c8 ref23_Of_c10
def ref23_Of_c6 : ACode := .loop none ref23_Of_c7
def ref23_Of_c5 : ACode := .block 0 ref23_Of_c6
def ref23_Of_c4_r0 : List AStep := [⟨false, (some 6), none, [.const (.int .i64 0)], .pure Op.move, (some [])⟩]
def ref23_Of_c4 : ACode := .seq (.region ref23_Of_c4_r0) ref23_Of_c5
def ref23_Of_c16_r0 : List AStep := [⟨false, (some 27), none, [.tmp 5], .pure Op.move, (some [])⟩,
  ⟨false, (some 4), none, [.tmp 27], .pure Op.move, (some [])⟩]
def ref23_Of_c16 : ACode := .seq (.region ref23_Of_c16_r0) .ret
def ref23_Of_c3 : ACode := .seq ref23_Of_c4 ref23_Of_c16
def ref23_Of_c2_r0 : List AStep := [⟨false, (some 5), none, [.const .nils], .pure Op.move, (some [])⟩]
def ref23_Of_c2 : ACode := .seq (.region ref23_Of_c2_r0) ref23_Of_c3
def ref23_Of_c1_r0 : List AStep := [⟨false, (some 4), none, [.const .nils], .pure Op.move, (some [])⟩]
def ref23_Of_c1 : ACode := .seq (.region ref23_Of_c1_r0) ref23_Of_c2
def ref23_Of_F : AFunc := ⟨[.tmp 4], ref23_Of_c1, []⟩
theorem ref23_Of_c9_w (ctx : Ctx) (tm : T AV) (dfs : List ADef) (up : Option Chain) (H : AHeap) (Q : Post) :
    WP AP ctx ref23_Of_c9 ⟨tm, dfs, up, H⟩ Q =
    (BI dirty (tm.get 10) fun g v => BI g (asBool v) fun g q => IG g q (fun g => GW AP g ctx .skip ⟨tm, dfs, up, H⟩ Q) (fun g => GW AP g ctx (.exit 0) ⟨tm, dfs, up, H⟩ Q)) := Gxcond AP ctx _ _ 10 .skip (.exit 0)
theorem ref23_Of_c8_w (ctx : Ctx) (tm : T AV) (dfs : List ADef) (up : Option Chain) (H : AHeap) (Q : Post) :
    WP AP ctx ref23_Of_c8 ⟨tm, dfs, up, H⟩ Q =
    (GS AP dirty ctx ref23_Of_c8_r0 ⟨tm, dfs, up, H⟩ (SEQ (WP AP ctx ref23_Of_c9) Q)) := Gxrseq AP ctx _ _ ref23_Of_c8_r0 ref23_Of_c9
theorem ref23_Of_c8_r0_w (ctx : Ctx) (tm : T AV) (dfs : List ADef) (up : Option Chain) (H : AHeap) (Q : Post) :
    GS AP true ctx ref23_Of_c8_r0 ⟨tm, dfs, up, H⟩ Q =
    (LK dirty (tm.get 6) fun g ti6 => BI g (Op.move [ti6]) fun g t7 => LK g (tm.get 0) fun g ti0 => BI g (Op.move [ti0]) fun g t8 => BI g (Op.lenSl [t8]) fun g t9 => 
    BI g ((Op.bin .lss) [t7, t9]) fun g t10 => GO g Q .normal ⟨(setsE [(10, t10), (9, t9), (8, t8), (7, t7)] tm), dfs, up, H⟩) := WPS_shallow (l := ref23_Of_c8_r0) (by kernel_rfl)
theorem ref23_Of_c14_w (ctx : Ctx) (tm : T AV) (dfs : List ADef) (up : Option Chain) (H : AHeap) (Q : Post) :
    WP AP ctx ref23_Of_c14 ⟨tm, dfs, up, H⟩ Q =
    (GS AP dirty ctx ref23_Of_c14_r0 ⟨tm, dfs, up, H⟩ Q) := Gxregion AP ctx _ _ ref23_Of_c14_r0
theorem ref23_Of_c14_r0_w (ctx : Ctx) (tm : T AV) (dfs : List ADef) (up : Option Chain) (H : AHeap) (Q : Post) :
    GS AP true ctx ref23_Of_c14_r0 ⟨tm, dfs, up, H⟩ Q =
    (LK dirty (tm.get 5) fun g ti5 => BI g (Op.move [ti5]) fun g t20 => LK g (tm.get 0) fun g ti0 => BI g (Op.move [ti0]) fun g t21 => LK g (tm.get 6) fun g ti6 => BI g (Op.move [ti6]) fun g t22 => 
    BI g ((Op.indexSl 9) [t21, t22]) fun g t23 => BI g ((Op.loadN 9) [t23] H) fun g t24 => BI2 g ((Op.buildSlice T_api_Event 1 [(.int .i64 0), (.int .i64 0), (.int .i64 0), (.int .i64 0), (.int .i64 0), (.int .i64 0), (.int .i64 0), (.int .u64 0), (.int .i64 0)] [(0, 9)]) [t24]) fun g o1 mk1 => BI2 g ((Op.append T_api_Event 9 72) [t20, (mk1 H.next)] (H.alloc o1)) fun g t26 H2 => 
    BI g (Op.move [t26]) fun g t5 => GO g Q .normal ⟨(setsE [(5, t5), (26, t26), (25, (mk1 H.next)), (24, t24), (23, t23), (22, t22), (21, t21), (20, t20)] tm), dfs, up, H2⟩) := WPS_shallow (l := ref23_Of_c14_r0) (by kernel_rfl)
theorem ref23_Of_c13_w (ctx : Ctx) (tm : T AV) (dfs : List ADef) (up : Option Chain) (H : AHeap) (Q : Post) :
    WP AP ctx ref23_Of_c13 ⟨tm, dfs, up, H⟩ Q =
    (BI dirty (tm.get 19) fun g v => BI g (asBool v) fun g q => IG g q (fun g => GW AP g ctx ref23_Of_c14 ⟨tm, dfs, up, H⟩ Q) (fun g => GW AP g ctx .skip ⟨tm, dfs, up, H⟩ Q)) := Gxcond AP ctx _ _ 19 ref23_Of_c14 .skip
theorem ref23_Of_c12_w (ctx : Ctx) (tm : T AV) (dfs : List ADef) (up : Option Chain) (H : AHeap) (Q : Post) :
    WP AP ctx ref23_Of_c12 ⟨tm, dfs, up, H⟩ Q =
    (GS AP dirty ctx ref23_Of_c12_r0 ⟨tm, dfs, up, H⟩ (SEQ (WP AP ctx ref23_Of_c13) Q)) := Gxrseq AP ctx _ _ ref23_Of_c12_r0 ref23_Of_c13
theorem ref23_Of_c12_r0_w (ctx : Ctx) (tm : T AV) (dfs : List ADef) (up : Option Chain) (H : AHeap) (Q : Post) :
    GS AP true ctx ref23_Of_c12_r0 ⟨tm, dfs, up, H⟩ Q =
    (LK dirty (tm.get 0) fun g ti0 => BI g (Op.move [ti0]) fun g t13 => LK g (tm.get 6) fun g ti6 => BI g (Op.move [ti6]) fun g t14 => BI g ((Op.indexSl 9) [t13, t14]) fun g t15 => 
    BI g ((Op.fieldAddr 2) [t15]) fun g t16 => BI g (Op.load1 [t16] H) fun g t17 => LK g (tm.get 1) fun g ti1 => BI g (Op.move [ti1]) fun g t18 => 
    BI g ((Op.bin .eql) [t17, t18]) fun g t19 => GO g Q .normal ⟨(setsE [(19, t19), (18, t18), (17, t17), (16, t16), (15, t15), (14, t14), (13, t13)] tm), dfs, up, H⟩) := WPS_shallow (l := ref23_Of_c12_r0) (by kernel_rfl)
theorem ref23_Of_c11_w (ctx : Ctx) (tm : T AV) (dfs : List ADef) (up : Option Chain) (H : AHeap) (Q : Post) :
    WP AP ctx ref23_Of_c11 ⟨tm, dfs, up, H⟩ Q =
    (WP AP ctx ref23_Of_c12 ⟨tm, dfs, up, H⟩ (BLK 1 Q)) := WP_block AP ctx _ _ 1 ref23_Of_c12
theorem ref23_Of_c15_w (ctx : Ctx) (tm : T AV) (dfs : List ADef) (up : Option Chain) (H : AHeap) (Q : Post) :
    WP AP ctx ref23_Of_c15 ⟨tm, dfs, up, H⟩ Q =
    (GS AP dirty ctx ref23_Of_c15_r0 ⟨tm, dfs, up, H⟩ Q) := Gxregion AP ctx _ _ ref23_Of_c15_r0
theorem ref23_Of_c15_r0_w (ctx : Ctx) (tm : T AV) (dfs : List ADef) (up : Option Chain) (H : AHeap) (Q : Post) :
    GS AP true ctx ref23_Of_c15_r0 ⟨tm, dfs, up, H⟩ Q =
    (LK dirty (tm.get 6) fun g ti6 => BI g (Op.move [ti6]) fun g t11 => BI g ((Op.bin .add) [t11, (.int .i64 1)]) fun g t12 => BI g (Op.move [t12]) fun g t6 => 
    GO g Q .normal ⟨(setsE [(6, t6), (12, t12), (11, t11)] tm), dfs, up, H⟩) := WPS_shallow (l := ref23_Of_c15_r0) (by kernel_rfl)
theorem ref23_Of_c10_w (ctx : Ctx) (tm : T AV) (dfs : List ADef) (up : Option Chain) (H : AHeap) (Q : Post) :
    WP AP ctx ref23_Of_c10 ⟨tm, dfs, up, H⟩ Q =
    (WP AP ctx ref23_Of_c11 ⟨tm, dfs, up, H⟩ (SEQ (WP AP ctx ref23_Of_c15) Q)) := WP_seq AP ctx _ _ ref23_Of_c11 ref23_Of_c15
theorem ref23_Of_c7_w (ctx : Ctx) (tm : T AV) (dfs : List ADef) (up : Option Chain) (H : AHeap) (Q : Post) :
    WP AP ctx ref23_Of_c7 ⟨tm, dfs, up, H⟩ Q =
    (WP AP ctx ref23_Of_c8 ⟨tm, dfs, up, H⟩ (SEQ (WP AP ctx ref23_Of_c10) Q)) := WP_seq AP ctx _ _ ref23_Of_c8 ref23_Of_c10
theorem ref23_Of_c6_w (ctx : Ctx) (tm : T AV) (dfs : List ADef) (up : Option Chain) (H : AHeap) (Q : Post) :
    WP AP ctx ref23_Of_c6 ⟨tm, dfs, up, H⟩ Q =
    (LOOP (WP AP ctx ref23_Of_c7) none ⟨tm, dfs, up, H⟩ Q) := WP_loop AP ctx _ _ none ref23_Of_c7
theorem ref23_Of_c5_w (ctx : Ctx) (tm : T AV) (dfs : List ADef) (up : Option Chain) (H : AHeap) (Q : Post) :
    WP AP ctx ref23_Of_c5 ⟨tm, dfs, up, H⟩ Q =
    (WP AP ctx ref23_Of_c6 ⟨tm, dfs, up, H⟩ (BLK 0 Q)) := WP_block AP ctx _ _ 0 ref23_Of_c6
theorem ref23_Of_c4_w (ctx : Ctx) (tm : T AV) (dfs : List ADef) (up : Option Chain) (H : AHeap) (Q : Post) :
    WP AP ctx ref23_Of_c4 ⟨tm, dfs, up, H⟩ Q =
    (GS AP dirty ctx ref23_Of_c4_r0 ⟨tm, dfs, up, H⟩ (SEQ (WP AP ctx ref23_Of_c5) Q)) := Gxrseq AP ctx _ _ ref23_Of_c4_r0 ref23_Of_c5
theorem ref23_Of_c4_r0_w (ctx : Ctx) (tm : T AV) (dfs : List ADef) (up : Option Chain) (H : AHeap) (Q : Post) :
    GS AP true ctx ref23_Of_c4_r0 ⟨tm, dfs, up, H⟩ Q =
    (BI dirty (Op.move [(.int .i64 0)]) fun g t6 => GO g Q .normal ⟨(setsE [(6, t6)] tm), dfs, up, H⟩) := WPS_shallow (l := ref23_Of_c4_r0) (by kernel_rfl)
theorem ref23_Of_c16_w (ctx : Ctx) (tm : T AV) (dfs : List ADef) (up : Option Chain) (H : AHeap) (Q : Post) :
    WP AP ctx ref23_Of_c16 ⟨tm, dfs, up, H⟩ Q =
    (GS AP dirty ctx ref23_Of_c16_r0 ⟨tm, dfs, up, H⟩ (SEQ (WP AP ctx .ret) Q)) := Gxrseq AP ctx _ _ ref23_Of_c16_r0 .ret
theorem ref23_Of_c16_r0_w (ctx : Ctx) (tm : T AV) (dfs : List ADef) (up : Option Chain) (H : AHeap) (Q : Post) :
    GS AP true ctx ref23_Of_c16_r0 ⟨tm, dfs, up, H⟩ Q =
    (LK dirty (tm.get 5) fun g ti5 => BI g (Op.move [ti5]) fun g t27 => BI g (Op.move [t27]) fun g t4 => GO g Q .normal ⟨(setsE [(4, t4), (27, t27)] tm), dfs, up, H⟩) := WPS_shallow (l := ref23_Of_c16_r0) (by kernel_rfl)
theorem ref23_Of_c3_w (ctx : Ctx) (tm : T AV) (dfs : List ADef) (up : Option Chain) (H : AHeap) (Q : Post) :
    WP AP ctx ref23_Of_c3 ⟨tm, dfs, up, H⟩ Q =
    (WP AP ctx ref23_Of_c4 ⟨tm, dfs, up, H⟩ (SEQ (WP AP ctx ref23_Of_c16) Q)) := WP_seq AP ctx _ _ ref23_Of_c4 ref23_Of_c16
theorem ref23_Of_c2_w (ctx : Ctx) (tm : T AV) (dfs : List ADef) (up : Option Chain) (H : AHeap) (Q : Post) :
    WP AP ctx ref23_Of_c2 ⟨tm, dfs, up, H⟩ Q =
    (GS AP dirty ctx ref23_Of_c2_r0 ⟨tm, dfs, up, H⟩ (SEQ (WP AP ctx ref23_Of_c3) Q)) := Gxrseq AP ctx _ _ ref23_Of_c2_r0 ref23_Of_c3
theorem ref23_Of_c2_r0_w (ctx : Ctx) (tm : T AV) (dfs : List ADef) (up : Option Chain) (H : AHeap) (Q : Post) :
    GS AP true ctx ref23_Of_c2_r0 ⟨tm, dfs, up, H⟩ Q =
    (BI dirty (Op.move [.nils]) fun g t5 => GO g Q .normal ⟨(setsE [(5, t5)] tm), dfs, up, H⟩) := WPS_shallow (l := ref23_Of_c2_r0) (by kernel_rfl)
theorem ref23_Of_c1_w (ctx : Ctx) (tm : T AV) (dfs : List ADef) (up : Option Chain) (H : AHeap) (Q : Post) :
    WP AP ctx ref23_Of_c1 ⟨tm, dfs, up, H⟩ Q =
    (GS AP dirty ctx ref23_Of_c1_r0 ⟨tm, dfs, up, H⟩ (SEQ (WP AP ctx ref23_Of_c2) Q)) := Gxrseq AP ctx _ _ ref23_Of_c1_r0 ref23_Of_c2
theorem ref23_Of_c1_r0_w (ctx : Ctx) (tm : T AV) (dfs : List ADef) (up : Option Chain) (H : AHeap) (Q : Post) :
    GS AP true ctx ref23_Of_c1_r0 ⟨tm, dfs, up, H⟩ Q =
    (BI dirty (Op.move [.nils]) fun g t4 => GO g Q .normal ⟨(setsE [(4, t4)] tm), dfs, up, H⟩) := WPS_shallow (l := ref23_Of_c1_r0) (by kernel_rfl)
/-! ### shunt/trace.Between -/
def trace_Between_c2_r0 : List AStep := [⟨false, (some 7), none, [.tmp 0], .pure Op.move, (some [])⟩,
  ⟨false, (some 8), none, [.tmp 4, .tmp 5], .pure (Op.mkFunc N_trace_Between_1 0), (some [])⟩,
  ⟨false, (some 9), none, [.tmp 7, .tmp 8], .callF N_trace_sift_api_Event, (some [])⟩,
  ⟨false, (some 6), none, [.tmp 9], .pure Op.move, (some [])⟩]
def trace_Between_c2 : ACode := .seq (.region trace_Between_c2_r0) .ret
def trace_Between_c1_r0 : List AStep := [⟨false, (some 4), none, [.tmp 1], .alloc (Op.box T_int), (some [])⟩,
  ⟨false, (some 5), none, [.tmp 2], .alloc (Op.box T_int), (some [])⟩,
  ⟨false, (some 6), none, [.const .nils], .pure Op.move, (some [])⟩]
def trace_Between_c1 : ACode := .seq (.region trace_Between_c1_r0) trace_Between_c2
def trace_Between_F : AFunc := ⟨[.tmp 6], trace_Between_c1, []⟩
theorem trace_Between_c2_w (ctx : Ctx) (tm : T AV) (dfs : List ADef) (up : Option Chain) (H : AHeap) (Q : Post) :
    WP AP ctx trace_Between_c2 ⟨tm, dfs, up, H⟩ Q =
    (GS AP dirty ctx trace_Between_c2_r0 ⟨tm, dfs, up, H⟩ (SEQ (WP AP ctx .ret) Q)) := Gxrseq AP ctx _ _ trace_Between_c2_r0 .ret
theorem trace_Between_c2_r0_w (ctx : Ctx) (tm : T AV) (dfs : List ADef) (up : Option Chain) (H : AHeap) (Q : Post) :
    GS AP true ctx trace_Between_c2_r0 ⟨tm, dfs, up, H⟩ Q =
    (LK dirty (tm.get 0) fun g ti0 => BI g (Op.move [ti0]) fun g t7 => LK g (tm.get 4) fun g ti4 => LK g (tm.get 5) fun g ti5 => BI g ((Op.mkFunc N_trace_Between_1 0) [ti4, ti5]) fun g t8 => CA AP g (.func N_trace_sift_api_Event) [t7, t8] H (fun g t9 H1 => 
    BI g (Op.move [t9]) fun g t6 => GO g Q .normal ⟨(setsE [(6, t6), (9, t9), (8, t8), (7, t7)] tm), dfs, up, H1⟩) (PAN (some []) (setsE [(8, t8), (7, t7)] tm) dfs up Q)) := WPS_shallow (l := trace_Between_c2_r0) (by kernel_rfl)
theorem trace_Between_c1_w (ctx : Ctx) (tm : T AV) (dfs : List ADef) (up : Option Chain) (H : AHeap) (Q : Post) :
    WP AP ctx trace_Between_c1 ⟨tm, dfs, up, H⟩ Q =
    (GS AP dirty ctx trace_Between_c1_r0 ⟨tm, dfs, up, H⟩ (SEQ (WP AP ctx trace_Between_c2) Q)) := Gxrseq AP ctx _ _ trace_Between_c1_r0 trace_Between_c2
theorem trace_Between_c1_r0_w (ctx : Ctx) (tm : T AV) (dfs : List ADef) (up : Option Chain) (H : AHeap) (Q : Post) :
    GS AP true ctx trace_Between_c1_r0 ⟨tm, dfs, up, H⟩ Q =
    (LK dirty (tm.get 1) fun g ti1 => BI2 g ((Op.box T_int) [ti1]) fun g o1 mk1 => LK g (tm.get 2) fun g ti2 => BI2 g ((Op.box T_int) [ti2]) fun g o2 mk2 => BI g (Op.move [.nils]) fun g t6 => 
    GO g Q .normal ⟨(setsE [(6, t6), (5, (mk2 (H.alloc o1).next)), (4, (mk1 H.next))] tm), dfs, up, ((H.alloc o1).alloc o2)⟩) := WPS_shallow (l := trace_Between_c1_r0) (by kernel_rfl)
/-! ### shunt/shuntref23.Between -/
def ref23_Between_c9 : ACode := .cond (.tmp 12) .skip (.exit 0)
def ref23_Between_c8_r0 : List AStep := [⟨false, (some 9), none, [.tmp 8], .pure Op.move, (some [])⟩,
  ⟨false, (some 10), none, [.tmp 0], .pure Op.move, (some [])⟩,
  ⟨false, (some 11), none, [.tmp 10], .pure Op.lenSl, (some [])⟩,
  ⟨false, (some 12), none, [.tmp 9, .tmp 11], .pure (Op.bin .lss), (some [])⟩]
def ref23_Between_c8 : ACode := .seq (.region ref23_Between_c8_r0) ref23_Between_c9
def ref23_Between_c14_r0 : List AStep := [⟨false, (some 31), none, [.tmp 7], .pure Op.move, (some [])⟩,
  ⟨false, (some 32), none, [.tmp 0], .pure Op.move, (some [])⟩,
  ⟨false, (some 33), none, [.tmp 8], .pure Op.move, (some [])⟩,
  ⟨false, (some 34), none, [.tmp 32, .tmp 33], .pure (Op.indexSl 9), (some [])⟩,
  ⟨false, (some 35), none, [.tmp 34], .read (Op.loadN 9), (some [])⟩,
  ⟨false, (some 36), none, [.tmp 35], .alloc (Op.buildSlice T_api_Event 1 [(.int .i64 0), (.int .i64 0), (.int .i64 0), (.int .i64 0), (.int .i64 0), (.int .i64 0), (.int .i64 0), (.int .u64 0), (.int .i64 0)] [(0, 9)]), (some [])⟩,
  ⟨false, (some 37), none, [.tmp 31, .tmp 36], .eff (Op.append T_api_Event 9 72), (some [])⟩,
  ⟨false, (some 7), none, [.tmp 37], .pure Op.move, (some [])⟩]
def ref23_Between_c14 : ACode := .region ref23_Between_c14_r0
def ref23_Between_c13 : ACode := .cond (.tmp 30) ref23_Between_c14 .skip
def ref23_Between_c12_r7 : List AStep := [⟨false, (some 30), none, [.tmp 22, .tmp 29, .const (.bool false)], .pure Op.pick, (some [])⟩]
def ref23_Between_c12_r6a : List AStep := [⟨false, (some 29), (some (22, true)), [.tmp 27, .tmp 28], .pure (Op.bin .lss), (some [])⟩]
def ref23_Between_c12_r6 : List AStep := ref23_Between_c12_r6a ++ ref23_Between_c12_r7
def ref23_Between_c12_r5a : List AStep := [⟨false, (some 28), (some (22, true)), [.tmp 2], .pure Op.move, (some [])⟩]
def ref23_Between_c12_r5 : List AStep := ref23_Between_c12_r5a ++ ref23_Between_c12_r6
def ref23_Between_c12_r4a : List AStep := [⟨false, (some 27), (some (22, true)), [.tmp 26], .read Op.load1, (some [])⟩]
def ref23_Between_c12_r4 : List AStep := ref23_Between_c12_r4a ++ ref23_Between_c12_r5
def ref23_Between_c12_r3a : List AStep := [⟨false, (some 26), (some (22, true)), [.tmp 25], .pure (Op.fieldAddr 1), (some [])⟩]
def ref23_Between_c12_r3 : List AStep := ref23_Between_c12_r3a ++ ref23_Between_c12_r4
def ref23_Between_c12_r2a : List AStep := [⟨false, (some 25), (some (22, true)), [.tmp 23, .tmp 24], .pure (Op.indexSl 9), (some [])⟩]
def ref23_Between_c12_r2 : List AStep := ref23_Between_c12_r2a ++ ref23_Between_c12_r3
def ref23_Between_c12_r1a : List AStep := [⟨false, (some 24), (some (22, true)), [.tmp 8], .pure Op.move, (some [])⟩]
def ref23_Between_c12_r1 : List AStep := ref23_Between_c12_r1a ++ ref23_Between_c12_r2
def ref23_Between_c12_r0a : List AStep := [⟨false, (some 15), none, [.tmp 0], .pure Op.move, (some [])⟩,
  ⟨false, (some 16), none, [.tmp 8], .pure Op.move, (some [])⟩,
  ⟨false, (some 17), none, [.tmp 15, .tmp 16], .pure (Op.indexSl 9), (some [])⟩,
  ⟨false, (some 18), none, [.tmp 17], .pure (Op.fieldAddr 1), (some [])⟩,
  ⟨false, (some 19), none, [.tmp 18], .read Op.load1, (some [])⟩,
  ⟨false, (some 20), none, [.tmp 1], .pure Op.move, (some [])⟩,
  ⟨false, (some 21), none, [.tmp 19, .tmp 20], .pure (Op.bin .geq), (some [])⟩,
  ⟨false, (some 22), none, [.tmp 21], .pure Op.move, (some [])⟩,
  ⟨false, (some 23), (some (22, true)), [.tmp 0], .pure Op.move, (some [])⟩]
def ref23_Between_c12_r0 : List AStep := ref23_Between_c12_r0a ++ ref23_Between_c12_r1
def ref23_Between_c12 : ACode := .seq (.region ref23_Between_c12_r0) ref23_Between_c13
def ref23_Between_c11 : ACode := .block 1 ref23_Between_c12
def ref23_Between_c15_r0 : List AStep := [⟨false, (some 13), none, [.tmp 8], .pure Op.move, (some [])⟩,
  ⟨false, (some 14), none, [.tmp 13, .const (.int .i64 1)], .pure (Op.bin .add), (some [])⟩,
  ⟨false, (some 8), none, [.tmp 14], .pure Op.move, (some [])⟩]
def ref23_Between_c15 : ACode := .region ref23_Between_c15_r0
def ref23_Between_c10 : ACode := .seq ref23_Between_c11 ref23_Between_c15
def ref23_Between_c7 : ACode := .seq ref23_Between_c8 ref23_Between_c10
def ref23_Between_c6 : ACode := .loop none ref23_Between_c7
def ref23_Between_c5 : ACode := .block 0 ref23_Between_c6
def ref23_Between_c4_r0 : List AStep := [⟨false, (some 8), none, [.const (.int .i64 0)], .pure Op.move, (some [])⟩]
def ref23_Between_c4 : ACode := .seq (.region ref23_Between_c4_r0) ref23_Between_c5
def ref23_Between_c16_r0 : List AStep := [⟨false, (some 38), none, [.tmp 7], .pure Op.move, (some [])⟩,
  ⟨false, (some 6), none, [.tmp 38], .pure Op.move, (some [])⟩]
def ref23_Between_c16 : ACode := .seq (.region ref23_Between_c16_r0) .ret
def ref23_Between_c3 : ACode := .seq ref23_Between_c4 ref23_Between_c16
def ref23_Between_c2_r0 : List AStep := [⟨false, (some 7), none, [.const .nils], .pure Op.move, (some [])⟩]
def ref23_Between_c2 : ACode := .seq (.region ref23_Between_c2_r0) ref23_Between_c3
def ref23_Between_c1_r0 : List AStep := [⟨false, (some 6), none, [.const .nils], .pure Op.move, (some [])⟩]
def ref23_Between_c1 : ACode := .seq (.region ref23_Between_c1_r0) ref23_Between_c2
def ref23_Between_F : AFunc := ⟨[.tmp 6], ref23_Between_c1, []⟩
theorem ref23_Between_c9_w (ctx : Ctx) (tm : T AV) (dfs : List ADef) (up : Option Chain) (H : AHeap) (Q : Post) :
    WP AP ctx ref23_Between_c9 ⟨tm, dfs, up, H⟩ Q =
    (BI dirty (tm.get 12) fun g v => BI g (asBool v) fun g q => IG g q (fun g => GW AP g ctx .skip ⟨tm, dfs, up, H⟩ Q) (fun g => GW AP g ctx (.exit 0) ⟨tm, dfs, up, H⟩ Q)) := Gxcond AP ctx _ _ 12 .skip (.exit 0)
theorem ref23_Between_c8_w (ctx : Ctx) (tm : T AV) (dfs : List ADef) (up : Option Chain) (H : AHeap) (Q : Post) :
    WP AP ctx ref23_Between_c8 ⟨tm, dfs, up, H⟩ Q =
    (GS AP dirty ctx ref23_Between_c8_r0 ⟨tm, dfs, up, H⟩ (SEQ (WP AP ctx ref23_Between_c9) Q)) := Gxrseq AP ctx _ _ ref23_Between_c8_r0 ref23_Between_c9
theorem ref23_Between_c8_r0_w (ctx : Ctx) (tm : T AV) (dfs : List ADef) (up : Option Chain) (H : AHeap) (Q : Post) :
    GS AP true ctx ref23_Between_c8_r0 ⟨tm, dfs, up, H⟩ Q =
    (LK dirty (tm.get 8) fun g ti8 => BI g (Op.move [ti8]) fun g t9 => LK g (tm.get 0) fun g ti0 => BI g (Op.move [ti0]) fun g t10 => BI g (Op.lenSl [t10]) fun g t11 => 
    BI g ((Op.bin .lss) [t9, t11]) fun g t12 => GO g Q .normal ⟨(setsE [(12, t12), (11, t11), (10, t10), (9, t9)] tm), dfs, up, H⟩) := WPS_shallow (l := ref23_Between_c8_r0) (by kernel_rfl)
theorem ref23_Between_c14_w (ctx : Ctx) (tm : T AV) (dfs : List ADef) (up : Option Chain) (H : AHeap) (Q : Post) :
    WP AP ctx ref23_Between_c14 ⟨tm, dfs, up, H⟩ Q =
    (GS AP dirty ctx ref23_Between_c14_r0 ⟨tm, dfs, up, H⟩ Q) := Gxregion AP ctx _ _ ref23_Between_c14_r0
theorem ref23_Between_c14_r0_w (ctx : Ctx) (tm : T AV) (dfs : List ADef) (up : Option Chain) (H : AHeap) (Q : Post) :
    GS AP true ctx ref23_Between_c14_r0 ⟨tm, dfs, up, H⟩ Q =
    (LK dirty (tm.get 7) fun g ti7 => BI g (Op.move [ti7]) fun g t31 => LK g (tm.get 0) fun g ti0 => BI g (Op.move [ti0]) fun g t32 => LK g (tm.get 8) fun g ti8 => BI g (Op.move [ti8]) fun g t33 => 
    BI g ((Op.indexSl 9) [t32, t33]) fun g t34 => BI g ((Op.loadN 9) [t34] H) fun g t35 => BI2 g ((Op.buildSlice T_api_Event 1 [(.int .i64 0), (.int .i64 0), (.int .i64 0), (.int .i64 0), (.int .i64 0), (.int .i64 0), (.int .i64 0), (.int .u64 0), (.int .i64 0)] [(0, 9)]) [t35]) fun g o1 mk1 => BI2 g ((Op.append T_api_Event 9 72) [t31, (mk1 H.next)] (H.alloc o1)) fun g t37 H2 => 
    BI g (Op.move [t37]) fun g t7 => GO g Q .normal ⟨(setsE [(7, t7), (37, t37), (36, (mk1 H.next)), (35, t35), (34, t34), (33, t33), (32, t32), (31, t31)] tm), dfs, up, H2⟩) := WPS_shallow (l := ref23_Between_c14_r0) (by kernel_rfl)
theorem ref23_Between_c13_w (ctx : Ctx) (tm : T AV) (dfs : List ADef) (up : Option Chain) (H : AHeap) (Q : Post) :
    WP AP ctx ref23_Between_c13 ⟨tm, dfs, up, H⟩ Q =
    (BI dirty (tm.get 30) fun g v => BI g (asBool v) fun g q => IG g q (fun g => GW AP g ctx ref23_Between_c14 ⟨tm, dfs, up, H⟩ Q) (fun g => GW AP g ctx .skip ⟨tm, dfs, up, H⟩ Q)) := Gxcond AP ctx _ _ 30 ref23_Between_c14 .skip
theorem ref23_Between_c12_w (ctx : Ctx) (tm : T AV) (dfs : List ADef) (up : Option Chain) (H : AHeap) (Q : Post) :
    WP AP ctx ref23_Between_c12 ⟨tm, dfs, up, H⟩ Q =
    (GS AP dirty ctx ref23_Between_c12_r0 ⟨tm, dfs, up, H⟩ (SEQ (WP AP ctx ref23_Between_c13) Q)) := Gxrseq AP ctx _ _ ref23_Between_c12_r0 ref23_Between_c13
theorem ref23_Between_c12_r0_w (ctx : Ctx) (tm : T AV) (dfs : List ADef) (up : Option Chain) (H : AHeap) (Q : Post) :
    GS AP true ctx ref23_Between_c12_r0 ⟨tm, dfs, up, H⟩ Q =
    (LK dirty (tm.get 0) fun g ti0 => BI g (Op.move [ti0]) fun g t15 => LK g (tm.get 8) fun g ti8 => BI g (Op.move [ti8]) fun g t16 => BI g ((Op.indexSl 9) [t15, t16]) fun g t17 => 
    BI g ((Op.fieldAddr 1) [t17]) fun g t18 => BI g (Op.load1 [t18] H) fun g t19 => LK g (tm.get 1) fun g ti1 => BI g (Op.move [ti1]) fun g t20 => 
    BI g ((Op.bin .geq) [t19, t20]) fun g t21 => BI g (Op.move [t21]) fun g t22 => BI g (wantV true (some t22)) fun g w => IG g w (fun g => LK g (tm.get 0) fun g ti0_1 => BI g (Op.move [ti0_1]) fun g t23 => 
    GS AP g ctx ref23_Between_c12_r1 ⟨(setsE [(23, t23), (22, t22), (21, t21), (20, t20), (19, t19), (18, t18), (17, t17), (16, t16), (15, t15)] tm), dfs, up, H⟩ Q) (fun g => GS AP g ctx ref23_Between_c12_r1 ⟨(setsE [(23, .undef), (22, t22), (21, t21), (20, t20), (19, t19), (18, t18), (17, t17), (16, t16), (15, t15)] tm), dfs, up, H⟩ Q)) := WPS_part (l := ref23_Between_c12_r0a) (tail := ref23_Between_c12_r1) (by kernel_rfl)
theorem ref23_Between_c12_r1_w (ctx : Ctx) (tm : T AV) (dfs : List ADef) (up : Option Chain) (H : AHeap) (Q : Post) :
    GS AP true ctx ref23_Between_c12_r1 ⟨tm, dfs, up, H⟩ Q =
    (BI dirty (wantV true (tm.get 22)) fun g w => IG g w (fun g => LK g (tm.get 8) fun g ti8 => BI g (Op.move [ti8]) fun g t24 => GS AP g ctx ref23_Between_c12_r2 ⟨(setsE [(24, t24)] tm), dfs, up, H⟩ Q) (fun g => GS AP g ctx ref23_Between_c12_r2 ⟨(setsE [(24, .undef)] tm), dfs, up, H⟩ Q)) := WPS_part (l := ref23_Between_c12_r1a) (tail := ref23_Between_c12_r2) (by kernel_rfl)
theorem ref23_Between_c12_r2_w (ctx : Ctx) (tm : T AV) (dfs : List ADef) (up : Option Chain) (H : AHeap) (Q : Post) :
    GS AP true ctx ref23_Between_c12_r2 ⟨tm, dfs, up, H⟩ Q =
    (BI dirty (wantV true (tm.get 22)) fun g w => IG g w (fun g => LK g (tm.get 23) fun g ti23 => LK g (tm.get 24) fun g ti24 => BI g ((Op.indexSl 9) [ti23, ti24]) fun g t25 => GS AP g ctx ref23_Between_c12_r3 ⟨(setsE [(25, t25)] tm), dfs, up, H⟩ Q) (fun g => GS AP g ctx ref23_Between_c12_r3 ⟨(setsE [(25, .undef)] tm), dfs, up, H⟩ Q)) := WPS_part (l := ref23_Between_c12_r2a) (tail := ref23_Between_c12_r3) (by kernel_rfl)
theorem ref23_Between_c12_r3_w (ctx : Ctx) (tm : T AV) (dfs : List ADef) (up : Option Chain) (H : AHeap) (Q : Post) :
    GS AP true ctx ref23_Between_c12_r3 ⟨tm, dfs, up, H⟩ Q =
    (BI dirty (wantV true (tm.get 22)) fun g w => IG g w (fun g => LK g (tm.get 25) fun g ti25 => BI g ((Op.fieldAddr 1) [ti25]) fun g t26 => GS AP g ctx ref23_Between_c12_r4 ⟨(setsE [(26, t26)] tm), dfs, up, H⟩ Q) (fun g => GS AP g ctx ref23_Between_c12_r4 ⟨(setsE [(26, .undef)] tm), dfs, up, H⟩ Q)) := WPS_part (l := ref23_Between_c12_r3a) (tail := ref23_Between_c12_r4) (by kernel_rfl)
theorem ref23_Between_c12_r4_w (ctx : Ctx) (tm : T AV) (dfs : List ADef) (up : Option Chain) (H : AHeap) (Q : Post) :
    GS AP true ctx ref23_Between_c12_r4 ⟨tm, dfs, up, H⟩ Q =
    (BI dirty (wantV true (tm.get 22)) fun g w => IG g w (fun g => LK g (tm.get 26) fun g ti26 => BI g (Op.load1 [ti26] H) fun g t27 => GS AP g ctx ref23_Between_c12_r5 ⟨(setsE [(27, t27)] tm), dfs, up, H⟩ Q) (fun g => GS AP g ctx ref23_Between_c12_r5 ⟨(setsE [(27, .undef)] tm), dfs, up, H⟩ Q)) := WPS_part (l := ref23_Between_c12_r4a) (tail := ref23_Between_c12_r5) (by kernel_rfl)
theorem ref23_Between_c12_r5_w (ctx : Ctx) (tm : T AV) (dfs : List ADef) (up : Option Chain) (H : AHeap) (Q : Post) :
    GS AP true ctx ref23_Between_c12_r5 ⟨tm, dfs, up, H⟩ Q =
    (BI dirty (wantV true (tm.get 22)) fun g w => IG g w (fun g => LK g (tm.get 2) fun g ti2 => BI g (Op.move [ti2]) fun g t28 => GS AP g ctx ref23_Between_c12_r6 ⟨(setsE [(28, t28)] tm), dfs, up, H⟩ Q) (fun g => GS AP g ctx ref23_Between_c12_r6 ⟨(setsE [(28, .undef)] tm), dfs, up, H⟩ Q)) := WPS_part (l := ref23_Between_c12_r5a) (tail := ref23_Between_c12_r6) (by kernel_rfl)
theorem ref23_Between_c12_r6_w (ctx : Ctx) (tm : T AV) (dfs : List ADef) (up : Option Chain) (H : AHeap) (Q : Post) :
    GS AP true ctx ref23_Between_c12_r6 ⟨tm, dfs, up, H⟩ Q =
    (BI dirty (wantV true (tm.get 22)) fun g w => IG g w (fun g => LK g (tm.get 27) fun g ti27 => LK g (tm.get 28) fun g ti28 => BI g ((Op.bin .lss) [ti27, ti28]) fun g t29 => GS AP g ctx ref23_Between_c12_r7 ⟨(setsE [(29, t29)] tm), dfs, up, H⟩ Q) (fun g => GS AP g ctx ref23_Between_c12_r7 ⟨(setsE [(29, .undef)] tm), dfs, up, H⟩ Q)) := WPS_part (l := ref23_Between_c12_r6a) (tail := ref23_Between_c12_r7) (by kernel_rfl)
theorem ref23_Between_c12_r7_w (ctx : Ctx) (tm : T AV) (dfs : List ADef) (up : Option Chain) (H : AHeap) (Q : Post) :
    GS AP true ctx ref23_Between_c12_r7 ⟨tm, dfs, up, H⟩ Q =
    (LK dirty (tm.get 22) fun g ti22 => LK g (tm.get 29) fun g ti29 => BI g (Op.pick [ti22, ti29, (.bool false)]) fun g t30 => GO g Q .normal ⟨(setsE [(30, t30)] tm), dfs, up, H⟩) := WPS_shallow (l := ref23_Between_c12_r7) (by kernel_rfl)
theorem ref23_Between_c11_w (ctx : Ctx) (tm : T AV) (dfs : List ADef) (up : Option Chain) (H : AHeap) (Q : Post) :
    WP AP ctx ref23_Between_c11 ⟨tm, dfs, up, H⟩ Q =
    (WP AP ctx ref23_Between_c12 ⟨tm, dfs, up, H⟩ (BLK 1 Q)) := WP_block AP ctx _ _ 1 ref23_Between_c12
theorem ref23_Between_c15_w (ctx : Ctx) (tm : T AV) (dfs : List ADef) (up : Option Chain) (H : AHeap) (Q : Post) :
    WP AP ctx ref23_Between_c15 ⟨tm, dfs, up, H⟩ Q =
    (GS AP dirty ctx ref23_Between_c15_r0 ⟨tm, dfs, up, H⟩ Q) := Gxregion AP ctx _ _ ref23_Between_c15_r0
theorem ref23_Between_c15_r0_w (ctx : Ctx) (tm : T AV) (dfs : List ADef) (up : Option Chain) (H : AHeap) (Q : Post) :
    GS AP true ctx ref23_Between_c15_r0 ⟨tm, dfs, up, H⟩ Q =
    (LK dirty (tm.get 8) fun g ti8 => BI g (Op.move [ti8]) fun g t13 => BI g ((Op.bin .add) [t13, (.int .i64 1)]) fun g t14 => BI g (Op.move [t14]) fun g t8 => 
    GO g Q .normal ⟨(setsE [(8, t8), (14, t14), (13, t13)] tm), dfs, up, H⟩) := WPS_shallow (l := ref23_Between_c15_r0) (by kernel_rfl)
theorem ref23_Between_c10_w (ctx : Ctx) (tm : T AV) (dfs : List ADef) (up : Option Chain) (H : AHeap) (Q : Post) :
    WP AP ctx ref23_Between_c10 ⟨tm, dfs, up, H⟩ Q =
    (WP AP ctx ref23_Between_c11 ⟨tm, dfs, up, H⟩ (SEQ (WP AP ctx ref23_Between_c15) Q)) := WP_seq AP ctx _ _ ref23_Between_c11 ref23_Between_c15
theorem ref23_Between_c7_w (ctx : Ctx) (tm : T AV) (dfs : List ADef) (up : Option Chain) (H : AHeap) (Q : Post) :
    WP AP ctx ref23_Between_c7 ⟨tm, dfs, up, H⟩ Q =
    (WP AP ctx ref23_Between_c8 ⟨tm, dfs, up, H⟩ (SEQ (WP AP ctx ref23_Between_c10) Q)) := WP_seq AP ctx _ _ ref23_Between_c8 ref23_Between_c10
theorem ref23_Between_c6_w (ctx : Ctx) (tm : T AV) (dfs : List ADef) (up : Option Chain) (H : AHeap) (Q : Post) :
    WP AP ctx ref23_Between_c6 ⟨tm, dfs, up, H⟩ Q =
    (LOOP (WP AP ctx ref23_Between_c7) none ⟨tm, dfs, up, H⟩ Q) := WP_loop AP ctx _ _ none ref23_Between_c7
theorem ref23_Between_c5_w (ctx : Ctx) (tm : T AV) (dfs : List ADef) (up : Option Chain) (H : AHeap) (Q : Post) :
    WP AP ctx ref23_Between_c5 ⟨tm, dfs, up, H⟩ Q =
    (WP AP ctx ref23_Between_c6 ⟨tm, dfs, up, H⟩ (BLK 0 Q)) := WP_block AP ctx _ _ 0 ref23_Between_c6
theorem ref23_Between_c4_w (ctx : Ctx) (tm : T AV) (dfs : List ADef) (up : Option Chain) (H : AHeap) (Q : Post) :
    WP AP ctx ref23_Between_c4 ⟨tm, dfs, up, H⟩ Q =
    (GS AP dirty ctx ref23_Between_c4_r0 ⟨tm, dfs, up, H⟩ (SEQ (WP AP ctx ref23_Between_c5) Q)) := Gxrseq AP ctx _ _ ref23_Between_c4_r0 ref23_Between_c5
theorem ref23_Between_c4_r0_w (ctx : Ctx) (tm : T AV) (dfs : List ADef) (up : Option Chain) (H : AHeap) (Q : Post) :
    GS AP true ctx ref23_Between_c4_r0 ⟨tm, dfs, up, H⟩ Q =
    (BI dirty (Op.move [(.int .i64 0)]) fun g t8 => GO g Q .normal ⟨(setsE [(8, t8)] tm), dfs, up, H⟩) := WPS_shallow (l := ref23_Between_c4_r0) (by kernel_rfl)
theorem ref23_Between_c16_w (ctx : Ctx) (tm : T AV) (dfs : List ADef) (up : Option Chain) (H : AHeap) (Q : Post) :
    WP AP ctx ref23_Between_c16 ⟨tm, dfs, up, H⟩ Q =
    (GS AP dirty ctx ref23_Between_c16_r0 ⟨tm, dfs, up, H⟩ (SEQ (WP AP ctx .ret) Q)) := Gxrseq AP ctx _ _ ref23_Between_c16_r0 .ret
theorem ref23_Between_c16_r0_w (ctx : Ctx) (tm : T AV) (dfs : List ADef) (up : Option Chain) (H : AHeap) (Q : Post) :
    GS AP true ctx ref23_Between_c16_r0 ⟨tm, dfs, up, H⟩ Q =
    (LK dirty (tm.get 7) fun g ti7 => BI g (Op.move [ti7]) fun g t38 => BI g (Op.move [t38]) fun g t6 => GO g Q .normal ⟨(setsE [(6, t6), (38, t38)] tm), dfs, up, H⟩) := WPS_shallow (l := ref23_Between_c16_r0) (by kernel_rfl)
theorem ref23_Between_c3_w (ctx : Ctx) (tm : T AV) (dfs : List ADef) (up : Option Chain) (H : AHeap) (Q : Post) :
    WP AP ctx ref23_Between_c3 ⟨tm, dfs, up, H⟩ Q =
    (WP AP ctx ref23_Between_c4 ⟨tm, dfs, up, H⟩ (SEQ (WP AP ctx ref23_Between_c16) Q)) := WP_seq AP ctx _ _ ref23_Between_c4 ref23_Between_c16
theorem ref23_Between_c2_w (ctx : Ctx) (tm : T AV) (dfs : List ADef) (up : Option Chain) (H : AHeap) (Q : Post) :
    WP AP ctx ref23_Between_c2 ⟨tm, dfs, up, H⟩ Q =
    (GS AP dirty ctx ref23_Between_c2_r0 ⟨tm, dfs, up, H⟩ (SEQ (WP AP ctx ref23_Between_c3) Q)) := Gxrseq AP ctx _ _ ref23_Between_c2_r0 ref23_Between_c3
theorem ref23_Between_c2_r0_w (ctx : Ctx) (tm : T AV) (dfs : List ADef) (up : Option Chain) (H : AHeap) (Q : Post) :
    GS AP true ctx ref23_Between_c2_r0 ⟨tm, dfs, up, H⟩ Q =
    (BI dirty (Op.move [.nils]) fun g t7 => GO g Q .normal ⟨(setsE [(7, t7)] tm), dfs, up, H⟩) := WPS_shallow (l := ref23_Between_c2_r0) (by kernel_rfl)
theorem ref23_Between_c1_w (ctx : Ctx) (tm : T AV) (dfs : List ADef) (up : Option Chain) (H : AHeap) (Q : Post) :
    WP AP ctx ref23_Between_c1 ⟨tm, dfs, up, H⟩ Q =
    (GS AP dirty ctx ref23_Between_c1_r0 ⟨tm, dfs, up, H⟩ (SEQ (WP AP ctx ref23_Between_c2) Q)) := Gxrseq AP ctx _ _ ref23_Between_c1_r0 ref23_Between_c2
theorem ref23_Between_c1_r0_w (ctx : Ctx) (tm : T AV) (dfs : List ADef) (up : Option Chain) (H : AHeap) (Q : Post) :
    GS AP true ctx ref23_Between_c1_r0 ⟨tm, dfs, up, H⟩ Q =
    (BI dirty (Op.move [.nils]) fun g t6 => GO g Q .normal ⟨(setsE [(6, t6)] tm), dfs, up, H⟩) := WPS_shallow (l := ref23_Between_c1_r0) (by kernel_rfl)
/-! ### slices.Clone[[][]shunt/api.Event,[]shunt/api.Event] -/
def slices_Clone_s_api_Event_c5_r0 : List AStep := [⟨false, (some 2), none, [.const .nils], .pure Op.move, (some [])⟩]
def slices_Clone_s_api_Event_c5 : ACode := .seq (.region slices_Clone_s_api_Event_c5_r0) .ret
def slices_Clone_s_api_Event_c4 : ACode := .cond (.tmp 4) slices_Clone_s_api_Event_c5 .skip
def slices_Clone_s_api_Event_c3_r0 : List AStep := [⟨false, (some 3), none, [.tmp 0], .pure Op.move, (some [])⟩,
  ⟨false, (some 4), none, [.tmp 3, .const .nils], .read (Op.eq .slice false), (some [])⟩]
def slices_Clone_s_api_Event_c3 : ACode := .seq (.region slices_Clone_s_api_Event_c3_r0) slices_Clone_s_api_Event_c4
def slices_Clone_s_api_Event_c6_r0 : List AStep := [⟨false, (some 5), none, [], .alloc (Op.buildSlice T__13 0 [.nils] []), (some [])⟩,
  ⟨false, (some 6), none, [.tmp 0], .pure Op.move, (some [])⟩,
  ⟨false, (some 7), none, [.tmp 5, .tmp 6], .eff (Op.append T__13 1 24), (some [])⟩,
  ⟨false, (some 2), none, [.tmp 7], .pure Op.move, (some [])⟩]
def slices_Clone_s_api_Event_c6 : ACode := .seq (.region slices_Clone_s_api_Event_c6_r0) .ret
def slices_Clone_s_api_Event_c2 : ACode := .seq slices_Clone_s_api_Event_c3 slices_Clone_s_api_Event_c6
def slices_Clone_s_api_Event_c1_r0 : List AStep := [⟨false, (some 2), none, [.const .nils], .pure Op.move, (some [])⟩]
def slices_Clone_s_api_Event_c1 : ACode := .seq (.region slices_Clone_s_api_Event_c1_r0) slices_Clone_s_api_Event_c2
def slices_Clone_s_api_Event_F : AFunc := ⟨[.tmp 2], slices_Clone_s_api_Event_c1, []⟩
theorem slices_Clone_s_api_Event_c5_w (ctx : Ctx) (tm : T AV) (dfs : List ADef) (up : Option Chain) (H : AHeap) (Q : Post) :
    WP AP ctx slices_Clone_s_api_Event_c5 ⟨tm, dfs, up, H⟩ Q =
    (GS AP dirty ctx slices_Clone_s_api_Event_c5_r0 ⟨tm, dfs, up, H⟩ (SEQ (WP AP ctx .ret) Q)) := Gxrseq AP ctx _ _ slices_Clone_s_api_Event_c5_r0 .ret
theorem slices_Clone_s_api_Event_c5_r0_w (ctx : Ctx) (tm : T AV) (dfs : List ADef) (up : Option Chain) (H : AHeap) (Q : Post) :
    GS AP true ctx slices_Clone_s_api_Event_c5_r0 ⟨tm, dfs, up, H⟩ Q =
    (BI dirty (Op.move [.nils]) fun g t2 => GO g Q .normal ⟨(setsE [(2, t2)] tm), dfs, up, H⟩) := WPS_shallow (l := slices_Clone_s_api_Event_c5_r0) (by kernel_rfl)
theorem slices_Clone_s_api_Event_c4_w (ctx : Ctx) (tm : T AV) (dfs : List ADef) (up : Option Chain) (H : AHeap) (Q : Post) :
    WP AP ctx slices_Clone_s_api_Event_c4 ⟨tm, dfs, up, H⟩ Q =
    (BI dirty (tm.get 4) fun g v => BI g (asBool v) fun g q => IG g q (fun g => GW AP g ctx slices_Clone_s_api_Event_c5 ⟨tm, dfs, up, H⟩ Q) (fun g => GW AP g ctx .skip ⟨tm, dfs, up, H⟩ Q)) := Gxcond AP ctx _ _ 4 slices_Clone_s_api_Event_c5 .skip
theorem slices_Clone_s_api_Event_c3_w (ctx : Ctx) (tm : T AV) (dfs : List ADef) (up : Option Chain) (H : AHeap) (Q : Post) :
    WP AP ctx slices_Clone_s_api_Event_c3 ⟨tm, dfs, up, H⟩ Q =
    (GS AP dirty ctx slices_Clone_s_api_Event_c3_r0 ⟨tm, dfs, up, H⟩ (SEQ (WP AP ctx slices_Clone_s_api_Event_c4) Q)) := Gxrseq AP ctx _ _ slices_Clone_s_api_Event_c3_r0 slices_Clone_s_api_Event_c4
theorem slices_Clone_s_api_Event_c3_r0_w (ctx : Ctx) (tm : T AV) (dfs : List ADef) (up : Option Chain) (H : AHeap) (Q : Post) :
    GS AP true ctx slices_Clone_s_api_Event_c3_r0 ⟨tm, dfs, up, H⟩ Q =
    (LK dirty (tm.get 0) fun g ti0 => BI g (Op.move [ti0]) fun g t3 => BI g ((Op.eq .slice false) [t3, .nils] H) fun g t4 => GO g Q .normal ⟨(setsE [(4, t4), (3, t3)] tm), dfs, up, H⟩) := WPS_shallow (l := slices_Clone_s_api_Event_c3_r0) (by kernel_rfl)
theorem slices_Clone_s_api_Event_c6_w (ctx : Ctx) (tm : T AV) (dfs : List ADef) (up : Option Chain) (H : AHeap) (Q : Post) :
    WP AP ctx slices_Clone_s_api_Event_c6 ⟨tm, dfs, up, H⟩ Q =
    (GS AP dirty ctx slices_Clone_s_api_Event_c6_r0 ⟨tm, dfs, up, H⟩ (SEQ (WP AP ctx .ret) Q)) := Gxrseq AP ctx _ _ slices_Clone_s_api_Event_c6_r0 .ret
theorem slices_Clone_s_api_Event_c6_r0_w (ctx : Ctx) (tm : T AV) (dfs : List ADef) (up : Option Chain) (H : AHeap) (Q : Post) :
    GS AP true ctx slices_Clone_s_api_Event_c6_r0 ⟨tm, dfs, up, H⟩ Q =
    (BI2 dirty ((Op.buildSlice T__13 0 [.nils] []) []) fun g o1 mk1 => LK g (tm.get 0) fun g ti0 => BI g (Op.move [ti0]) fun g t6 => BI2 g ((Op.append T__13 1 24) [(mk1 H.next), t6] (H.alloc o1)) fun g t7 H2 => 
    BI g (Op.move [t7]) fun g t2 => GO g Q .normal ⟨(setsE [(2, t2), (7, t7), (6, t6), (5, (mk1 H.next))] tm), dfs, up, H2⟩) := WPS_shallow (l := slices_Clone_s_api_Event_c6_r0) (by kernel_rfl)
theorem slices_Clone_s_api_Event_c2_w (ctx : Ctx) (tm : T AV) (dfs : List ADef) (up : Option Chain) (H : AHeap) (Q : Post) :
    WP AP ctx slices_Clone_s_api_Event_c2 ⟨tm, dfs, up, H⟩ Q =
    (WP AP ctx slices_Clone_s_api_Event_c3 ⟨tm, dfs, up, H⟩ (SEQ (WP AP ctx slices_Clone_s_api_Event_c6) Q)) := WP_seq AP ctx _ _ slices_Clone_s_api_Event_c3 slices_Clone_s_api_Event_c6
theorem slices_Clone_s_api_Event_c1_w (ctx : Ctx) (tm : T AV) (dfs : List ADef) (up : Option Chain) (H : AHeap) (Q : Post) :
    WP AP ctx slices_Clone_s_api_Event_c1 ⟨tm, dfs, up, H⟩ Q =
    (GS AP dirty ctx slices_Clone_s_api_Event_c1_r0 ⟨tm, dfs, up, H⟩ (SEQ (WP AP ctx slices_Clone_s_api_Event_c2) Q)) := Gxrseq AP ctx _ _ slices_Clone_s_api_Event_c1_r0 slices_Clone_s_api_Event_c2
theorem slices_Clone_s_api_Event_c1_r0_w (ctx : Ctx) (tm : T AV) (dfs : List ADef) (up : Option Chain) (H : AHeap) (Q : Post) :
    GS AP true ctx slices_Clone_s_api_Event_c1_r0 ⟨tm, dfs, up, H⟩ Q =
    (BI dirty (Op.move [.nils]) fun g t2 => GO g Q .normal ⟨(setsE [(2, t2)] tm), dfs, up, H⟩) := WPS_shallow (l := slices_Clone_s_api_Event_c1_r0) (by kernel_rfl)
/-! ### shunt/trace.sift[shunt/api.Event] -/
def trace_sift_api_Event_c9 : ACode := .cond (.tmp 11) .skip (.exit 0)
def trace_sift_api_Event_c15_r0 : List AStep := [⟨false, (some 17), none, [.tmp 5], .pure Op.move, (some [])⟩,
  ⟨false, (some 18), none, [.tmp 7], .read (Op.loadN 9), (some [])⟩,
  ⟨false, (some 19), none, [.tmp 18], .alloc (Op.buildSlice T_api_Event 1 [(.int .i64 0), (.int .i64 0), (.int .i64 0), (.int .i64 0), (.int .i64 0), (.int .i64 0), (.int .i64 0), (.int .u64 0), (.int .i64 0)] [(0, 9)]), (some [])⟩,
  ⟨false, (some 20), none, [.tmp 17, .tmp 19], .eff (Op.append T_api_Event 9 72), (some [])⟩,
  ⟨false, (some 5), none, [.tmp 20], .pure Op.move, (some [])⟩]
def trace_sift_api_Event_c15 : ACode := .region trace_sift_api_Event_c15_r0
def trace_sift_api_Event_c14 : ACode := .cond (.tmp 16) trace_sift_api_Event_c15 .skip
def trace_sift_api_Event_c13_r0 : List AStep := [⟨false, (some 14), none, [.tmp 1], .pure Op.move, (some [])⟩,
  ⟨false, (some 15), none, [.tmp 7], .read (Op.loadN 9), (some [])⟩,
  ⟨false, (some 16), none, [.tmp 14, .tmp 15], .callV, (some [])⟩]
def trace_sift_api_Event_c13 : ACode := .seq (.region trace_sift_api_Event_c13_r0) trace_sift_api_Event_c14
def trace_sift_api_Event_c12_r0 : List AStep := [⟨false, (some 12), none, [.tmp 8, .tmp 10], .pure (Op.indexSl 9), (some [])⟩,
  ⟨false, (some 13), none, [.tmp 12], .read (Op.loadN 9), (some [])⟩,
  ⟨false, (some 7), none, [], .alloc (Op.alloc T_api_Event [(.int .i64 0), (.int .i64 0), (.int .i64 0), (.int .i64 0), (.int .i64 0), (.int .i64 0), (.int .i64 0), (.int .u64 0), (.int .i64 0)]), (some [])⟩,
  ⟨false, none, none, [.tmp 7, .tmp 13], .eff (Op.store 9), (some [])⟩]
def trace_sift_api_Event_c12 : ACode := .seq (.region trace_sift_api_Event_c12_r0) trace_sift_api_Event_c13
def trace_sift_api_Event_c11 : ACode := .block 1 trace_sift_api_Event_c12
def trace_sift_api_Event_c16_r0 : List AStep := [⟨false, (some 21), none, [.tmp 10, .const (.int .i64 1)], .pure (Op.bin .add), (some [])⟩,
  ⟨false, (some 10), none, [.tmp 21], .pure Op.move, (some [])⟩]
def trace_sift_api_Event_c16 : ACode := .region trace_sift_api_Event_c16_r0
def trace_sift_api_Event_c10 : ACode := .seq trace_sift_api_Event_c11 trace_sift_api_Event_c16
def trace_sift_api_Event_c8 : ACode := .seq trace_sift_api_Event_c9 trace_sift_api_Event_c10
def trace_sift_api_Event_c7_r0 : List AStep := [⟨false, (some 11), none, [.tmp 10, .tmp 9], .pure (Op.bin .lss), (some [])⟩]
def trace_sift_api_Event_c7 : ACode := .seq (.region trace_sift_api_Event_c7_r0) trace_sift_api_Event_c8
def trace_sift_api_Event_c6 : ACode := .loop none trace_sift_api_Event_c7
def trace_sift_api_Event_c5 : ACode := .block 0 trace_sift_api_Event_c6
def trace_sift_api_Event_c4_r0 : List AStep := [⟨false, (some 8), none, [.tmp 0], .pure Op.move, (some [])⟩,
  ⟨false, (some 9), none, [.tmp 8], .pure Op.lenSl, (some [])⟩,
  ⟨false, (some 10), none, [.const (.int .i64 0)], .pure Op.move, (some [])⟩]
def trace_sift_api_Event_c4 : ACode := .seq (.region trace_sift_api_Event_c4_r0) trace_sift_api_Event_c5
def trace_sift_api_Event_c17_r0 : List AStep := [⟨false, (some 22), none, [.tmp 5], .pure Op.move, (some [])⟩,
  ⟨false, (some 4), none, [.tmp 22], .pure Op.move, (some [])⟩]
def trace_sift_api_Event_c17 : ACode := .seq (.region trace_sift_api_Event_c17_r0) .ret
def trace_sift_api_Event_c3 : ACode := .seq trace_sift_api_Event_c4 trace_sift_api_Event_c17
def trace_sift_api_Event_c2_r0 : List AStep := [⟨false, (some 5), none, [.const .nils], .pure Op.move, (some [])⟩]
def trace_sift_api_Event_c2 : ACode := .seq (.region trace_sift_api_Event_c2_r0) trace_sift_api_Event_c3
def trace_sift_api_Event_c1_r0 : List AStep := [⟨false, (some 4), none, [.const .nils], .pure Op.move, (some [])⟩]
def trace_sift_api_Event_c1 : ACode := .seq (.region trace_sift_api_Event_c1_r0) trace_sift_api_Event_c2
def trace_sift_api_Event_F : AFunc := ⟨[.tmp 4], trace_sift_api_Event_c1, []⟩
theorem trace_sift_api_Event_c9_w (ctx : Ctx) (tm : T AV) (dfs : List ADef) (up : Option Chain) (H : AHeap) (Q : Post) :
    WP AP ctx trace_sift_api_Event_c9 ⟨tm, dfs, up, H⟩ Q =
    (BI dirty (tm.get 11) fun g v => BI g (asBool v) fun g q => IG g q (fun g => GW AP g ctx .skip ⟨tm, dfs, up, H⟩ Q) (fun g => GW AP g ctx (.exit 0) ⟨tm, dfs, up, H⟩ Q)) := Gxcond AP ctx _ _ 11 .skip (.exit 0)
theorem trace_sift_api_Event_c15_w (ctx : Ctx) (tm : T AV) (dfs : List ADef) (up : Option Chain) (H : AHeap) (Q : Post) :
    WP AP ctx trace_sift_api_Event_c15 ⟨tm, dfs, up, H⟩ Q =
    (GS AP dirty ctx trace_sift_api_Event_c15_r0 ⟨tm, dfs, up, H⟩ Q) := Gxregion AP ctx _ _ trace_sift_api_Event_c15_r0
theorem trace_sift_api_Event_c15_r0_w (ctx : Ctx) (tm : T AV) (dfs : List ADef) (up : Option Chain) (H : AHeap) (Q : Post) :
    GS AP true ctx trace_sift_api_Event_c15_r0 ⟨tm, dfs, up, H⟩ Q =
    (LK dirty (tm.get 5) fun g ti5 => BI g (Op.move [ti5]) fun g t17 => LK g (tm.get 7) fun g ti7 => BI g ((Op.loadN 9) [ti7] H) fun g t18 => BI2 g ((Op.buildSlice T_api_Event 1 [(.int .i64 0), (.int .i64 0), (.int .i64 0), (.int .i64 0), (.int .i64 0), (.int .i64 0), (.int .i64 0), (.int .u64 0), (.int .i64 0)] [(0, 9)]) [t18]) fun g o1 mk1 => BI2 g ((Op.append T_api_Event 9 72) [t17, (mk1 H.next)] (H.alloc o1)) fun g t20 H2 => 
    BI g (Op.move [t20]) fun g t5 => GO g Q .normal ⟨(setsE [(5, t5), (20, t20), (19, (mk1 H.next)), (18, t18), (17, t17)] tm), dfs, up, H2⟩) := WPS_shallow (l := trace_sift_api_Event_c15_r0) (by kernel_rfl)
theorem trace_sift_api_Event_c14_w (ctx : Ctx) (tm : T AV) (dfs : List ADef) (up : Option Chain) (H : AHeap) (Q : Post) :
    WP AP ctx trace_sift_api_Event_c14 ⟨tm, dfs, up, H⟩ Q =
    (BI dirty (tm.get 16) fun g v => BI g (asBool v) fun g q => IG g q (fun g => GW AP g ctx trace_sift_api_Event_c15 ⟨tm, dfs, up, H⟩ Q) (fun g => GW AP g ctx .skip ⟨tm, dfs, up, H⟩ Q)) := Gxcond AP ctx _ _ 16 trace_sift_api_Event_c15 .skip
theorem trace_sift_api_Event_c13_w (ctx : Ctx) (tm : T AV) (dfs : List ADef) (up : Option Chain) (H : AHeap) (Q : Post) :
    WP AP ctx trace_sift_api_Event_c13 ⟨tm, dfs, up, H⟩ Q =
    (GS AP dirty ctx trace_sift_api_Event_c13_r0 ⟨tm, dfs, up, H⟩ (SEQ (WP AP ctx trace_sift_api_Event_c14) Q)) := Gxrseq AP ctx _ _ trace_sift_api_Event_c13_r0 trace_sift_api_Event_c14
theorem trace_sift_api_Event_c13_r0_w (ctx : Ctx) (tm : T AV) (dfs : List ADef) (up : Option Chain) (H : AHeap) (Q : Post) :
    GS AP true ctx trace_sift_api_Event_c13_r0 ⟨tm, dfs, up, H⟩ Q =
    (LK dirty (tm.get 1) fun g ti1 => BI g (Op.move [ti1]) fun g t14 => LK g (tm.get 7) fun g ti7 => BI g ((Op.loadN 9) [ti7] H) fun g t15 => VI g [t14, t15] fun g f vs => CA AP g f vs H (fun g t16 H1 => 
    GO g Q .normal ⟨(setsE [(16, t16), (15, t15), (14, t14)] tm), dfs, up, H1⟩) (PAN (some []) (setsE [(15, t15), (14, t14)] tm) dfs up Q)) := WPS_shallow (l := trace_sift_api_Event_c13_r0) (by kernel_rfl)
theorem trace_sift_api_Event_c12_w (ctx : Ctx) (tm : T AV) (dfs : List ADef) (up : Option Chain) (H : AHeap) (Q : Post) :
    WP AP ctx trace_sift_api_Event_c12 ⟨tm, dfs, up, H⟩ Q =
    (GS AP dirty ctx trace_sift_api_Event_c12_r0 ⟨tm, dfs, up, H⟩ (SEQ (WP AP ctx trace_sift_api_Event_c13) Q)) := Gxrseq AP ctx _ _ trace_sift_api_Event_c12_r0 trace_sift_api_Event_c13
theorem trace_sift_api_Event_c12_r0_w (ctx : Ctx) (tm : T AV) (dfs : List ADef) (up : Option Chain) (H : AHeap) (Q : Post) :
    GS AP true ctx trace_sift_api_Event_c12_r0 ⟨tm, dfs, up, H⟩ Q =
    (LK dirty (tm.get 8) fun g ti8 => LK g (tm.get 10) fun g ti10 => BI g ((Op.indexSl 9) [ti8, ti10]) fun g t12 => BI g ((Op.loadN 9) [t12] H) fun g t13 => BI2 g ((Op.alloc T_api_Event [(.int .i64 0), (.int .i64 0), (.int .i64 0), (.int .i64 0), (.int .i64 0), (.int .i64 0), (.int .i64 0), (.int .u64 0), (.int .i64 0)]) []) fun g o1 mk1 => BI2 g ((Op.store 9) [(mk1 H.next), t13] (H.alloc o1)) fun g t_u H2 => 
    GO g Q .normal ⟨(setsE [(7, (mk1 H.next)), (13, t13), (12, t12)] tm), dfs, up, H2⟩) := WPS_shallow (l := trace_sift_api_Event_c12_r0) (by kernel_rfl)
theorem trace_sift_api_Event_c11_w (ctx : Ctx) (tm : T AV) (dfs : List ADef) (up : Option Chain) (H : AHeap) (Q : Post) :
    WP AP ctx trace_sift_api_Event_c11 ⟨tm, dfs, up, H⟩ Q =
    (WP AP ctx trace_sift_api_Event_c12 ⟨tm, dfs, up, H⟩ (BLK 1 Q)) := WP_block AP ctx _ _ 1 trace_sift_api_Event_c12
theorem trace_sift_api_Event_c16_w (ctx : Ctx) (tm : T AV) (dfs : List ADef) (up : Option Chain) (H : AHeap) (Q : Post) :
    WP AP ctx trace_sift_api_Event_c16 ⟨tm, dfs, up, H⟩ Q =
    (GS AP dirty ctx trace_sift_api_Event_c16_r0 ⟨tm, dfs, up, H⟩ Q) := Gxregion AP ctx _ _ trace_sift_api_Event_c16_r0
theorem trace_sift_api_Event_c16_r0_w (ctx : Ctx) (tm : T AV) (dfs : List ADef) (up : Option Chain) (H : AHeap) (Q : Post) :
    GS AP true ctx trace_sift_api_Event_c16_r0 ⟨tm, dfs, up, H⟩ Q =
    (LK dirty (tm.get 10) fun g ti10 => BI g ((Op.bin .add) [ti10, (.int .i64 1)]) fun g t21 => BI g (Op.move [t21]) fun g t10 => GO g Q .normal ⟨(setsE [(10, t10), (21, t21)] tm), dfs, up, H⟩) := WPS_shallow (l := trace_sift_api_Event_c16_r0) (by kernel_rfl)
theorem trace_sift_api_Event_c10_w (ctx : Ctx) (tm : T AV) (dfs : List ADef) (up : Option Chain) (H : AHeap) (Q : Post) :
    WP AP ctx trace_sift_api_Event_c10 ⟨tm, dfs, up, H⟩ Q =
    (WP AP ctx trace_sift_api_Event_c11 ⟨tm, dfs, up, H⟩ (SEQ (WP AP ctx trace_sift_api_Event_c16) Q)) := WP_seq AP ctx _ _ trace_sift_api_Event_c11 trace_sift_api_Event_c16
theorem trace_sift_api_Event_c8_w (ctx : Ctx) (tm : T AV) (dfs : List ADef) (up : Option Chain) (H : AHeap) (Q : Post) :
    WP AP ctx trace_sift_api_Event_c8 ⟨tm, dfs, up, H⟩ Q =
    (WP AP ctx trace_sift_api_Event_c9 ⟨tm, dfs, up, H⟩ (SEQ (WP AP ctx trace_sift_api_Event_c10) Q)) := WP_seq AP ctx _ _ trace_sift_api_Event_c9 trace_sift_api_Event_c10
theorem trace_sift_api_Event_c7_w (ctx : Ctx) (tm : T AV) (dfs : List ADef) (up : Option Chain) (H : AHeap) (Q : Post) :
    WP AP ctx trace_sift_api_Event_c7 ⟨tm, dfs, up, H⟩ Q =
    (GS AP dirty ctx trace_sift_api_Event_c7_r0 ⟨tm, dfs, up, H⟩ (SEQ (WP AP ctx trace_sift_api_Event_c8) Q)) := Gxrseq AP ctx _ _ trace_sift_api_Event_c7_r0 trace_sift_api_Event_c8
theorem trace_sift_api_Event_c7_r0_w (ctx : Ctx) (tm : T AV) (dfs : List ADef) (up : Option Chain) (H : AHeap) (Q : Post) :
    GS AP true ctx trace_sift_api_Event_c7_r0 ⟨tm, dfs, up, H⟩ Q =
    (LK dirty (tm.get 10) fun g ti10 => LK g (tm.get 9) fun g ti9 => BI g ((Op.bin .lss) [ti10, ti9]) fun g t11 => GO g Q .normal ⟨(setsE [(11, t11)] tm), dfs, up, H⟩) := WPS_shallow (l := trace_sift_api_Event_c7_r0) (by kernel_rfl)
theorem trace_sift_api_Event_c6_w (ctx : Ctx) (tm : T AV) (dfs : List ADef) (up : Option Chain) (H : AHeap) (Q : Post) :
    WP AP ctx trace_sift_api_Event_c6 ⟨tm, dfs, up, H⟩ Q =
    (LOOP (WP AP ctx trace_sift_api_Event_c7) none ⟨tm, dfs, up, H⟩ Q) := WP_loop AP ctx _ _ none trace_sift_api_Event_c7
theorem trace_sift_api_Event_c5_w (ctx : Ctx) (tm : T AV) (dfs : List ADef) (up : Option Chain) (H : AHeap) (Q : Post) :
    WP AP ctx trace_sift_api_Event_c5 ⟨tm, dfs, up, H⟩ Q =
    (WP AP ctx trace_sift_api_Event_c6 ⟨tm, dfs, up, H⟩ (BLK 0 Q)) := WP_block AP ctx _ _ 0 trace_sift_api_Event_c6
theorem trace_sift_api_Event_c4_w (ctx : Ctx) (tm : T AV) (dfs : List ADef) (up : Option Chain) (H : AHeap) (Q : Post) :
    WP AP ctx trace_sift_api_Event_c4 ⟨tm, dfs, up, H⟩ Q =
    (GS AP dirty ctx trace_sift_api_Event_c4_r0 ⟨tm, dfs, up, H⟩ (SEQ (WP AP ctx trace_sift_api_Event_c5) Q)) := Gxrseq AP ctx _ _ trace_sift_api_Event_c4_r0 trace_sift_api_Event_c5
theorem trace_sift_api_Event_c4_r0_w (ctx : Ctx) (tm : T AV) (dfs : List ADef) (up : Option Chain) (H : AHeap) (Q : Post) :
    GS AP true ctx trace_sift_api_Event_c4_r0 ⟨tm, dfs, up, H⟩ Q =
    (LK dirty (tm.get 0) fun g ti0 => BI g (Op.move [ti0]) fun g t8 => BI g (Op.lenSl [t8]) fun g t9 => BI g (Op.move [(.int .i64 0)]) fun g t10 => 
    GO g Q .normal ⟨(setsE [(10, t10), (9, t9), (8, t8)] tm), dfs, up, H⟩) := WPS_shallow (l := trace_sift_api_Event_c4_r0) (by kernel_rfl)
theorem trace_sift_api_Event_c17_w (ctx : Ctx) (tm : T AV) (dfs : List ADef) (up : Option Chain) (H : AHeap) (Q : Post) :
    WP AP ctx trace_sift_api_Event_c17 ⟨tm, dfs, up, H⟩ Q =
    (GS AP dirty ctx trace_sift_api_Event_c17_r0 ⟨tm, dfs, up, H⟩ (SEQ (WP AP ctx .ret) Q)) := Gxrseq AP ctx _ _ trace_sift_api_Event_c17_r0 .ret
theorem trace_sift_api_Event_c17_r0_w (ctx : Ctx) (tm : T AV) (dfs : List ADef) (up : Option Chain) (H : AHeap) (Q : Post) :
    GS AP true ctx trace_sift_api_Event_c17_r0 ⟨tm, dfs, up, H⟩ Q =
    (LK dirty (tm.get 5) fun g ti5 => BI g (Op.move [ti5]) fun g t22 => BI g (Op.move [t22]) fun g t4 => GO g Q .normal ⟨(setsE [(4, t4), (22, t22)] tm), dfs, up, H⟩) := WPS_shallow (l := trace_sift_api_Event_c17_r0) (by kernel_rfl)
theorem trace_sift_api_Event_c3_w (ctx : Ctx) (tm : T AV) (dfs : List ADef) (up : Option Chain) (H : AHeap) (Q : Post) :
    WP AP ctx trace_sift_api_Event_c3 ⟨tm, dfs, up, H⟩ Q =
    (WP AP ctx trace_sift_api_Event_c4 ⟨tm, dfs, up, H⟩ (SEQ (WP AP ctx trace_sift_api_Event_c17) Q)) := WP_seq AP ctx _ _ trace_sift_api_Event_c4 trace_sift_api_Event_c17
theorem trace_sift_api_Event_c2_w (ctx : Ctx) (tm : T AV) (dfs : List ADef) (up : Option Chain) (H : AHeap) (Q : Post) :
    WP AP ctx trace_sift_api_Event_c2 ⟨tm, dfs, up, H⟩ Q =
    (GS AP dirty ctx trace_sift_api_Event_c2_r0 ⟨tm, dfs, up, H⟩ (SEQ (WP AP ctx trace_sift_api_Event_c3) Q)) := Gxrseq AP ctx _ _ trace_sift_api_Event_c2_r0 trace_sift_api_Event_c3
theorem trace_sift_api_Event_c2_r0_w (ctx : Ctx) (tm : T AV) (dfs : List ADef) (up : Option Chain) (H : AHeap) (Q : Post) :
    GS AP true ctx trace_sift_api_Event_c2_r0 ⟨tm, dfs, up, H⟩ Q =
    (BI dirty (Op.move [.nils]) fun g t5 => GO g Q .normal ⟨(setsE [(5, t5)] tm), dfs, up, H⟩) := WPS_shallow (l := trace_sift_api_Event_c2_r0) (by kernel_rfl)
theorem trace_sift_api_Event_c1_w (ctx : Ctx) (tm : T AV) (dfs : List ADef) (up : Option Chain) (H : AHeap) (Q : Post) :
    WP AP ctx trace_sift_api_Event_c1 ⟨tm, dfs, up, H⟩ Q =
    (GS AP dirty ctx trace_sift_api_Event_c1_r0 ⟨tm, dfs, up, H⟩ (SEQ (WP AP ctx trace_sift_api_Event_c2) Q)) := Gxrseq AP ctx _ _ trace_sift_api_Event_c1_r0 trace_sift_api_Event_c2
theorem trace_sift_api_Event_c1_r0_w (ctx : Ctx) (tm : T AV) (dfs : List ADef) (up : Option Chain) (H : AHeap) (Q : Post) :
    GS AP true ctx trace_sift_api_Event_c1_r0 ⟨tm, dfs, up, H⟩ Q =
    (BI dirty (Op.move [.nils]) fun g t4 => GO g Q .normal ⟨(setsE [(4, t4)] tm), dfs, up, H⟩) := WPS_shallow (l := trace_sift_api_Event_c1_r0) (by kernel_rfl)
/-! ### shunt/trace.OfS1 -/
def trace_Of_1_c2_r0 : List AStep := [⟨false, (some 4), none, [.tmp 2], .pure (Op.fieldAddr 2), (some [])⟩,
  ⟨false, (some 5), none, [.tmp 4], .read Op.load1, (some [])⟩,
  ⟨false, (some 6), none, [.tmp 1], .read Op.load1, (some [])⟩,
  ⟨false, (some 7), none, [.tmp 5, .tmp 6], .pure (Op.bin .eql), (some [])⟩,
  ⟨false, (some 3), none, [.tmp 7], .pure Op.move, (some [])⟩]
def trace_Of_1_c2 : ACode := .seq (.region trace_Of_1_c2_r0) .ret
def trace_Of_1_c1_r0 : List AStep := [⟨false, (some 2), none, [.tmp 0], .alloc (Op.box T_api_Event), (some [])⟩,
  ⟨false, (some 3), none, [.const (.bool false)], .pure Op.move, (some [])⟩]
def trace_Of_1_c1 : ACode := .seq (.region trace_Of_1_c1_r0) trace_Of_1_c2
def trace_Of_1_F : AFunc := ⟨[.tmp 3], trace_Of_1_c1, []⟩
theorem trace_Of_1_c2_w (ctx : Ctx) (tm : T AV) (dfs : List ADef) (up : Option Chain) (H : AHeap) (Q : Post) :
    WP AP ctx trace_Of_1_c2 ⟨tm, dfs, up, H⟩ Q =
    (GS AP dirty ctx trace_Of_1_c2_r0 ⟨tm, dfs, up, H⟩ (SEQ (WP AP ctx .ret) Q)) := Gxrseq AP ctx _ _ trace_Of_1_c2_r0 .ret
theorem trace_Of_1_c2_r0_w (ctx : Ctx) (tm : T AV) (dfs : List ADef) (up : Option Chain) (H : AHeap) (Q : Post) :
    GS AP true ctx trace_Of_1_c2_r0 ⟨tm, dfs, up, H⟩ Q =
    (LK dirty (tm.get 2) fun g ti2 => BI g ((Op.fieldAddr 2) [ti2]) fun g t4 => BI g (Op.load1 [t4] H) fun g t5 => LK g (tm.get 1) fun g ti1 => BI g (Op.load1 [ti1] H) fun g t6 => BI g ((Op.bin .eql) [t5, t6]) fun g t7 => BI g (Op.move [t7]) fun g t3 => GO g Q .normal ⟨(setsE [(3, t3), (7, t7), (6, t6), (5, t5), (4, t4)] tm), dfs, up, H⟩) := WPS_shallow (l := trace_Of_1_c2_r0) (by kernel_rfl)
theorem trace_Of_1_c1_w (ctx : Ctx) (tm : T AV) (dfs : List ADef) (up : Option Chain) (H : AHeap) (Q : Post) :
    WP AP ctx trace_Of_1_c1 ⟨tm, dfs, up, H⟩ Q =
    (GS AP dirty ctx trace_Of_1_c1_r0 ⟨tm, dfs, up, H⟩ (SEQ (WP AP ctx trace_Of_1_c2) Q)) := Gxrseq AP ctx _ _ trace_Of_1_c1_r0 trace_Of_1_c2
theorem trace_Of_1_c1_r0_w (ctx : Ctx) (tm : T AV) (dfs : List ADef) (up : Option Chain) (H : AHeap) (Q : Post) :
    GS AP true ctx trace_Of_1_c1_r0 ⟨tm, dfs, up, H⟩ Q =
    (LK dirty (tm.get 0) fun g ti0 => BI2 g ((Op.box T_api_Event) [ti0]) fun g o1 mk1 => BI g (Op.move [(.bool false)]) fun g t3 => GO g Q .normal ⟨(setsE [(3, t3), (2, (mk1 H.next))] tm), dfs, up, (H.alloc o1)⟩) := WPS_shallow (l := trace_Of_1_c1_r0) (by kernel_rfl)
/-! ### shunt/trace.BetweenS1 -/
def trace_Between_1_c2_r4 : List AStep := [⟨false, (some 14), none, [.tmp 9, .tmp 13, .const (.bool false)], .pure Op.pick, (some [])⟩,
  ⟨false, (some 4), none, [.tmp 14], .pure Op.move, (some [])⟩]
def trace_Between_1_c2_r3a : List AStep := [⟨false, (some 13), (some (9, true)), [.tmp 11, .tmp 12], .pure (Op.bin .lss), (some [])⟩]
def trace_Between_1_c2_r3 : List AStep := trace_Between_1_c2_r3a ++ trace_Between_1_c2_r4
def trace_Between_1_c2_r2a : List AStep := [⟨false, (some 12), (some (9, true)), [.tmp 2], .read Op.load1, (some [])⟩]
def trace_Between_1_c2_r2 : List AStep := trace_Between_1_c2_r2a ++ trace_Between_1_c2_r3
def trace_Between_1_c2_r1a : List AStep := [⟨false, (some 11), (some (9, true)), [.tmp 10], .read Op.load1, (some [])⟩]
def trace_Between_1_c2_r1 : List AStep := trace_Between_1_c2_r1a ++ trace_Between_1_c2_r2
def trace_Between_1_c2_r0a : List AStep := [⟨false, (some 5), none, [.tmp 3], .pure (Op.fieldAddr 1), (some [])⟩,
  ⟨false, (some 6), none, [.tmp 5], .read Op.load1, (some [])⟩,
  ⟨false, (some 7), none, [.tmp 1], .read Op.load1, (some [])⟩,
  ⟨false, (some 8), none, [.tmp 6, .tmp 7], .pure (Op.bin .geq), (some [])⟩,
  ⟨false, (some 9), none, [.tmp 8], .pure Op.move, (some [])⟩,
  ⟨false, (some 10), (some (9, true)), [.tmp 3], .pure (Op.fieldAddr 1), (some [])⟩]
def trace_Between_1_c2_r0 : List AStep := trace_Between_1_c2_r0a ++ trace_Between_1_c2_r1
def trace_Between_1_c2 : ACode := .seq (.region trace_Between_1_c2_r0) .ret
def trace_Between_1_c1_r0 : List AStep := [⟨false, (some 3), none, [.tmp 0], .alloc (Op.box T_api_Event), (some [])⟩,
  ⟨false, (some 4), none, [.const (.bool false)], .pure Op.move, (some [])⟩]
def trace_Between_1_c1 : ACode := .seq (.region trace_Between_1_c1_r0) trace_Between_1_c2
def trace_Between_1_F : AFunc := ⟨[.tmp 4], trace_Between_1_c1, []⟩
theorem trace_Between_1_c2_w (ctx : Ctx) (tm : T AV) (dfs : List ADef) (up : Option Chain) (H : AHeap) (Q : Post) :
    WP AP ctx trace_Between_1_c2 ⟨tm, dfs, up, H⟩ Q =
    (GS AP dirty ctx trace_Between_1_c2_r0 ⟨tm, dfs, up, H⟩ (SEQ (WP AP ctx .ret) Q)) := Gxrseq AP ctx _ _ trace_Between_1_c2_r0 .ret
theorem trace_Between_1_c2_r0_w (ctx : Ctx) (tm : T AV) (dfs : List ADef) (up : Option Chain) (H : AHeap) (Q : Post) :
    GS AP true ctx trace_Between_1_c2_r0 ⟨tm, dfs, up, H⟩ Q =
    (LK dirty (tm.get 3) fun g ti3 => BI g ((Op.fieldAddr 1) [ti3]) fun g t5 => BI g (Op.load1 [t5] H) fun g t6 => LK g (tm.get 1) fun g ti1 => BI g (Op.load1 [ti1] H) fun g t7 => BI g ((Op.bin .geq) [t6, t7]) fun g t8 => BI g (Op.move [t8]) fun g t9 => BI g (wantV true (some t9)) fun g w => IG g w (fun g => LK g (tm.get 3) fun g ti3_1 => BI g ((Op.fieldAddr 1) [ti3_1]) fun g t10 => 
    GS AP g ctx trace_Between_1_c2_r1 ⟨(setsE [(10, t10), (9, t9), (8, t8), (7, t7), (6, t6), (5, t5)] tm), dfs, up, H⟩ Q) (fun g => GS AP g ctx trace_Between_1_c2_r1 ⟨(setsE [(10, .undef), (9, t9), (8, t8), (7, t7), (6, t6), (5, t5)] tm), dfs, up, H⟩ Q)) := WPS_part (l := trace_Between_1_c2_r0a) (tail := trace_Between_1_c2_r1) (by kernel_rfl)
theorem trace_Between_1_c2_r1_w (ctx : Ctx) (tm : T AV) (dfs : List ADef) (up : Option Chain) (H : AHeap) (Q : Post) :
    GS AP true ctx trace_Between_1_c2_r1 ⟨tm, dfs, up, H⟩ Q =
    (BI dirty (wantV true (tm.get 9)) fun g w => IG g w (fun g => LK g (tm.get 10) fun g ti10 => BI g (Op.load1 [ti10] H) fun g t11 => GS AP g ctx trace_Between_1_c2_r2 ⟨(setsE [(11, t11)] tm), dfs, up, H⟩ Q) (fun g => GS AP g ctx trace_Between_1_c2_r2 ⟨(setsE [(11, .undef)] tm), dfs, up, H⟩ Q)) := WPS_part (l := trace_Between_1_c2_r1a) (tail := trace_Between_1_c2_r2) (by kernel_rfl)
theorem trace_Between_1_c2_r2_w (ctx : Ctx) (tm : T AV) (dfs : List ADef) (up : Option Chain) (H : AHeap) (Q : Post) :
    GS AP true ctx trace_Between_1_c2_r2 ⟨tm, dfs, up, H⟩ Q =
    (BI dirty (wantV true (tm.get 9)) fun g w => IG g w (fun g => LK g (tm.get 2) fun g ti2 => BI g (Op.load1 [ti2] H) fun g t12 => GS AP g ctx trace_Between_1_c2_r3 ⟨(setsE [(12, t12)] tm), dfs, up, H⟩ Q) (fun g => GS AP g ctx trace_Between_1_c2_r3 ⟨(setsE [(12, .undef)] tm), dfs, up, H⟩ Q)) := WPS_part (l := trace_Between_1_c2_r2a) (tail := trace_Between_1_c2_r3) (by kernel_rfl)
theorem trace_Between_1_c2_r3_w (ctx : Ctx) (tm : T AV) (dfs : List ADef) (up : Option Chain) (H : AHeap) (Q : Post) :
    GS AP true ctx trace_Between_1_c2_r3 ⟨tm, dfs, up, H⟩ Q =
    (BI dirty (wantV true (tm.get 9)) fun g w => IG g w (fun g => LK g (tm.get 11) fun g ti11 => LK g (tm.get 12) fun g ti12 => BI g ((Op.bin .lss) [ti11, ti12]) fun g t13 => GS AP g ctx trace_Between_1_c2_r4 ⟨(setsE [(13, t13)] tm), dfs, up, H⟩ Q) (fun g => GS AP g ctx trace_Between_1_c2_r4 ⟨(setsE [(13, .undef)] tm), dfs, up, H⟩ Q)) := WPS_part (l := trace_Between_1_c2_r3a) (tail := trace_Between_1_c2_r4) (by kernel_rfl)
theorem trace_Between_1_c2_r4_w (ctx : Ctx) (tm : T AV) (dfs : List ADef) (up : Option Chain) (H : AHeap) (Q : Post) :
    GS AP true ctx trace_Between_1_c2_r4 ⟨tm, dfs, up, H⟩ Q =
    (LK dirty (tm.get 9) fun g ti9 => LK g (tm.get 13) fun g ti13 => BI g (Op.pick [ti9, ti13, (.bool false)]) fun g t14 => BI g (Op.move [t14]) fun g t4 => GO g Q .normal ⟨(setsE [(4, t4), (14, t14)] tm), dfs, up, H⟩) := WPS_shallow (l := trace_Between_1_c2_r4) (by kernel_rfl)
theorem trace_Between_1_c1_w (ctx : Ctx) (tm : T AV) (dfs : List ADef) (up : Option Chain) (H : AHeap) (Q : Post) :
    WP AP ctx trace_Between_1_c1 ⟨tm, dfs, up, H⟩ Q =
    (GS AP dirty ctx trace_Between_1_c1_r0 ⟨tm, dfs, up, H⟩ (SEQ (WP AP ctx trace_Between_1_c2) Q)) := Gxrseq AP ctx _ _ trace_Between_1_c1_r0 trace_Between_1_c2
theorem trace_Between_1_c1_r0_w (ctx : Ctx) (tm : T AV) (dfs : List ADef) (up : Option Chain) (H : AHeap) (Q : Post) :
    GS AP true ctx trace_Between_1_c1_r0 ⟨tm, dfs, up, H⟩ Q =
    (LK dirty (tm.get 0) fun g ti0 => BI2 g ((Op.box T_api_Event) [ti0]) fun g o1 mk1 => BI g (Op.move [(.bool false)]) fun g t4 => GO g Q .normal ⟨(setsE [(4, t4), (3, (mk1 H.next))] tm), dfs, up, (H.alloc o1)⟩) := WPS_shallow (l := trace_Between_1_c1_r0) (by kernel_rfl)
end
open Go.Proofs Go.Proofs.Ytkfheegmlgfdoaa
theorem law23_TraceParts_at : (cProg Try.prog).func N_law23_TraceParts = some law23_TraceParts_F := by kernel_rfl
theorem law23_twin_at : (cProg Try.prog).func N_law23_twin = some law23_twin_F := by kernel_rfl
theorem trace_Merge_at : (cProg Try.prog).func N_trace_Merge = some trace_Merge_F := by kernel_rfl
theorem ref23_Merge_at : (cProg Try.prog).func N_ref23_Merge = some ref23_Merge_F := by kernel_rfl
theorem ref23_Same_at : (cProg Try.prog).func N_ref23_Same = some ref23_Same_F := by kernel_rfl
theorem trace_Of_at : (cProg Try.prog).func N_trace_Of = some trace_Of_F := by kernel_rfl
theorem ref23_Of_at : (cProg Try.prog).func N_ref23_Of = some ref23_Of_F := by kernel_rfl
theorem trace_Between_at : (cProg Try.prog).func N_trace_Between = some trace_Between_F := by kernel_rfl
theorem ref23_Between_at : (cProg Try.prog).func N_ref23_Between = some ref23_Between_F := by kernel_rfl
theorem slices_Clone_s_api_Event_at : (cProg Try.prog).func N_slices_Clone_s_api_Event = some slices_Clone_s_api_Event_F := by kernel_rfl
theorem trace_sift_api_Event_at : (cProg Try.prog).func N_trace_sift_api_Event = some trace_sift_api_Event_F := by kernel_rfl
theorem trace_Of_1_at : (cProg Try.prog).func N_trace_Of_1 = some trace_Of_1_F := by kernel_rfl
theorem trace_Between_1_at : (cProg Try.prog).func N_trace_Between_1 = some trace_Between_1_F := by kernel_rfl
end Go.Am
