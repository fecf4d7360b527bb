/- CODE: what the program's functions are on the machine, and what their regions ask. Written by a program. -/
import Derived.Test.YtkfheegmlgfdoaaAmLogic2
import Derived.Test.YtkfheegmlgfdoaaAmComp
import Derived.KernelRfl
import Derived.Test.YtkfheegmlgfdoaaRows
namespace Go.Am
set_option linter.unusedVariables false
set_option maxRecDepth 100000
abbrev N_law14_WorldDecodes : Nat := 3
abbrev N_ref14_Decode : Nat := 7
abbrev N_slices_AppendSeq_api_Act : Nat := 41
abbrev N_slices_Chunk_byte : Nat := 43
abbrev N_slices_Chunk_byte_1 : Nat := 53
abbrev N_slices_Collect_api_Act : Nat := 19
abbrev N_world_Decode : Nat := 6
abbrev N_world_acts : Nat := 20
abbrev N_world_acts_1 : Nat := 42
abbrev T__6 : Nat := 22
abbrev T__64 : Nat := 102
abbrev T__7 : Nat := 23
abbrev T_api_Act : Nat := 26
abbrev T_int : Nat := 3
abbrev T_string : Nat := 9
noncomputable section
variable (AP : AProg)
/-! ### shunt/shuntlaw14.WorldDecodes -/
def law14_WorldDecodes_c5_r0 : List AStep := [⟨false, (some 2), none, [.const (.bool true)], .pure Op.move, (some [])⟩]
def law14_WorldDecodes_c5 : ACode := .seq (.region law14_WorldDecodes_c5_r0) .ret
def law14_WorldDecodes_c4 : ACode := .cond (.tmp 8) law14_WorldDecodes_c5 .skip
def law14_WorldDecodes_c3_r0 : List AStep := [⟨false, (some 6), none, [.tmp 0], .pure Op.move, (some [])⟩,
  ⟨false, (some 7), none, [.tmp 6], .pure Op.lenSl, (some [])⟩,
  ⟨false, (some 8), none, [.tmp 7, .const (.int .i64 100000)], .pure (Op.bin .gtr), (some [])⟩]
def law14_WorldDecodes_c3 : ACode := .seq (.region law14_WorldDecodes_c3_r0) law14_WorldDecodes_c4
def law14_WorldDecodes_c11_r0 : List AStep := [⟨false, (some 2), none, [.const (.bool false)], .pure Op.move, (some [])⟩]
def law14_WorldDecodes_c11 : ACode := .seq (.region law14_WorldDecodes_c11_r0) .ret
def law14_WorldDecodes_c10 : ACode := .cond (.tmp 17) law14_WorldDecodes_c11 .skip
def law14_WorldDecodes_c9_r0 : List AStep := [⟨false, (some 13), none, [.tmp 3], .pure Op.move, (some [])⟩,
  ⟨false, (some 14), none, [.tmp 13], .pure Op.lenSl, (some [])⟩,
  ⟨false, (some 15), none, [.tmp 4], .pure Op.move, (some [])⟩,
  ⟨false, (some 16), none, [.tmp 15], .pure Op.lenSl, (some [])⟩,
  ⟨false, (some 17), none, [.tmp 14, .tmp 16], .pure (Op.bin .neq), (some [])⟩]
def law14_WorldDecodes_c9 : ACode := .seq (.region law14_WorldDecodes_c9_r0) law14_WorldDecodes_c10
def law14_WorldDecodes_c18 : ACode := .cond (.tmp 21) .skip (.exit 0)
def law14_WorldDecodes_c17_r0 : List AStep := [⟨false, (some 18), none, [.tmp 5], .pure Op.move, (some [])⟩,
  ⟨false, (some 19), none, [.tmp 3], .pure Op.move, (some [])⟩,
  ⟨false, (some 20), none, [.tmp 19], .pure Op.lenSl, (some [])⟩,
  ⟨false, (some 21), none, [.tmp 18, .tmp 20], .pure (Op.bin .lss), (some [])⟩]
def law14_WorldDecodes_c17 : ACode := .seq (.region law14_WorldDecodes_c17_r0) law14_WorldDecodes_c18
def law14_WorldDecodes_c23_r0 : List AStep := [⟨false, (some 2), none, [.const (.bool false)], .pure Op.move, (some [])⟩]
def law14_WorldDecodes_c23 : ACode := .seq (.region law14_WorldDecodes_c23_r0) .ret
def law14_WorldDecodes_c22 : ACode := .cond (.tmp 32) law14_WorldDecodes_c23 .skip
def law14_WorldDecodes_c21_r0 : List AStep := [⟨false, (some 24), none, [.tmp 3], .pure Op.move, none⟩,
  ⟨false, (some 25), none, [.tmp 5], .pure Op.move, none⟩,
  ⟨false, (some 26), none, [.tmp 24, .tmp 25], .pure (Op.indexSl 3), none⟩,
  ⟨false, (some 27), none, [.tmp 26], .read (Op.loadN 3), none⟩,
  ⟨false, (some 28), none, [.tmp 4], .pure Op.move, none⟩,
  ⟨false, (some 29), none, [.tmp 5], .pure Op.move, (some [24, 25, 26, 27, 28, 29, 30, 31, 32])⟩,
  ⟨false, (some 30), none, [.tmp 28, .tmp 29], .pure (Op.indexSl 3), (some [24, 25, 26, 27, 28, 29, 30, 31, 32])⟩,
  ⟨false, (some 31), none, [.tmp 30], .read (Op.loadN 3), (some [24, 25, 26, 27, 28, 29, 30, 31, 32])⟩,
  ⟨false, (some 32), none, [.tmp 27, .tmp 31], .read (Op.eq (.agg (.part 0 none .int (.part 1 none .int (.part 2 none .int .nil)))) true), (some [24, 25, 26, 27, 28, 29, 30, 31, 32])⟩]
def law14_WorldDecodes_c21 : ACode := .seq (.region law14_WorldDecodes_c21_r0) law14_WorldDecodes_c22
def law14_WorldDecodes_c20 : ACode := .block 1 law14_WorldDecodes_c21
def law14_WorldDecodes_c24_r0 : List AStep := [⟨false, (some 22), none, [.tmp 5], .pure Op.move, (some [])⟩,
  ⟨false, (some 23), none, [.tmp 22, .const (.int .i64 1)], .pure (Op.bin .add), (some [])⟩,
  ⟨false, (some 5), none, [.tmp 23], .pure Op.move, (some [])⟩]
def law14_WorldDecodes_c24 : ACode := .region law14_WorldDecodes_c24_r0
def law14_WorldDecodes_c19 : ACode := .seq law14_WorldDecodes_c20 law14_WorldDecodes_c24
def law14_WorldDecodes_c16 : ACode := .seq law14_WorldDecodes_c17 law14_WorldDecodes_c19
def law14_WorldDecodes_c15 : ACode := .loop none law14_WorldDecodes_c16
def law14_WorldDecodes_c14 : ACode := .block 0 law14_WorldDecodes_c15
def law14_WorldDecodes_c13_r0 : List AStep := [⟨false, (some 5), none, [.const (.int .i64 0)], .pure Op.move, (some [])⟩]
def law14_WorldDecodes_c13 : ACode := .seq (.region law14_WorldDecodes_c13_r0) law14_WorldDecodes_c14
def law14_WorldDecodes_c25_r0 : List AStep := [⟨false, (some 2), none, [.const (.bool true)], .pure Op.move, (some [])⟩]
def law14_WorldDecodes_c25 : ACode := .seq (.region law14_WorldDecodes_c25_r0) .ret
def law14_WorldDecodes_c12 : ACode := .seq law14_WorldDecodes_c13 law14_WorldDecodes_c25
def law14_WorldDecodes_c8 : ACode := .seq law14_WorldDecodes_c9 law14_WorldDecodes_c12
def law14_WorldDecodes_c7_r0 : List AStep := [⟨false, (some 11), none, [.tmp 0], .pure Op.move, (some [])⟩,
  ⟨false, (some 12), none, [.tmp 11], .callF N_ref14_Decode, (some [])⟩,
  ⟨false, (some 4), none, [.tmp 12], .pure Op.move, (some [])⟩]
def law14_WorldDecodes_c7 : ACode := .seq (.region law14_WorldDecodes_c7_r0) law14_WorldDecodes_c8
def law14_WorldDecodes_c6_r0 : List AStep := [⟨false, (some 9), none, [.tmp 0], .pure Op.move, (some [])⟩,
  ⟨false, (some 10), none, [.tmp 9], .callF N_world_Decode, (some [])⟩,
  ⟨false, (some 3), none, [.tmp 10], .pure Op.move, (some [])⟩]
def law14_WorldDecodes_c6 : ACode := .seq (.region law14_WorldDecodes_c6_r0) law14_WorldDecodes_c7
def law14_WorldDecodes_c2 : ACode := .seq law14_WorldDecodes_c3 law14_WorldDecodes_c6
def law14_WorldDecodes_c1_r0 : List AStep := [⟨false, (some 2), none, [.const (.bool false)], .pure Op.move, (some [])⟩]
def law14_WorldDecodes_c1 : ACode := .seq (.region law14_WorldDecodes_c1_r0) law14_WorldDecodes_c2
def law14_WorldDecodes_F : AFunc := ⟨[.tmp 2], law14_WorldDecodes_c1, []⟩
theorem law14_WorldDecodes_c5_w (ctx : Ctx) (tm : T AV) (dfs : List ADef) (up : Option Chain) (H : AHeap) (Q : Post) :
    WP AP ctx law14_WorldDecodes_c5 ⟨tm, dfs, up, H⟩ Q =
    (GS AP dirty ctx law14_WorldDecodes_c5_r0 ⟨tm, dfs, up, H⟩ (SEQ (WP AP ctx .ret) Q)) := Gxrseq AP ctx _ _ law14_WorldDecodes_c5_r0 .ret
theorem law14_WorldDecodes_c5_r0_w (ctx : Ctx) (tm : T AV) (dfs : List ADef) (up : Option Chain) (H : AHeap) (Q : Post) :
    GS AP true ctx law14_WorldDecodes_c5_r0 ⟨tm, dfs, up, H⟩ Q =
    (BI dirty (Op.move [(.bool true)]) fun g t2 => GO g Q .normal ⟨(setsE [(2, t2)] tm), dfs, up, H⟩) := WPS_shallow (l := law14_WorldDecodes_c5_r0) (by kernel_rfl)
theorem law14_WorldDecodes_c4_w (ctx : Ctx) (tm : T AV) (dfs : List ADef) (up : Option Chain) (H : AHeap) (Q : Post) :
    WP AP ctx law14_WorldDecodes_c4 ⟨tm, dfs, up, H⟩ Q =
    (BI dirty (tm.get 8) fun g v => BI g (asBool v) fun g q => IG g q (fun g => GW AP g ctx law14_WorldDecodes_c5 ⟨tm, dfs, up, H⟩ Q) (fun g => GW AP g ctx .skip ⟨tm, dfs, up, H⟩ Q)) := Gxcond AP ctx _ _ 8 law14_WorldDecodes_c5 .skip
theorem law14_WorldDecodes_c3_w (ctx : Ctx) (tm : T AV) (dfs : List ADef) (up : Option Chain) (H : AHeap) (Q : Post) :
    WP AP ctx law14_WorldDecodes_c3 ⟨tm, dfs, up, H⟩ Q =
    (GS AP dirty ctx law14_WorldDecodes_c3_r0 ⟨tm, dfs, up, H⟩ (SEQ (WP AP ctx law14_WorldDecodes_c4) Q)) := Gxrseq AP ctx _ _ law14_WorldDecodes_c3_r0 law14_WorldDecodes_c4
theorem law14_WorldDecodes_c3_r0_w (ctx : Ctx) (tm : T AV) (dfs : List ADef) (up : Option Chain) (H : AHeap) (Q : Post) :
    GS AP true ctx law14_WorldDecodes_c3_r0 ⟨tm, dfs, up, H⟩ Q =
    (LK dirty (tm.get 0) fun g ti0 => BI g (Op.move [ti0]) fun g t6 => BI g (Op.lenSl [t6]) fun g t7 => BI g ((Op.bin .gtr) [t7, (.int .i64 100000)]) fun g t8 => 
    GO g Q .normal ⟨(setsE [(8, t8), (7, t7), (6, t6)] tm), dfs, up, H⟩) := WPS_shallow (l := law14_WorldDecodes_c3_r0) (by kernel_rfl)
theorem law14_WorldDecodes_c11_w (ctx : Ctx) (tm : T AV) (dfs : List ADef) (up : Option Chain) (H : AHeap) (Q : Post) :
    WP AP ctx law14_WorldDecodes_c11 ⟨tm, dfs, up, H⟩ Q =
    (GS AP dirty ctx law14_WorldDecodes_c11_r0 ⟨tm, dfs, up, H⟩ (SEQ (WP AP ctx .ret) Q)) := Gxrseq AP ctx _ _ law14_WorldDecodes_c11_r0 .ret
theorem law14_WorldDecodes_c11_r0_w (ctx : Ctx) (tm : T AV) (dfs : List ADef) (up : Option Chain) (H : AHeap) (Q : Post) :
    GS AP true ctx law14_WorldDecodes_c11_r0 ⟨tm, dfs, up, H⟩ Q =
    (BI dirty (Op.move [(.bool false)]) fun g t2 => GO g Q .normal ⟨(setsE [(2, t2)] tm), dfs, up, H⟩) := WPS_shallow (l := law14_WorldDecodes_c11_r0) (by kernel_rfl)
theorem law14_WorldDecodes_c10_w (ctx : Ctx) (tm : T AV) (dfs : List ADef) (up : Option Chain) (H : AHeap) (Q : Post) :
    WP AP ctx law14_WorldDecodes_c10 ⟨tm, dfs, up, H⟩ Q =
    (BI dirty (tm.get 17) fun g v => BI g (asBool v) fun g q => IG g q (fun g => GW AP g ctx law14_WorldDecodes_c11 ⟨tm, dfs, up, H⟩ Q) (fun g => GW AP g ctx .skip ⟨tm, dfs, up, H⟩ Q)) := Gxcond AP ctx _ _ 17 law14_WorldDecodes_c11 .skip
theorem law14_WorldDecodes_c9_w (ctx : Ctx) (tm : T AV) (dfs : List ADef) (up : Option Chain) (H : AHeap) (Q : Post) :
    WP AP ctx law14_WorldDecodes_c9 ⟨tm, dfs, up, H⟩ Q =
    (GS AP dirty ctx law14_WorldDecodes_c9_r0 ⟨tm, dfs, up, H⟩ (SEQ (WP AP ctx law14_WorldDecodes_c10) Q)) := Gxrseq AP ctx _ _ law14_WorldDecodes_c9_r0 law14_WorldDecodes_c10
theorem law14_WorldDecodes_c9_r0_w (ctx : Ctx) (tm : T AV) (dfs : List ADef) (up : Option Chain) (H : AHeap) (Q : Post) :
    GS AP true ctx law14_WorldDecodes_c9_r0 ⟨tm, dfs, up, H⟩ Q =
    (LK dirty (tm.get 3) fun g ti3 => BI g (Op.move [ti3]) fun g t13 => BI g (Op.lenSl [t13]) fun g t14 => LK g (tm.get 4) fun g ti4 => BI g (Op.move [ti4]) fun g t15 => 
    BI g (Op.lenSl [t15]) fun g t16 => BI g ((Op.bin .neq) [t14, t16]) fun g t17 => GO g Q .normal ⟨(setsE [(17, t17), (16, t16), (15, t15), (14, t14), (13, t13)] tm), dfs, up, H⟩) := WPS_shallow (l := law14_WorldDecodes_c9_r0) (by kernel_rfl)
theorem law14_WorldDecodes_c18_w (ctx : Ctx) (tm : T AV) (dfs : List ADef) (up : Option Chain) (H : AHeap) (Q : Post) :
    WP AP ctx law14_WorldDecodes_c18 ⟨tm, dfs, up, H⟩ Q =
    (BI dirty (tm.get 21) fun g v => BI g (asBool v) fun g q => IG g q (fun g => GW AP g ctx .skip ⟨tm, dfs, up, H⟩ Q) (fun g => GW AP g ctx (.exit 0) ⟨tm, dfs, up, H⟩ Q)) := Gxcond AP ctx _ _ 21 .skip (.exit 0)
theorem law14_WorldDecodes_c17_w (ctx : Ctx) (tm : T AV) (dfs : List ADef) (up : Option Chain) (H : AHeap) (Q : Post) :
    WP AP ctx law14_WorldDecodes_c17 ⟨tm, dfs, up, H⟩ Q =
    (GS AP dirty ctx law14_WorldDecodes_c17_r0 ⟨tm, dfs, up, H⟩ (SEQ (WP AP ctx law14_WorldDecodes_c18) Q)) := Gxrseq AP ctx _ _ law14_WorldDecodes_c17_r0 law14_WorldDecodes_c18
theorem law14_WorldDecodes_c17_r0_w (ctx : Ctx) (tm : T AV) (dfs : List ADef) (up : Option Chain) (H : AHeap) (Q : Post) :
    GS AP true ctx law14_WorldDecodes_c17_r0 ⟨tm, dfs, up, H⟩ Q =
    (LK dirty (tm.get 5) fun g ti5 => BI g (Op.move [ti5]) fun g t18 => LK g (tm.get 3) fun g ti3 => BI g (Op.move [ti3]) fun g t19 => BI g (Op.lenSl [t19]) fun g t20 => 
    BI g ((Op.bin .lss) [t18, t20]) fun g t21 => GO g Q .normal ⟨(setsE [(21, t21), (20, t20), (19, t19), (18, t18)] tm), dfs, up, H⟩) := WPS_shallow (l := law14_WorldDecodes_c17_r0) (by kernel_rfl)
theorem law14_WorldDecodes_c23_w (ctx : Ctx) (tm : T AV) (dfs : List ADef) (up : Option Chain) (H : AHeap) (Q : Post) :
    WP AP ctx law14_WorldDecodes_c23 ⟨tm, dfs, up, H⟩ Q =
    (GS AP dirty ctx law14_WorldDecodes_c23_r0 ⟨tm, dfs, up, H⟩ (SEQ (WP AP ctx .ret) Q)) := Gxrseq AP ctx _ _ law14_WorldDecodes_c23_r0 .ret
theorem law14_WorldDecodes_c23_r0_w (ctx : Ctx) (tm : T AV) (dfs : List ADef) (up : Option Chain) (H : AHeap) (Q : Post) :
    GS AP true ctx law14_WorldDecodes_c23_r0 ⟨tm, dfs, up, H⟩ Q =
    (BI dirty (Op.move [(.bool false)]) fun g t2 => GO g Q .normal ⟨(setsE [(2, t2)] tm), dfs, up, H⟩) := WPS_shallow (l := law14_WorldDecodes_c23_r0) (by kernel_rfl)
theorem law14_WorldDecodes_c22_w (ctx : Ctx) (tm : T AV) (dfs : List ADef) (up : Option Chain) (H : AHeap) (Q : Post) :
    WP AP ctx law14_WorldDecodes_c22 ⟨tm, dfs, up, H⟩ Q =
    (BI dirty (tm.get 32) fun g v => BI g (asBool v) fun g q => IG g q (fun g => GW AP g ctx law14_WorldDecodes_c23 ⟨tm, dfs, up, H⟩ Q) (fun g => GW AP g ctx .skip ⟨tm, dfs, up, H⟩ Q)) := Gxcond AP ctx _ _ 32 law14_WorldDecodes_c23 .skip
theorem law14_WorldDecodes_c21_w (ctx : Ctx) (tm : T AV) (dfs : List ADef) (up : Option Chain) (H : AHeap) (Q : Post) :
    WP AP ctx law14_WorldDecodes_c21 ⟨tm, dfs, up, H⟩ Q =
    (GS AP dirty ctx law14_WorldDecodes_c21_r0 ⟨tm, dfs, up, H⟩ (SEQ (WP AP ctx law14_WorldDecodes_c22) Q)) := Gxrseq AP ctx _ _ law14_WorldDecodes_c21_r0 law14_WorldDecodes_c22
theorem law14_WorldDecodes_c21_r0_w (ctx : Ctx) (tm : T AV) (dfs : List ADef) (up : Option Chain) (H : AHeap) (Q : Post) :
    GS AP true ctx law14_WorldDecodes_c21_r0 ⟨tm, dfs, up, H⟩ Q =
    (LK dirty (tm.get 3) fun g ti3 => BI g (Op.move [ti3]) fun g t24 => LK g (tm.get 5) fun g ti5 => BI g (Op.move [ti5]) fun g t25 => BI g ((Op.indexSl 3) [t24, t25]) fun g t26 => 
    BI g ((Op.loadN 3) [t26] H) fun g t27 => LK g (tm.get 4) fun g ti4 => BI g (Op.move [ti4]) fun g t28 => LK g (tm.get 5) fun g ti5_1 => BI g (Op.move [ti5_1]) fun g t29 => 
    BI g ((Op.indexSl 3) [t28, t29]) fun g t30 => BI g ((Op.loadN 3) [t30] H) fun g t31 => BI g ((Op.eq (.agg (.part 0 none .int (.part 1 none .int (.part 2 none .int .nil)))) true) [t27, t31] H) fun g t32 => GO g Q .normal ⟨(setsE [(32, t32), (31, t31), (30, t30), (29, t29), (28, t28), (27, t27), (26, t26), (25, t25), (24, t24)] tm), dfs, up, H⟩) := WPS_shallow (l := law14_WorldDecodes_c21_r0) (by kernel_rfl)
theorem law14_WorldDecodes_c20_w (ctx : Ctx) (tm : T AV) (dfs : List ADef) (up : Option Chain) (H : AHeap) (Q : Post) :
    WP AP ctx law14_WorldDecodes_c20 ⟨tm, dfs, up, H⟩ Q =
    (WP AP ctx law14_WorldDecodes_c21 ⟨tm, dfs, up, H⟩ (BLK 1 Q)) := WP_block AP ctx _ _ 1 law14_WorldDecodes_c21
theorem law14_WorldDecodes_c24_w (ctx : Ctx) (tm : T AV) (dfs : List ADef) (up : Option Chain) (H : AHeap) (Q : Post) :
    WP AP ctx law14_WorldDecodes_c24 ⟨tm, dfs, up, H⟩ Q =
    (GS AP dirty ctx law14_WorldDecodes_c24_r0 ⟨tm, dfs, up, H⟩ Q) := Gxregion AP ctx _ _ law14_WorldDecodes_c24_r0
theorem law14_WorldDecodes_c24_r0_w (ctx : Ctx) (tm : T AV) (dfs : List ADef) (up : Option Chain) (H : AHeap) (Q : Post) :
    GS AP true ctx law14_WorldDecodes_c24_r0 ⟨tm, dfs, up, H⟩ Q =
    (LK dirty (tm.get 5) fun g ti5 => BI g (Op.move [ti5]) fun g t22 => BI g ((Op.bin .add) [t22, (.int .i64 1)]) fun g t23 => BI g (Op.move [t23]) fun g t5 => 
    GO g Q .normal ⟨(setsE [(5, t5), (23, t23), (22, t22)] tm), dfs, up, H⟩) := WPS_shallow (l := law14_WorldDecodes_c24_r0) (by kernel_rfl)
theorem law14_WorldDecodes_c19_w (ctx : Ctx) (tm : T AV) (dfs : List ADef) (up : Option Chain) (H : AHeap) (Q : Post) :
    WP AP ctx law14_WorldDecodes_c19 ⟨tm, dfs, up, H⟩ Q =
    (WP AP ctx law14_WorldDecodes_c20 ⟨tm, dfs, up, H⟩ (SEQ (WP AP ctx law14_WorldDecodes_c24) Q)) := WP_seq AP ctx _ _ law14_WorldDecodes_c20 law14_WorldDecodes_c24
theorem law14_WorldDecodes_c16_w (ctx : Ctx) (tm : T AV) (dfs : List ADef) (up : Option Chain) (H : AHeap) (Q : Post) :
    WP AP ctx law14_WorldDecodes_c16 ⟨tm, dfs, up, H⟩ Q =
    (WP AP ctx law14_WorldDecodes_c17 ⟨tm, dfs, up, H⟩ (SEQ (WP AP ctx law14_WorldDecodes_c19) Q)) := WP_seq AP ctx _ _ law14_WorldDecodes_c17 law14_WorldDecodes_c19
theorem law14_WorldDecodes_c15_w (ctx : Ctx) (tm : T AV) (dfs : List ADef) (up : Option Chain) (H : AHeap) (Q : Post) :
    WP AP ctx law14_WorldDecodes_c15 ⟨tm, dfs, up, H⟩ Q =
    (LOOP (WP AP ctx law14_WorldDecodes_c16) none ⟨tm, dfs, up, H⟩ Q) := WP_loop AP ctx _ _ none law14_WorldDecodes_c16
theorem law14_WorldDecodes_c14_w (ctx : Ctx) (tm : T AV) (dfs : List ADef) (up : Option Chain) (H : AHeap) (Q : Post) :
    WP AP ctx law14_WorldDecodes_c14 ⟨tm, dfs, up, H⟩ Q =
    (WP AP ctx law14_WorldDecodes_c15 ⟨tm, dfs, up, H⟩ (BLK 0 Q)) := WP_block AP ctx _ _ 0 law14_WorldDecodes_c15
theorem law14_WorldDecodes_c13_w (ctx : Ctx) (tm : T AV) (dfs : List ADef) (up : Option Chain) (H : AHeap) (Q : Post) :
    WP AP ctx law14_WorldDecodes_c13 ⟨tm, dfs, up, H⟩ Q =
    (GS AP dirty ctx law14_WorldDecodes_c13_r0 ⟨tm, dfs, up, H⟩ (SEQ (WP AP ctx law14_WorldDecodes_c14) Q)) := Gxrseq AP ctx _ _ law14_WorldDecodes_c13_r0 law14_WorldDecodes_c14
theorem law14_WorldDecodes_c13_r0_w (ctx : Ctx) (tm : T AV) (dfs : List ADef) (up : Option Chain) (H : AHeap) (Q : Post) :
    GS AP true ctx law14_WorldDecodes_c13_r0 ⟨tm, dfs, up, H⟩ Q =
    (BI dirty (Op.move [(.int .i64 0)]) fun g t5 => GO g Q .normal ⟨(setsE [(5, t5)] tm), dfs, up, H⟩) := WPS_shallow (l := law14_WorldDecodes_c13_r0) (by kernel_rfl)
theorem law14_WorldDecodes_c25_w (ctx : Ctx) (tm : T AV) (dfs : List ADef) (up : Option Chain) (H : AHeap) (Q : Post) :
    WP AP ctx law14_WorldDecodes_c25 ⟨tm, dfs, up, H⟩ Q =
    (GS AP dirty ctx law14_WorldDecodes_c25_r0 ⟨tm, dfs, up, H⟩ (SEQ (WP AP ctx .ret) Q)) := Gxrseq AP ctx _ _ law14_WorldDecodes_c25_r0 .ret
theorem law14_WorldDecodes_c25_r0_w (ctx : Ctx) (tm : T AV) (dfs : List ADef) (up : Option Chain) (H : AHeap) (Q : Post) :
    GS AP true ctx law14_WorldDecodes_c25_r0 ⟨tm, dfs, up, H⟩ Q =
    (BI dirty (Op.move [(.bool true)]) fun g t2 => GO g Q .normal ⟨(setsE [(2, t2)] tm), dfs, up, H⟩) := WPS_shallow (l := law14_WorldDecodes_c25_r0) (by kernel_rfl)
theorem law14_WorldDecodes_c12_w (ctx : Ctx) (tm : T AV) (dfs : List ADef) (up : Option Chain) (H : AHeap) (Q : Post) :
    WP AP ctx law14_WorldDecodes_c12 ⟨tm, dfs, up, H⟩ Q =
    (WP AP ctx law14_WorldDecodes_c13 ⟨tm, dfs, up, H⟩ (SEQ (WP AP ctx law14_WorldDecodes_c25) Q)) := WP_seq AP ctx _ _ law14_WorldDecodes_c13 law14_WorldDecodes_c25
theorem law14_WorldDecodes_c8_w (ctx : Ctx) (tm : T AV) (dfs : List ADef) (up : Option Chain) (H : AHeap) (Q : Post) :
    WP AP ctx law14_WorldDecodes_c8 ⟨tm, dfs, up, H⟩ Q =
    (WP AP ctx law14_WorldDecodes_c9 ⟨tm, dfs, up, H⟩ (SEQ (WP AP ctx law14_WorldDecodes_c12) Q)) := WP_seq AP ctx _ _ law14_WorldDecodes_c9 law14_WorldDecodes_c12
theorem law14_WorldDecodes_c7_w (ctx : Ctx) (tm : T AV) (dfs : List ADef) (up : Option Chain) (H : AHeap) (Q : Post) :
    WP AP ctx law14_WorldDecodes_c7 ⟨tm, dfs, up, H⟩ Q =
    (GS AP dirty ctx law14_WorldDecodes_c7_r0 ⟨tm, dfs, up, H⟩ (SEQ (WP AP ctx law14_WorldDecodes_c8) Q)) := Gxrseq AP ctx _ _ law14_WorldDecodes_c7_r0 law14_WorldDecodes_c8
theorem law14_WorldDecodes_c7_r0_w (ctx : Ctx) (tm : T AV) (dfs : List ADef) (up : Option Chain) (H : AHeap) (Q : Post) :
    GS AP true ctx law14_WorldDecodes_c7_r0 ⟨tm, dfs, up, H⟩ Q =
    (LK dirty (tm.get 0) fun g ti0 => BI g (Op.move [ti0]) fun g t11 => CA AP g (.func N_ref14_Decode) [t11] H (fun g t12 H1 => 
    BI g (Op.move [t12]) fun g t4 => 
    GO g Q .normal ⟨(setsE [(4, t4), (12, t12), (11, t11)] tm), dfs, up, H1⟩) (PAN (some []) (setsE [(11, t11)] tm) dfs up Q)) := WPS_shallow (l := law14_WorldDecodes_c7_r0) (by kernel_rfl)
theorem law14_WorldDecodes_c6_w (ctx : Ctx) (tm : T AV) (dfs : List ADef) (up : Option Chain) (H : AHeap) (Q : Post) :
    WP AP ctx law14_WorldDecodes_c6 ⟨tm, dfs, up, H⟩ Q =
    (GS AP dirty ctx law14_WorldDecodes_c6_r0 ⟨tm, dfs, up, H⟩ (SEQ (WP AP ctx law14_WorldDecodes_c7) Q)) := Gxrseq AP ctx _ _ law14_WorldDecodes_c6_r0 law14_WorldDecodes_c7
theorem law14_WorldDecodes_c6_r0_w (ctx : Ctx) (tm : T AV) (dfs : List ADef) (up : Option Chain) (H : AHeap) (Q : Post) :
    GS AP true ctx law14_WorldDecodes_c6_r0 ⟨tm, dfs, up, H⟩ Q =
    (LK dirty (tm.get 0) fun g ti0 => BI g (Op.move [ti0]) fun g t9 => CA AP g (.func N_world_Decode) [t9] H (fun g t10 H1 => 
    BI g (Op.move [t10]) fun g t3 => 
    GO g Q .normal ⟨(setsE [(3, t3), (10, t10), (9, t9)] tm), dfs, up, H1⟩) (PAN (some []) (setsE [(9, t9)] tm) dfs up Q)) := WPS_shallow (l := law14_WorldDecodes_c6_r0) (by kernel_rfl)
theorem law14_WorldDecodes_c2_w (ctx : Ctx) (tm : T AV) (dfs : List ADef) (up : Option Chain) (H : AHeap) (Q : Post) :
    WP AP ctx law14_WorldDecodes_c2 ⟨tm, dfs, up, H⟩ Q =
    (WP AP ctx law14_WorldDecodes_c3 ⟨tm, dfs, up, H⟩ (SEQ (WP AP ctx law14_WorldDecodes_c6) Q)) := WP_seq AP ctx _ _ law14_WorldDecodes_c3 law14_WorldDecodes_c6
theorem law14_WorldDecodes_c1_w (ctx : Ctx) (tm : T AV) (dfs : List ADef) (up : Option Chain) (H : AHeap) (Q : Post) :
    WP AP ctx law14_WorldDecodes_c1 ⟨tm, dfs, up, H⟩ Q =
    (GS AP dirty ctx law14_WorldDecodes_c1_r0 ⟨tm, dfs, up, H⟩ (SEQ (WP AP ctx law14_WorldDecodes_c2) Q)) := Gxrseq AP ctx _ _ law14_WorldDecodes_c1_r0 law14_WorldDecodes_c2
theorem law14_WorldDecodes_c1_r0_w (ctx : Ctx) (tm : T AV) (dfs : List ADef) (up : Option Chain) (H : AHeap) (Q : Post) :
    GS AP true ctx law14_WorldDecodes_c1_r0 ⟨tm, dfs, up, H⟩ Q =
    (BI dirty (Op.move [(.bool false)]) fun g t2 => GO g Q .normal ⟨(setsE [(2, t2)] tm), dfs, up, H⟩) := WPS_shallow (l := law14_WorldDecodes_c1_r0) (by kernel_rfl)
/-! ### shunt/world.Decode -/
def world_Decode_c2_r0 : List AStep := [⟨false, (some 3), none, [.tmp 0], .pure Op.move, (some [])⟩,
  ⟨false, (some 4), none, [.tmp 3], .callF N_world_acts, (some [])⟩,
  ⟨false, (some 5), none, [.tmp 4], .callF N_slices_Collect_api_Act, (some [])⟩,
  ⟨false, (some 2), none, [.tmp 5], .pure Op.move, (some [])⟩]
def world_Decode_c2 : ACode := .seq (.region world_Decode_c2_r0) .ret
def world_Decode_c1_r0 : List AStep := [⟨false, (some 2), none, [.const .nils], .pure Op.move, (some [])⟩]
def world_Decode_c1 : ACode := .seq (.region world_Decode_c1_r0) world_Decode_c2
def world_Decode_F : AFunc := ⟨[.tmp 2], world_Decode_c1, []⟩
theorem world_Decode_c2_w (ctx : Ctx) (tm : T AV) (dfs : List ADef) (up : Option Chain) (H : AHeap) (Q : Post) :
    WP AP ctx world_Decode_c2 ⟨tm, dfs, up, H⟩ Q =
    (GS AP dirty ctx world_Decode_c2_r0 ⟨tm, dfs, up, H⟩ (SEQ (WP AP ctx .ret) Q)) := Gxrseq AP ctx _ _ world_Decode_c2_r0 .ret
theorem world_Decode_c2_r0_w (ctx : Ctx) (tm : T AV) (dfs : List ADef) (up : Option Chain) (H : AHeap) (Q : Post) :
    GS AP true ctx world_Decode_c2_r0 ⟨tm, dfs, up, H⟩ Q =
    (LK dirty (tm.get 0) fun g ti0 => BI g (Op.move [ti0]) fun g t3 => CA AP g (.func N_world_acts) [t3] H (fun g t4 H1 => 
    CA AP g (.func N_slices_Collect_api_Act) [t4] H1 (fun g t5 H2 => 
    BI g (Op.move [t5]) fun g t2 => GO g Q .normal ⟨(setsE [(2, t2), (5, t5), (4, t4), (3, t3)] tm), dfs, up, H2⟩) (PAN (some []) (setsE [(4, t4), (3, t3)] tm) dfs up Q)) (PAN (some []) (setsE [(3, t3)] tm) dfs up Q)) := WPS_shallow (l := world_Decode_c2_r0) (by kernel_rfl)
theorem world_Decode_c1_w (ctx : Ctx) (tm : T AV) (dfs : List ADef) (up : Option Chain) (H : AHeap) (Q : Post) :
    WP AP ctx world_Decode_c1 ⟨tm, dfs, up, H⟩ Q =
    (GS AP dirty ctx world_Decode_c1_r0 ⟨tm, dfs, up, H⟩ (SEQ (WP AP ctx world_Decode_c2) Q)) := Gxrseq AP ctx _ _ world_Decode_c1_r0 world_Decode_c2
theorem world_Decode_c1_r0_w (ctx : Ctx) (tm : T AV) (dfs : List ADef) (up : Option Chain) (H : AHeap) (Q : Post) :
    GS AP true ctx world_Decode_c1_r0 ⟨tm, dfs, up, H⟩ Q =
    (BI dirty (Op.move [.nils]) fun g t2 => GO g Q .normal ⟨(setsE [(2, t2)] tm), dfs, up, H⟩) := WPS_shallow (l := world_Decode_c1_r0) (by kernel_rfl)
/-! ### shunt/shuntref14.Decode -/
def ref14_Decode_c9 : ACode := .cond (.tmp 9) .skip (.exit 0)
def ref14_Decode_c8_r0 : List AStep := [⟨false, (some 5), none, [.tmp 4], .pure Op.move, (some [])⟩,
  ⟨false, (some 6), none, [.tmp 5, .const (.int .i64 3)], .pure (Op.bin .add), (some [])⟩,
  ⟨false, (some 7), none, [.tmp 0], .pure Op.move, (some [])⟩,
  ⟨false, (some 8), none, [.tmp 7], .pure Op.lenSl, (some [])⟩,
  ⟨false, (some 9), none, [.tmp 6, .tmp 8], .pure (Op.bin .leq), (some [])⟩]
def ref14_Decode_c8 : ACode := .seq (.region ref14_Decode_c8_r0) ref14_Decode_c9
def ref14_Decode_c12_r0 : List AStep := [⟨false, (some 12), none, [.tmp 3], .pure Op.move, none⟩,
  ⟨false, (some 13), none, [.tmp 0], .pure Op.move, none⟩,
  ⟨false, (some 14), none, [.tmp 4], .pure Op.move, none⟩,
  ⟨false, (some 15), none, [.tmp 13, .tmp 14], .pure (Op.indexSl 1), none⟩,
  ⟨false, (some 16), none, [.tmp 15], .read Op.load1, none⟩,
  ⟨false, (some 17), none, [.tmp 16], .pure (Op.wrap .i64), none⟩,
  ⟨false, (some 18), none, [.tmp 17, .const (.int .i64 4)], .pure (Op.bin .rem), none⟩,
  ⟨false, (some 19), none, [.const (.int .i64 1), .tmp 18], .pure (Op.bin .add), none⟩,
  ⟨false, (some 20), none, [.tmp 0], .pure Op.move, none⟩,
  ⟨false, (some 21), none, [.tmp 4], .pure Op.move, none⟩,
  ⟨false, (some 22), none, [.tmp 21, .const (.int .i64 1)], .pure (Op.bin .add), none⟩,
  ⟨false, (some 23), none, [.tmp 20, .tmp 22], .pure (Op.indexSl 1), none⟩,
  ⟨false, (some 24), none, [.tmp 23], .read Op.load1, none⟩,
  ⟨false, (some 25), none, [.tmp 24], .pure (Op.wrap .i64), none⟩,
  ⟨false, (some 26), none, [.tmp 25, .const (.int .i64 4)], .pure (Op.bin .rem), none⟩,
  ⟨false, (some 27), none, [.tmp 0], .pure Op.move, none⟩,
  ⟨false, (some 28), none, [.tmp 4], .pure Op.move, (some [12, 13, 14, 15, 16, 17, 18, 19, 20, 21, 22, 23, 24, 25, 26, 27, 28, 29, 30, 31, 32, 33, 34, 35, 3])⟩,
  ⟨false, (some 29), none, [.tmp 28, .const (.int .i64 2)], .pure (Op.bin .add), (some [12, 13, 14, 15, 16, 17, 18, 19, 20, 21, 22, 23, 24, 25, 26, 27, 28, 29, 30, 31, 32, 33, 34, 35, 3])⟩,
  ⟨false, (some 30), none, [.tmp 27, .tmp 29], .pure (Op.indexSl 1), (some [12, 13, 14, 15, 16, 17, 18, 19, 20, 21, 22, 23, 24, 25, 26, 27, 28, 29, 30, 31, 32, 33, 34, 35, 3])⟩,
  ⟨false, (some 31), none, [.tmp 30], .read Op.load1, (some [12, 13, 14, 15, 16, 17, 18, 19, 20, 21, 22, 23, 24, 25, 26, 27, 28, 29, 30, 31, 32, 33, 34, 35, 3])⟩,
  ⟨false, (some 32), none, [.tmp 31], .pure (Op.wrap .i64), (some [12, 13, 14, 15, 16, 17, 18, 19, 20, 21, 22, 23, 24, 25, 26, 27, 28, 29, 30, 31, 32, 33, 34, 35, 3])⟩,
  ⟨false, (some 33), none, [.tmp 19, .tmp 26, .tmp 32], .pure (Op.build [(.int .i64 0), (.int .i64 0), (.int .i64 0)] [(0, 1), (1, 1), (2, 1)]), (some [12, 13, 14, 15, 16, 17, 18, 19, 20, 21, 22, 23, 24, 25, 26, 27, 28, 29, 30, 31, 32, 33, 34, 35, 3])⟩,
  ⟨false, (some 34), none, [.tmp 33], .alloc (Op.buildSlice T_api_Act 1 [(.int .i64 0), (.int .i64 0), (.int .i64 0)] [(0, 3)]), (some [12, 13, 14, 15, 16, 17, 18, 19, 20, 21, 22, 23, 24, 25, 26, 27, 28, 29, 30, 31, 32, 33, 34, 35, 3])⟩,
  ⟨false, (some 35), none, [.tmp 12, .tmp 34], .eff (Op.append T_api_Act 3 24), (some [12, 13, 14, 15, 16, 17, 18, 19, 20, 21, 22, 23, 24, 25, 26, 27, 28, 29, 30, 31, 32, 33, 34, 35, 3])⟩,
  ⟨false, (some 3), none, [.tmp 35], .pure Op.move, (some [12, 13, 14, 15, 16, 17, 18, 19, 20, 21, 22, 23, 24, 25, 26, 27, 28, 29, 30, 31, 32, 33, 34, 35, 3])⟩]
def ref14_Decode_c12 : ACode := .region ref14_Decode_c12_r0
def ref14_Decode_c11 : ACode := .block 1 ref14_Decode_c12
def ref14_Decode_c13_r0 : List AStep := [⟨false, (some 10), none, [.tmp 4], .pure Op.move, (some [])⟩,
  ⟨false, (some 11), none, [.tmp 10, .const (.int .i64 3)], .pure (Op.bin .add), (some [])⟩,
  ⟨false, (some 4), none, [.tmp 11], .pure Op.move, (some [])⟩]
def ref14_Decode_c13 : ACode := .region ref14_Decode_c13_r0
def ref14_Decode_c10 : ACode := .seq ref14_Decode_c11 ref14_Decode_c13
def ref14_Decode_c7 : ACode := .seq ref14_Decode_c8 ref14_Decode_c10
def ref14_Decode_c6 : ACode := .loop none ref14_Decode_c7
def ref14_Decode_c5 : ACode := .block 0 ref14_Decode_c6
def ref14_Decode_c4_r0 : List AStep := [⟨false, (some 4), none, [.const (.int .i64 0)], .pure Op.move, (some [])⟩]
def ref14_Decode_c4 : ACode := .seq (.region ref14_Decode_c4_r0) ref14_Decode_c5
def ref14_Decode_c14_r0 : List AStep := [⟨false, (some 36), none, [.tmp 3], .pure Op.move, (some [])⟩,
  ⟨false, (some 2), none, [.tmp 36], .pure Op.move, (some [])⟩]
def ref14_Decode_c14 : ACode := .seq (.region ref14_Decode_c14_r0) .ret
def ref14_Decode_c3 : ACode := .seq ref14_Decode_c4 ref14_Decode_c14
def ref14_Decode_c2_r0 : List AStep := [⟨false, (some 3), none, [.const .nils], .pure Op.move, (some [])⟩]
def ref14_Decode_c2 : ACode := .seq (.region ref14_Decode_c2_r0) ref14_Decode_c3
def ref14_Decode_c1_r0 : List AStep := [⟨false, (some 2), none, [.const .nils], .pure Op.move, (some [])⟩]
def ref14_Decode_c1 : ACode := .seq (.region ref14_Decode_c1_r0) ref14_Decode_c2
def ref14_Decode_F : AFunc := ⟨[.tmp 2], ref14_Decode_c1, []⟩
theorem ref14_Decode_c9_w (ctx : Ctx) (tm : T AV) (dfs : List ADef) (up : Option Chain) (H : AHeap) (Q : Post) :
    WP AP ctx ref14_Decode_c9 ⟨tm, dfs, up, H⟩ Q =
    (BI dirty (tm.get 9) fun g v => BI g (asBool v) fun g q => IG g q (fun g => GW AP g ctx .skip ⟨tm, dfs, up, H⟩ Q) (fun g => GW AP g ctx (.exit 0) ⟨tm, dfs, up, H⟩ Q)) := Gxcond AP ctx _ _ 9 .skip (.exit 0)
theorem ref14_Decode_c8_w (ctx : Ctx) (tm : T AV) (dfs : List ADef) (up : Option Chain) (H : AHeap) (Q : Post) :
    WP AP ctx ref14_Decode_c8 ⟨tm, dfs, up, H⟩ Q =
    (GS AP dirty ctx ref14_Decode_c8_r0 ⟨tm, dfs, up, H⟩ (SEQ (WP AP ctx ref14_Decode_c9) Q)) := Gxrseq AP ctx _ _ ref14_Decode_c8_r0 ref14_Decode_c9
theorem ref14_Decode_c8_r0_w (ctx : Ctx) (tm : T AV) (dfs : List ADef) (up : Option Chain) (H : AHeap) (Q : Post) :
    GS AP true ctx ref14_Decode_c8_r0 ⟨tm, dfs, up, H⟩ Q =
    (LK dirty (tm.get 4) fun g ti4 => BI g (Op.move [ti4]) fun g t5 => BI g ((Op.bin .add) [t5, (.int .i64 3)]) fun g t6 => LK g (tm.get 0) fun g ti0 => BI g (Op.move [ti0]) fun g t7 => 
    BI g (Op.lenSl [t7]) fun g t8 => BI g ((Op.bin .leq) [t6, t8]) fun g t9 => GO g Q .normal ⟨(setsE [(9, t9), (8, t8), (7, t7), (6, t6), (5, t5)] tm), dfs, up, H⟩) := WPS_shallow (l := ref14_Decode_c8_r0) (by kernel_rfl)
theorem ref14_Decode_c12_w (ctx : Ctx) (tm : T AV) (dfs : List ADef) (up : Option Chain) (H : AHeap) (Q : Post) :
    WP AP ctx ref14_Decode_c12 ⟨tm, dfs, up, H⟩ Q =
    (GS AP dirty ctx ref14_Decode_c12_r0 ⟨tm, dfs, up, H⟩ Q) := Gxregion AP ctx _ _ ref14_Decode_c12_r0
theorem ref14_Decode_c12_r0_w (ctx : Ctx) (tm : T AV) (dfs : List ADef) (up : Option Chain) (H : AHeap) (Q : Post) :
    GS AP true ctx ref14_Decode_c12_r0 ⟨tm, dfs, up, H⟩ Q =
    (LK dirty (tm.get 3) fun g ti3 => BI g (Op.move [ti3]) fun g t12 => LK g (tm.get 0) fun g ti0 => BI g (Op.move [ti0]) fun g t13 => LK g (tm.get 4) fun g ti4 => BI g (Op.move [ti4]) fun g t14 => 
    BI g ((Op.indexSl 1) [t13, t14]) fun g t15 => BI g (Op.load1 [t15] H) fun g t16 => BI g ((Op.wrap .i64) [t16]) fun g t17 => 
    BI g ((Op.bin .rem) [t17, (.int .i64 4)]) fun g t18 => BI g ((Op.bin .add) [(.int .i64 1), t18]) fun g t19 => LK g (tm.get 0) fun g ti0_1 => BI g (Op.move [ti0_1]) fun g t20 => 
    LK g (tm.get 4) fun g ti4_1 => BI g (Op.move [ti4_1]) fun g t21 => BI g ((Op.bin .add) [t21, (.int .i64 1)]) fun g t22 => BI g ((Op.indexSl 1) [t20, t22]) fun g t23 => 
    BI g (Op.load1 [t23] H) fun g t24 => BI g ((Op.wrap .i64) [t24]) fun g t25 => BI g ((Op.bin .rem) [t25, (.int .i64 4)]) fun g t26 => 
    LK g (tm.get 0) fun g ti0_2 => BI g (Op.move [ti0_2]) fun g t27 => LK g (tm.get 4) fun g ti4_2 => BI g (Op.move [ti4_2]) fun g t28 => BI g ((Op.bin .add) [t28, (.int .i64 2)]) fun g t29 => 
    BI g ((Op.indexSl 1) [t27, t29]) fun g t30 => BI g (Op.load1 [t30] H) fun g t31 => BI g ((Op.wrap .i64) [t31]) fun g t32 => 
    BI g ((Op.build [(.int .i64 0), (.int .i64 0), (.int .i64 0)] [(0, 1), (1, 1), (2, 1)]) [t19, t26, t32]) fun g t33 => BI2 g ((Op.buildSlice T_api_Act 1 [(.int .i64 0), (.int .i64 0), (.int .i64 0)] [(0, 3)]) [t33]) fun g o1 mk1 => BI2 g ((Op.append T_api_Act 3 24) [t12, (mk1 H.next)] (H.alloc o1)) fun g t35 H2 => 
    BI g (Op.move [t35]) fun g t3 => GO g Q .normal ⟨(setsE [(3, t3), (35, t35), (34, (mk1 H.next)), (33, t33), (32, t32), (31, t31), (30, t30), (29, t29), (28, t28), (27, t27), (26, t26), (25, t25), (24, t24), (23, t23), (22, t22), (21, t21), (20, t20), (19, t19), (18, t18), (17, t17), (16, t16), (15, t15), (14, t14), (13, t13), (12, t12)] tm), dfs, up, H2⟩) := WPS_shallow (l := ref14_Decode_c12_r0) (by kernel_rfl)
theorem ref14_Decode_c11_w (ctx : Ctx) (tm : T AV) (dfs : List ADef) (up : Option Chain) (H : AHeap) (Q : Post) :
    WP AP ctx ref14_Decode_c11 ⟨tm, dfs, up, H⟩ Q =
    (WP AP ctx ref14_Decode_c12 ⟨tm, dfs, up, H⟩ (BLK 1 Q)) := WP_block AP ctx _ _ 1 ref14_Decode_c12
theorem ref14_Decode_c13_w (ctx : Ctx) (tm : T AV) (dfs : List ADef) (up : Option Chain) (H : AHeap) (Q : Post) :
    WP AP ctx ref14_Decode_c13 ⟨tm, dfs, up, H⟩ Q =
    (GS AP dirty ctx ref14_Decode_c13_r0 ⟨tm, dfs, up, H⟩ Q) := Gxregion AP ctx _ _ ref14_Decode_c13_r0
theorem ref14_Decode_c13_r0_w (ctx : Ctx) (tm : T AV) (dfs : List ADef) (up : Option Chain) (H : AHeap) (Q : Post) :
    GS AP true ctx ref14_Decode_c13_r0 ⟨tm, dfs, up, H⟩ Q =
    (LK dirty (tm.get 4) fun g ti4 => BI g (Op.move [ti4]) fun g t10 => BI g ((Op.bin .add) [t10, (.int .i64 3)]) fun g t11 => BI g (Op.move [t11]) fun g t4 => 
    GO g Q .normal ⟨(setsE [(4, t4), (11, t11), (10, t10)] tm), dfs, up, H⟩) := WPS_shallow (l := ref14_Decode_c13_r0) (by kernel_rfl)
theorem ref14_Decode_c10_w (ctx : Ctx) (tm : T AV) (dfs : List ADef) (up : Option Chain) (H : AHeap) (Q : Post) :
    WP AP ctx ref14_Decode_c10 ⟨tm, dfs, up, H⟩ Q =
    (WP AP ctx ref14_Decode_c11 ⟨tm, dfs, up, H⟩ (SEQ (WP AP ctx ref14_Decode_c13) Q)) := WP_seq AP ctx _ _ ref14_Decode_c11 ref14_Decode_c13
theorem ref14_Decode_c7_w (ctx : Ctx) (tm : T AV) (dfs : List ADef) (up : Option Chain) (H : AHeap) (Q : Post) :
    WP AP ctx ref14_Decode_c7 ⟨tm, dfs, up, H⟩ Q =
    (WP AP ctx ref14_Decode_c8 ⟨tm, dfs, up, H⟩ (SEQ (WP AP ctx ref14_Decode_c10) Q)) := WP_seq AP ctx _ _ ref14_Decode_c8 ref14_Decode_c10
theorem ref14_Decode_c6_w (ctx : Ctx) (tm : T AV) (dfs : List ADef) (up : Option Chain) (H : AHeap) (Q : Post) :
    WP AP ctx ref14_Decode_c6 ⟨tm, dfs, up, H⟩ Q =
    (LOOP (WP AP ctx ref14_Decode_c7) none ⟨tm, dfs, up, H⟩ Q) := WP_loop AP ctx _ _ none ref14_Decode_c7
theorem ref14_Decode_c5_w (ctx : Ctx) (tm : T AV) (dfs : List ADef) (up : Option Chain) (H : AHeap) (Q : Post) :
    WP AP ctx ref14_Decode_c5 ⟨tm, dfs, up, H⟩ Q =
    (WP AP ctx ref14_Decode_c6 ⟨tm, dfs, up, H⟩ (BLK 0 Q)) := WP_block AP ctx _ _ 0 ref14_Decode_c6
theorem ref14_Decode_c4_w (ctx : Ctx) (tm : T AV) (dfs : List ADef) (up : Option Chain) (H : AHeap) (Q : Post) :
    WP AP ctx ref14_Decode_c4 ⟨tm, dfs, up, H⟩ Q =
    (GS AP dirty ctx ref14_Decode_c4_r0 ⟨tm, dfs, up, H⟩ (SEQ (WP AP ctx ref14_Decode_c5) Q)) := Gxrseq AP ctx _ _ ref14_Decode_c4_r0 ref14_Decode_c5
theorem ref14_Decode_c4_r0_w (ctx : Ctx) (tm : T AV) (dfs : List ADef) (up : Option Chain) (H : AHeap) (Q : Post) :
    GS AP true ctx ref14_Decode_c4_r0 ⟨tm, dfs, up, H⟩ Q =
    (BI dirty (Op.move [(.int .i64 0)]) fun g t4 => GO g Q .normal ⟨(setsE [(4, t4)] tm), dfs, up, H⟩) := WPS_shallow (l := ref14_Decode_c4_r0) (by kernel_rfl)
theorem ref14_Decode_c14_w (ctx : Ctx) (tm : T AV) (dfs : List ADef) (up : Option Chain) (H : AHeap) (Q : Post) :
    WP AP ctx ref14_Decode_c14 ⟨tm, dfs, up, H⟩ Q =
    (GS AP dirty ctx ref14_Decode_c14_r0 ⟨tm, dfs, up, H⟩ (SEQ (WP AP ctx .ret) Q)) := Gxrseq AP ctx _ _ ref14_Decode_c14_r0 .ret
theorem ref14_Decode_c14_r0_w (ctx : Ctx) (tm : T AV) (dfs : List ADef) (up : Option Chain) (H : AHeap) (Q : Post) :
    GS AP true ctx ref14_Decode_c14_r0 ⟨tm, dfs, up, H⟩ Q =
    (LK dirty (tm.get 3) fun g ti3 => BI g (Op.move [ti3]) fun g t36 => BI g (Op.move [t36]) fun g t2 => GO g Q .normal ⟨(setsE [(2, t2), (36, t36)] tm), dfs, up, H⟩) := WPS_shallow (l := ref14_Decode_c14_r0) (by kernel_rfl)
theorem ref14_Decode_c3_w (ctx : Ctx) (tm : T AV) (dfs : List ADef) (up : Option Chain) (H : AHeap) (Q : Post) :
    WP AP ctx ref14_Decode_c3 ⟨tm, dfs, up, H⟩ Q =
    (WP AP ctx ref14_Decode_c4 ⟨tm, dfs, up, H⟩ (SEQ (WP AP ctx ref14_Decode_c14) Q)) := WP_seq AP ctx _ _ ref14_Decode_c4 ref14_Decode_c14
theorem ref14_Decode_c2_w (ctx : Ctx) (tm : T AV) (dfs : List ADef) (up : Option Chain) (H : AHeap) (Q : Post) :
    WP AP ctx ref14_Decode_c2 ⟨tm, dfs, up, H⟩ Q =
    (GS AP dirty ctx ref14_Decode_c2_r0 ⟨tm, dfs, up, H⟩ (SEQ (WP AP ctx ref14_Decode_c3) Q)) := Gxrseq AP ctx _ _ ref14_Decode_c2_r0 ref14_Decode_c3
theorem ref14_Decode_c2_r0_w (ctx : Ctx) (tm : T AV) (dfs : List ADef) (up : Option Chain) (H : AHeap) (Q : Post) :
    GS AP true ctx ref14_Decode_c2_r0 ⟨tm, dfs, up, H⟩ Q =
    (BI dirty (Op.move [.nils]) fun g t3 => GO g Q .normal ⟨(setsE [(3, t3)] tm), dfs, up, H⟩) := WPS_shallow (l := ref14_Decode_c2_r0) (by kernel_rfl)
theorem ref14_Decode_c1_w (ctx : Ctx) (tm : T AV) (dfs : List ADef) (up : Option Chain) (H : AHeap) (Q : Post) :
    WP AP ctx ref14_Decode_c1 ⟨tm, dfs, up, H⟩ Q =
    (GS AP dirty ctx ref14_Decode_c1_r0 ⟨tm, dfs, up, H⟩ (SEQ (WP AP ctx ref14_Decode_c2) Q)) := Gxrseq AP ctx _ _ ref14_Decode_c1_r0 ref14_Decode_c2
theorem ref14_Decode_c1_r0_w (ctx : Ctx) (tm : T AV) (dfs : List ADef) (up : Option Chain) (H : AHeap) (Q : Post) :
    GS AP true ctx ref14_Decode_c1_r0 ⟨tm, dfs, up, H⟩ Q =
    (BI dirty (Op.move [.nils]) fun g t2 => GO g Q .normal ⟨(setsE [(2, t2)] tm), dfs, up, H⟩) := WPS_shallow (l := ref14_Decode_c1_r0) (by kernel_rfl)
/-! ### slices.Collect[shunt/api.Act] -/
def slices_Collect_api_Act_c2_r0 : List AStep := [⟨false, (some 3), none, [.tmp 0], .pure Op.move, (some [])⟩,
  ⟨false, (some 4), none, [.const .nils, .tmp 3], .callF N_slices_AppendSeq_api_Act, (some [])⟩,
  ⟨false, (some 2), none, [.tmp 4], .pure Op.move, (some [])⟩]
def slices_Collect_api_Act_c2 : ACode := .seq (.region slices_Collect_api_Act_c2_r0) .ret
def slices_Collect_api_Act_c1_r0 : List AStep := [⟨false, (some 2), none, [.const .nils], .pure Op.move, (some [])⟩]
def slices_Collect_api_Act_c1 : ACode := .seq (.region slices_Collect_api_Act_c1_r0) slices_Collect_api_Act_c2
def slices_Collect_api_Act_F : AFunc := ⟨[.tmp 2], slices_Collect_api_Act_c1, []⟩
theorem slices_Collect_api_Act_c2_w (ctx : Ctx) (tm : T AV) (dfs : List ADef) (up : Option Chain) (H : AHeap) (Q : Post) :
    WP AP ctx slices_Collect_api_Act_c2 ⟨tm, dfs, up, H⟩ Q =
    (GS AP dirty ctx slices_Collect_api_Act_c2_r0 ⟨tm, dfs, up, H⟩ (SEQ (WP AP ctx .ret) Q)) := Gxrseq AP ctx _ _ slices_Collect_api_Act_c2_r0 .ret
theorem slices_Collect_api_Act_c2_r0_w (ctx : Ctx) (tm : T AV) (dfs : List ADef) (up : Option Chain) (H : AHeap) (Q : Post) :
    GS AP true ctx slices_Collect_api_Act_c2_r0 ⟨tm, dfs, up, H⟩ Q =
    (LK dirty (tm.get 0) fun g ti0 => BI g (Op.move [ti0]) fun g t3 => CA AP g (.func N_slices_AppendSeq_api_Act) [.nils, t3] H (fun g t4 H1 => 
    BI g (Op.move [t4]) fun g t2 => 
    GO g Q .normal ⟨(setsE [(2, t2), (4, t4), (3, t3)] tm), dfs, up, H1⟩) (PAN (some []) (setsE [(3, t3)] tm) dfs up Q)) := WPS_shallow (l := slices_Collect_api_Act_c2_r0) (by kernel_rfl)
theorem slices_Collect_api_Act_c1_w (ctx : Ctx) (tm : T AV) (dfs : List ADef) (up : Option Chain) (H : AHeap) (Q : Post) :
    WP AP ctx slices_Collect_api_Act_c1 ⟨tm, dfs, up, H⟩ Q =
    (GS AP dirty ctx slices_Collect_api_Act_c1_r0 ⟨tm, dfs, up, H⟩ (SEQ (WP AP ctx slices_Collect_api_Act_c2) Q)) := Gxrseq AP ctx _ _ slices_Collect_api_Act_c1_r0 slices_Collect_api_Act_c2
theorem slices_Collect_api_Act_c1_r0_w (ctx : Ctx) (tm : T AV) (dfs : List ADef) (up : Option Chain) (H : AHeap) (Q : Post) :
    GS AP true ctx slices_Collect_api_Act_c1_r0 ⟨tm, dfs, up, H⟩ Q =
    (BI dirty (Op.move [.nils]) fun g t2 => GO g Q .normal ⟨(setsE [(2, t2)] tm), dfs, up, H⟩) := WPS_shallow (l := slices_Collect_api_Act_c1_r0) (by kernel_rfl)
/-! ### shunt/world.acts -/
def world_acts_c2_r0 : List AStep := [⟨false, (some 3), none, [.tmp 1], .pure (Op.mkFunc N_world_acts_1 0), (some [])⟩,
  ⟨false, (some 2), none, [.tmp 3], .pure Op.move, (some [])⟩]
def world_acts_c2 : ACode := .seq (.region world_acts_c2_r0) .ret
def world_acts_c1_r0 : List AStep := [⟨false, (some 1), none, [.tmp 0], .alloc (Op.box T__6), (some [])⟩,
  ⟨false, (some 2), none, [.const .nilf], .pure Op.move, (some [])⟩]
def world_acts_c1 : ACode := .seq (.region world_acts_c1_r0) world_acts_c2
def world_acts_F : AFunc := ⟨[.tmp 2], world_acts_c1, []⟩
theorem world_acts_c2_w (ctx : Ctx) (tm : T AV) (dfs : List ADef) (up : Option Chain) (H : AHeap) (Q : Post) :
    WP AP ctx world_acts_c2 ⟨tm, dfs, up, H⟩ Q =
    (GS AP dirty ctx world_acts_c2_r0 ⟨tm, dfs, up, H⟩ (SEQ (WP AP ctx .ret) Q)) := Gxrseq AP ctx _ _ world_acts_c2_r0 .ret
theorem world_acts_c2_r0_w (ctx : Ctx) (tm : T AV) (dfs : List ADef) (up : Option Chain) (H : AHeap) (Q : Post) :
    GS AP true ctx world_acts_c2_r0 ⟨tm, dfs, up, H⟩ Q =
    (LK dirty (tm.get 1) fun g ti1 => BI g ((Op.mkFunc N_world_acts_1 0) [ti1]) fun g t3 => BI g (Op.move [t3]) fun g t2 => GO g Q .normal ⟨(setsE [(2, t2), (3, t3)] tm), dfs, up, H⟩) := WPS_shallow (l := world_acts_c2_r0) (by kernel_rfl)
theorem world_acts_c1_w (ctx : Ctx) (tm : T AV) (dfs : List ADef) (up : Option Chain) (H : AHeap) (Q : Post) :
    WP AP ctx world_acts_c1 ⟨tm, dfs, up, H⟩ Q =
    (GS AP dirty ctx world_acts_c1_r0 ⟨tm, dfs, up, H⟩ (SEQ (WP AP ctx world_acts_c2) Q)) := Gxrseq AP ctx _ _ world_acts_c1_r0 world_acts_c2
theorem world_acts_c1_r0_w (ctx : Ctx) (tm : T AV) (dfs : List ADef) (up : Option Chain) (H : AHeap) (Q : Post) :
    GS AP true ctx world_acts_c1_r0 ⟨tm, dfs, up, H⟩ Q =
    (LK dirty (tm.get 0) fun g ti0 => BI2 g ((Op.box T__6) [ti0]) fun g o1 mk1 => BI g (Op.move [.nilf]) fun g t2 => GO g Q .normal ⟨(setsE [(2, t2), (1, (mk1 H.next))] tm), dfs, up, (H.alloc o1)⟩) := WPS_shallow (l := world_acts_c1_r0) (by kernel_rfl)
/-! ### slices.AppendSeq[[]shunt/api.Act,shunt/api.Act] -/
def slices_AppendSeq_api_Act_c5 : ACode := .rangeFunc (.tmp 6) 0
def slices_AppendSeq_api_Act_c4 : ACode := .block 0 slices_AppendSeq_api_Act_c5
def slices_AppendSeq_api_Act_c3_r0 : List AStep := [⟨false, (some 6), none, [.tmp 1], .pure Op.move, (some [])⟩]
def slices_AppendSeq_api_Act_c3 : ACode := .seq (.region slices_AppendSeq_api_Act_c3_r0) slices_AppendSeq_api_Act_c4
def slices_AppendSeq_api_Act_c6_r0 : List AStep := [⟨false, (some 12), none, [.tmp 2], .read Op.load1, (some [])⟩,
  ⟨false, (some 4), none, [.tmp 12], .pure Op.move, (some [])⟩]
def slices_AppendSeq_api_Act_c6 : ACode := .seq (.region slices_AppendSeq_api_Act_c6_r0) .ret
def slices_AppendSeq_api_Act_c2 : ACode := .seq slices_AppendSeq_api_Act_c3 slices_AppendSeq_api_Act_c6
def slices_AppendSeq_api_Act_c1_r0 : List AStep := [⟨false, (some 2), none, [.tmp 0], .alloc (Op.box T__7), (some [])⟩,
  ⟨false, (some 4), none, [.const .nils], .pure Op.move, (some [])⟩]
def slices_AppendSeq_api_Act_c1 : ACode := .seq (.region slices_AppendSeq_api_Act_c1_r0) slices_AppendSeq_api_Act_c2
def slices_AppendSeq_api_Act_c7_r0 : List AStep := [⟨false, (some 5), none, [], .alloc (Op.alloc T_api_Act [(.int .i64 0), (.int .i64 0), (.int .i64 0)]), (some [])⟩,
  ⟨false, none, none, [.tmp 5, .tmp 7], .eff (Op.store 3), (some [])⟩]
def slices_AppendSeq_api_Act_c7 : ACode := .region slices_AppendSeq_api_Act_c7_r0
def slices_AppendSeq_api_Act_c9_r0 : List AStep := [⟨false, (some 8), none, [.tmp 2], .read Op.load1, (some [])⟩,
  ⟨false, (some 9), none, [.tmp 5], .read (Op.loadN 3), (some [])⟩,
  ⟨false, (some 10), none, [.tmp 9], .alloc (Op.buildSlice T_api_Act 1 [(.int .i64 0), (.int .i64 0), (.int .i64 0)] [(0, 3)]), (some [])⟩,
  ⟨false, (some 11), none, [.tmp 8, .tmp 10], .eff (Op.append T_api_Act 3 24), (some [])⟩,
  ⟨false, none, none, [.tmp 2, .tmp 11], .eff (Op.store 1), (some [])⟩]
def slices_AppendSeq_api_Act_c9 : ACode := .region slices_AppendSeq_api_Act_c9_r0
def slices_AppendSeq_api_Act_c8 : ACode := .block 1 slices_AppendSeq_api_Act_c9
def slices_AppendSeq_api_Act_l0 : ALoop := ⟨[7], slices_AppendSeq_api_Act_c7, slices_AppendSeq_api_Act_c8⟩
def slices_AppendSeq_api_Act_F : AFunc := ⟨[.tmp 4], slices_AppendSeq_api_Act_c1, [slices_AppendSeq_api_Act_l0]⟩
theorem slices_AppendSeq_api_Act_c5_w (ctx : Ctx) (tm : T AV) (dfs : List ADef) (up : Option Chain) (H : AHeap) (Q : Post) :
    WP AP ctx slices_AppendSeq_api_Act_c5 ⟨tm, dfs, up, H⟩ Q =
    (BI dirty (tm.get 6) fun g v => RNG AP ctx 0 ⟨tm, dfs, up, H⟩ Q v) := Gxrange AP ctx _ _ 6 0
theorem slices_AppendSeq_api_Act_c4_w (ctx : Ctx) (tm : T AV) (dfs : List ADef) (up : Option Chain) (H : AHeap) (Q : Post) :
    WP AP ctx slices_AppendSeq_api_Act_c4 ⟨tm, dfs, up, H⟩ Q =
    (WP AP ctx slices_AppendSeq_api_Act_c5 ⟨tm, dfs, up, H⟩ (BLK 0 Q)) := WP_block AP ctx _ _ 0 slices_AppendSeq_api_Act_c5
theorem slices_AppendSeq_api_Act_c3_w (ctx : Ctx) (tm : T AV) (dfs : List ADef) (up : Option Chain) (H : AHeap) (Q : Post) :
    WP AP ctx slices_AppendSeq_api_Act_c3 ⟨tm, dfs, up, H⟩ Q =
    (GS AP dirty ctx slices_AppendSeq_api_Act_c3_r0 ⟨tm, dfs, up, H⟩ (SEQ (WP AP ctx slices_AppendSeq_api_Act_c4) Q)) := Gxrseq AP ctx _ _ slices_AppendSeq_api_Act_c3_r0 slices_AppendSeq_api_Act_c4
theorem slices_AppendSeq_api_Act_c3_r0_w (ctx : Ctx) (tm : T AV) (dfs : List ADef) (up : Option Chain) (H : AHeap) (Q : Post) :
    GS AP true ctx slices_AppendSeq_api_Act_c3_r0 ⟨tm, dfs, up, H⟩ Q =
    (LK dirty (tm.get 1) fun g ti1 => BI g (Op.move [ti1]) fun g t6 => GO g Q .normal ⟨(setsE [(6, t6)] tm), dfs, up, H⟩) := WPS_shallow (l := slices_AppendSeq_api_Act_c3_r0) (by kernel_rfl)
theorem slices_AppendSeq_api_Act_c6_w (ctx : Ctx) (tm : T AV) (dfs : List ADef) (up : Option Chain) (H : AHeap) (Q : Post) :
    WP AP ctx slices_AppendSeq_api_Act_c6 ⟨tm, dfs, up, H⟩ Q =
    (GS AP dirty ctx slices_AppendSeq_api_Act_c6_r0 ⟨tm, dfs, up, H⟩ (SEQ (WP AP ctx .ret) Q)) := Gxrseq AP ctx _ _ slices_AppendSeq_api_Act_c6_r0 .ret
theorem slices_AppendSeq_api_Act_c6_r0_w (ctx : Ctx) (tm : T AV) (dfs : List ADef) (up : Option Chain) (H : AHeap) (Q : Post) :
    GS AP true ctx slices_AppendSeq_api_Act_c6_r0 ⟨tm, dfs, up, H⟩ Q =
    (LK dirty (tm.get 2) fun g ti2 => BI g (Op.load1 [ti2] H) fun g t12 => BI g (Op.move [t12]) fun g t4 => GO g Q .normal ⟨(setsE [(4, t4), (12, t12)] tm), dfs, up, H⟩) := WPS_shallow (l := slices_AppendSeq_api_Act_c6_r0) (by kernel_rfl)
theorem slices_AppendSeq_api_Act_c2_w (ctx : Ctx) (tm : T AV) (dfs : List ADef) (up : Option Chain) (H : AHeap) (Q : Post) :
    WP AP ctx slices_AppendSeq_api_Act_c2 ⟨tm, dfs, up, H⟩ Q =
    (WP AP ctx slices_AppendSeq_api_Act_c3 ⟨tm, dfs, up, H⟩ (SEQ (WP AP ctx slices_AppendSeq_api_Act_c6) Q)) := WP_seq AP ctx _ _ slices_AppendSeq_api_Act_c3 slices_AppendSeq_api_Act_c6
theorem slices_AppendSeq_api_Act_c1_w (ctx : Ctx) (tm : T AV) (dfs : List ADef) (up : Option Chain) (H : AHeap) (Q : Post) :
    WP AP ctx slices_AppendSeq_api_Act_c1 ⟨tm, dfs, up, H⟩ Q =
    (GS AP dirty ctx slices_AppendSeq_api_Act_c1_r0 ⟨tm, dfs, up, H⟩ (SEQ (WP AP ctx slices_AppendSeq_api_Act_c2) Q)) := Gxrseq AP ctx _ _ slices_AppendSeq_api_Act_c1_r0 slices_AppendSeq_api_Act_c2
theorem slices_AppendSeq_api_Act_c1_r0_w (ctx : Ctx) (tm : T AV) (dfs : List ADef) (up : Option Chain) (H : AHeap) (Q : Post) :
    GS AP true ctx slices_AppendSeq_api_Act_c1_r0 ⟨tm, dfs, up, H⟩ Q =
    (LK dirty (tm.get 0) fun g ti0 => BI2 g ((Op.box T__7) [ti0]) fun g o1 mk1 => BI g (Op.move [.nils]) fun g t4 => GO g Q .normal ⟨(setsE [(4, t4), (2, (mk1 H.next))] tm), dfs, up, (H.alloc o1)⟩) := WPS_shallow (l := slices_AppendSeq_api_Act_c1_r0) (by kernel_rfl)
theorem slices_AppendSeq_api_Act_c7_w (ctx : Ctx) (tm : T AV) (dfs : List ADef) (up : Option Chain) (H : AHeap) (Q : Post) :
    WP AP ctx slices_AppendSeq_api_Act_c7 ⟨tm, dfs, up, H⟩ Q =
    (GS AP dirty ctx slices_AppendSeq_api_Act_c7_r0 ⟨tm, dfs, up, H⟩ Q) := Gxregion AP ctx _ _ slices_AppendSeq_api_Act_c7_r0
theorem slices_AppendSeq_api_Act_c7_r0_w (ctx : Ctx) (tm : T AV) (dfs : List ADef) (up : Option Chain) (H : AHeap) (Q : Post) :
    GS AP true ctx slices_AppendSeq_api_Act_c7_r0 ⟨tm, dfs, up, H⟩ Q =
    (BI2 dirty ((Op.alloc T_api_Act [(.int .i64 0), (.int .i64 0), (.int .i64 0)]) []) fun g o1 mk1 => LK g (tm.get 7) fun g ti7 => BI2 g ((Op.store 3) [(mk1 H.next), ti7] (H.alloc o1)) fun g t_u H2 => 
    GO g Q .normal ⟨(setsE [(5, (mk1 H.next))] tm), dfs, up, H2⟩) := WPS_shallow (l := slices_AppendSeq_api_Act_c7_r0) (by kernel_rfl)
theorem slices_AppendSeq_api_Act_c9_w (ctx : Ctx) (tm : T AV) (dfs : List ADef) (up : Option Chain) (H : AHeap) (Q : Post) :
    WP AP ctx slices_AppendSeq_api_Act_c9 ⟨tm, dfs, up, H⟩ Q =
    (GS AP dirty ctx slices_AppendSeq_api_Act_c9_r0 ⟨tm, dfs, up, H⟩ Q) := Gxregion AP ctx _ _ slices_AppendSeq_api_Act_c9_r0
theorem slices_AppendSeq_api_Act_c9_r0_w (ctx : Ctx) (tm : T AV) (dfs : List ADef) (up : Option Chain) (H : AHeap) (Q : Post) :
    GS AP true ctx slices_AppendSeq_api_Act_c9_r0 ⟨tm, dfs, up, H⟩ Q =
    (LK dirty (tm.get 2) fun g ti2 => BI g (Op.load1 [ti2] H) fun g t8 => LK g (tm.get 5) fun g ti5 => BI g ((Op.loadN 3) [ti5] H) fun g t9 => BI2 g ((Op.buildSlice T_api_Act 1 [(.int .i64 0), (.int .i64 0), (.int .i64 0)] [(0, 3)]) [t9]) fun g o1 mk1 => BI2 g ((Op.append T_api_Act 3 24) [t8, (mk1 H.next)] (H.alloc o1)) fun g t11 H2 => 
    LK g (tm.get 2) fun g ti2_1 => BI2 g ((Op.store 1) [ti2_1, t11] H2) fun g t_u H3 => 
    GO g Q .normal ⟨(setsE [(11, t11), (10, (mk1 H.next)), (9, t9), (8, t8)] tm), dfs, up, H3⟩) := WPS_shallow (l := slices_AppendSeq_api_Act_c9_r0) (by kernel_rfl)
theorem slices_AppendSeq_api_Act_c8_w (ctx : Ctx) (tm : T AV) (dfs : List ADef) (up : Option Chain) (H : AHeap) (Q : Post) :
    WP AP ctx slices_AppendSeq_api_Act_c8 ⟨tm, dfs, up, H⟩ Q =
    (WP AP ctx slices_AppendSeq_api_Act_c9 ⟨tm, dfs, up, H⟩ (BLK 1 Q)) := WP_block AP ctx _ _ 1 slices_AppendSeq_api_Act_c9
/-! ### shunt/world.actsS1 -/
def world_acts_1_c4 : ACode := .rangeFunc (.tmp 5) 0
def world_acts_1_c3 : ACode := .block 0 world_acts_1_c4
def world_acts_1_c2_r0 : List AStep := [⟨false, (some 4), none, [.tmp 1], .read Op.load1, (some [])⟩,
  ⟨false, (some 5), none, [.tmp 4, .const (.int .i64 3)], .callF N_slices_Chunk_byte, (some [])⟩]
def world_acts_1_c2 : ACode := .seq (.region world_acts_1_c2_r0) world_acts_1_c3
def world_acts_1_c1_r0 : List AStep := [⟨false, (some 2), none, [.tmp 0], .alloc (Op.box T__64), (some [])⟩]
def world_acts_1_c1 : ACode := .seq (.region world_acts_1_c1_r0) world_acts_1_c2
def world_acts_1_c5_r0 : List AStep := [⟨false, (some 3), none, [.tmp 6], .pure Op.move, (some [])⟩]
def world_acts_1_c5 : ACode := .region world_acts_1_c5_r0
def world_acts_1_c8 : ACode := .cond (.tmp 30) .ret .skip
def world_acts_1_c7_r19 : List AStep := [⟨false, (some 30), none, [.tmp 10, .const (.bool true), .tmp 29], .pure Op.pick, (some [7, 8, 9, 10, 11, 12, 13, 14, 15, 16, 17, 18, 19, 20, 21, 22, 23, 24, 25, 26, 27, 28, 29, 30])⟩]
def world_acts_1_c7_r18a : List AStep := [⟨false, (some 29), (some (10, false)), [.tmp 28], .pure (Op.un .not), (some [7, 8, 9, 10, 11, 12, 13, 14, 15, 16, 17, 18, 19, 20, 21, 22, 23, 24, 25, 26, 27, 28, 29, 30])⟩]
def world_acts_1_c7_r18 : List AStep := world_acts_1_c7_r18a ++ world_acts_1_c7_r19
def world_acts_1_c7_r17a : List AStep := [⟨false, (some 28), (some (10, false)), [.tmp 11, .tmp 27], .callV, (some [7, 8, 9, 10, 11, 12, 13, 14, 15, 16, 17, 18, 19, 20, 21, 22, 23, 24, 25, 26, 27, 28, 29, 30])⟩]
def world_acts_1_c7_r17 : List AStep := world_acts_1_c7_r17a ++ world_acts_1_c7_r18
def world_acts_1_c7_r16a : List AStep := [⟨false, (some 27), (some (10, false)), [.tmp 17, .tmp 22, .tmp 26], .pure (Op.build [(.int .i64 0), (.int .i64 0), (.int .i64 0)] [(0, 1), (1, 1), (2, 1)]), (some [7, 8, 9, 10, 11, 12, 13, 14, 15, 16, 17, 18, 19, 20, 21, 22, 23, 24, 25, 26, 27, 28, 29, 30])⟩]
def world_acts_1_c7_r16 : List AStep := world_acts_1_c7_r16a ++ world_acts_1_c7_r17
def world_acts_1_c7_r15a : List AStep := [⟨false, (some 26), (some (10, false)), [.tmp 25], .pure (Op.wrap .i64), (some [7, 8, 9, 10, 11, 12, 13, 14, 15, 16, 17, 18, 19, 20, 21, 22, 23, 24, 25, 26, 27, 28, 29, 30])⟩]
def world_acts_1_c7_r15 : List AStep := world_acts_1_c7_r15a ++ world_acts_1_c7_r16
def world_acts_1_c7_r14a : List AStep := [⟨false, (some 25), (some (10, false)), [.tmp 24], .read Op.load1, (some [7, 8, 9, 10, 11, 12, 13, 14, 15, 16, 17, 18, 19, 20, 21, 22, 23, 24, 25, 26, 27, 28, 29, 30])⟩]
def world_acts_1_c7_r14 : List AStep := world_acts_1_c7_r14a ++ world_acts_1_c7_r15
def world_acts_1_c7_r13a : List AStep := [⟨false, (some 24), (some (10, false)), [.tmp 23, .const (.int .i64 2)], .pure (Op.indexSl 1), (some [7, 8, 9, 10, 11, 12, 13, 14, 15, 16, 17, 18, 19, 20, 21, 22, 23, 24, 25, 26, 27, 28, 29, 30])⟩]
def world_acts_1_c7_r13 : List AStep := world_acts_1_c7_r13a ++ world_acts_1_c7_r14
def world_acts_1_c7_r12a : List AStep := [⟨false, (some 23), (some (10, false)), [.tmp 3], .pure Op.move, (some [7, 8, 9, 10, 11, 12, 13, 14, 15, 16, 17, 18, 19, 20, 21, 22, 23, 24, 25, 26, 27, 28, 29, 30])⟩]
def world_acts_1_c7_r12 : List AStep := world_acts_1_c7_r12a ++ world_acts_1_c7_r13
def world_acts_1_c7_r11a : List AStep := [⟨false, (some 22), (some (10, false)), [.tmp 21, .const (.int .i64 4)], .pure (Op.bin .rem), none⟩]
def world_acts_1_c7_r11 : List AStep := world_acts_1_c7_r11a ++ world_acts_1_c7_r12
def world_acts_1_c7_r10a : List AStep := [⟨false, (some 21), (some (10, false)), [.tmp 20], .pure (Op.wrap .i64), none⟩]
def world_acts_1_c7_r10 : List AStep := world_acts_1_c7_r10a ++ world_acts_1_c7_r11
def world_acts_1_c7_r9a : List AStep := [⟨false, (some 20), (some (10, false)), [.tmp 19], .read Op.load1, none⟩]
def world_acts_1_c7_r9 : List AStep := world_acts_1_c7_r9a ++ world_acts_1_c7_r10
def world_acts_1_c7_r8a : List AStep := [⟨false, (some 19), (some (10, false)), [.tmp 18, .const (.int .i64 1)], .pure (Op.indexSl 1), none⟩]
def world_acts_1_c7_r8 : List AStep := world_acts_1_c7_r8a ++ world_acts_1_c7_r9
def world_acts_1_c7_r7a : List AStep := [⟨false, (some 18), (some (10, false)), [.tmp 3], .pure Op.move, none⟩]
def world_acts_1_c7_r7 : List AStep := world_acts_1_c7_r7a ++ world_acts_1_c7_r8
def world_acts_1_c7_r6a : List AStep := [⟨false, (some 17), (some (10, false)), [.tmp 16, .const (.int .i64 1)], .pure (Op.bin .add), none⟩]
def world_acts_1_c7_r6 : List AStep := world_acts_1_c7_r6a ++ world_acts_1_c7_r7
def world_acts_1_c7_r5a : List AStep := [⟨false, (some 16), (some (10, false)), [.tmp 15, .const (.int .i64 4)], .pure (Op.bin .rem), none⟩]
def world_acts_1_c7_r5 : List AStep := world_acts_1_c7_r5a ++ world_acts_1_c7_r6
def world_acts_1_c7_r4a : List AStep := [⟨false, (some 15), (some (10, false)), [.tmp 14], .pure (Op.wrap .i64), none⟩]
def world_acts_1_c7_r4 : List AStep := world_acts_1_c7_r4a ++ world_acts_1_c7_r5
def world_acts_1_c7_r3a : List AStep := [⟨false, (some 14), (some (10, false)), [.tmp 13], .read Op.load1, none⟩]
def world_acts_1_c7_r3 : List AStep := world_acts_1_c7_r3a ++ world_acts_1_c7_r4
def world_acts_1_c7_r2a : List AStep := [⟨false, (some 13), (some (10, false)), [.tmp 12, .const (.int .i64 0)], .pure (Op.indexSl 1), none⟩]
def world_acts_1_c7_r2 : List AStep := world_acts_1_c7_r2a ++ world_acts_1_c7_r3
def world_acts_1_c7_r1a : List AStep := [⟨false, (some 12), (some (10, false)), [.tmp 3], .pure Op.move, none⟩]
def world_acts_1_c7_r1 : List AStep := world_acts_1_c7_r1a ++ world_acts_1_c7_r2
def world_acts_1_c7_r0a : List AStep := [⟨false, (some 7), none, [.tmp 3], .pure Op.move, (some [7, 8, 9, 10, 11, 12, 13, 14, 15, 16, 17, 18, 19, 20, 21, 22, 23, 24, 25, 26, 27, 28, 29, 30])⟩,
  ⟨false, (some 8), none, [.tmp 7], .pure Op.lenSl, (some [7, 8, 9, 10, 11, 12, 13, 14, 15, 16, 17, 18, 19, 20, 21, 22, 23, 24, 25, 26, 27, 28, 29, 30])⟩,
  ⟨false, (some 9), none, [.tmp 8, .const (.int .i64 3)], .pure (Op.bin .lss), (some [7, 8, 9, 10, 11, 12, 13, 14, 15, 16, 17, 18, 19, 20, 21, 22, 23, 24, 25, 26, 27, 28, 29, 30])⟩,
  ⟨false, (some 10), none, [.tmp 9], .pure Op.move, (some [7, 8, 9, 10, 11, 12, 13, 14, 15, 16, 17, 18, 19, 20, 21, 22, 23, 24, 25, 26, 27, 28, 29, 30])⟩,
  ⟨false, (some 11), (some (10, false)), [.tmp 2], .read Op.load1, none⟩]
def world_acts_1_c7_r0 : List AStep := world_acts_1_c7_r0a ++ world_acts_1_c7_r1
def world_acts_1_c7 : ACode := .seq (.region world_acts_1_c7_r0) world_acts_1_c8
def world_acts_1_c6 : ACode := .block 1 world_acts_1_c7
def world_acts_1_l0 : ALoop := ⟨[6], world_acts_1_c5, world_acts_1_c6⟩
def world_acts_1_F : AFunc := ⟨[], world_acts_1_c1, [world_acts_1_l0]⟩
theorem world_acts_1_c4_w (ctx : Ctx) (tm : T AV) (dfs : List ADef) (up : Option Chain) (H : AHeap) (Q : Post) :
    WP AP ctx world_acts_1_c4 ⟨tm, dfs, up, H⟩ Q =
    (BI dirty (tm.get 5) fun g v => RNG AP ctx 0 ⟨tm, dfs, up, H⟩ Q v) := Gxrange AP ctx _ _ 5 0
theorem world_acts_1_c3_w (ctx : Ctx) (tm : T AV) (dfs : List ADef) (up : Option Chain) (H : AHeap) (Q : Post) :
    WP AP ctx world_acts_1_c3 ⟨tm, dfs, up, H⟩ Q =
    (WP AP ctx world_acts_1_c4 ⟨tm, dfs, up, H⟩ (BLK 0 Q)) := WP_block AP ctx _ _ 0 world_acts_1_c4
theorem world_acts_1_c2_w (ctx : Ctx) (tm : T AV) (dfs : List ADef) (up : Option Chain) (H : AHeap) (Q : Post) :
    WP AP ctx world_acts_1_c2 ⟨tm, dfs, up, H⟩ Q =
    (GS AP dirty ctx world_acts_1_c2_r0 ⟨tm, dfs, up, H⟩ (SEQ (WP AP ctx world_acts_1_c3) Q)) := Gxrseq AP ctx _ _ world_acts_1_c2_r0 world_acts_1_c3
theorem world_acts_1_c2_r0_w (ctx : Ctx) (tm : T AV) (dfs : List ADef) (up : Option Chain) (H : AHeap) (Q : Post) :
    GS AP true ctx world_acts_1_c2_r0 ⟨tm, dfs, up, H⟩ Q =
    (LK dirty (tm.get 1) fun g ti1 => BI g (Op.load1 [ti1] H) fun g t4 => CA AP g (.func N_slices_Chunk_byte) [t4, (.int .i64 3)] H (fun g t5 H1 => 
    GO g Q .normal ⟨(setsE [(5, t5), (4, t4)] tm), dfs, up, H1⟩) (PAN (some []) (setsE [(4, t4)] tm) dfs up Q)) := WPS_shallow (l := world_acts_1_c2_r0) (by kernel_rfl)
theorem world_acts_1_c1_w (ctx : Ctx) (tm : T AV) (dfs : List ADef) (up : Option Chain) (H : AHeap) (Q : Post) :
    WP AP ctx world_acts_1_c1 ⟨tm, dfs, up, H⟩ Q =
    (GS AP dirty ctx world_acts_1_c1_r0 ⟨tm, dfs, up, H⟩ (SEQ (WP AP ctx world_acts_1_c2) Q)) := Gxrseq AP ctx _ _ world_acts_1_c1_r0 world_acts_1_c2
theorem world_acts_1_c1_r0_w (ctx : Ctx) (tm : T AV) (dfs : List ADef) (up : Option Chain) (H : AHeap) (Q : Post) :
    GS AP true ctx world_acts_1_c1_r0 ⟨tm, dfs, up, H⟩ Q =
    (LK dirty (tm.get 0) fun g ti0 => BI2 g ((Op.box T__64) [ti0]) fun g o1 mk1 => GO g Q .normal ⟨(setsE [(2, (mk1 H.next))] tm), dfs, up, (H.alloc o1)⟩) := WPS_shallow (l := world_acts_1_c1_r0) (by kernel_rfl)
theorem world_acts_1_c5_w (ctx : Ctx) (tm : T AV) (dfs : List ADef) (up : Option Chain) (H : AHeap) (Q : Post) :
    WP AP ctx world_acts_1_c5 ⟨tm, dfs, up, H⟩ Q =
    (GS AP dirty ctx world_acts_1_c5_r0 ⟨tm, dfs, up, H⟩ Q) := Gxregion AP ctx _ _ world_acts_1_c5_r0
theorem world_acts_1_c5_r0_w (ctx : Ctx) (tm : T AV) (dfs : List ADef) (up : Option Chain) (H : AHeap) (Q : Post) :
    GS AP true ctx world_acts_1_c5_r0 ⟨tm, dfs, up, H⟩ Q =
    (LK dirty (tm.get 6) fun g ti6 => BI g (Op.move [ti6]) fun g t3 => GO g Q .normal ⟨(setsE [(3, t3)] tm), dfs, up, H⟩) := WPS_shallow (l := world_acts_1_c5_r0) (by kernel_rfl)
theorem world_acts_1_c8_w (ctx : Ctx) (tm : T AV) (dfs : List ADef) (up : Option Chain) (H : AHeap) (Q : Post) :
    WP AP ctx world_acts_1_c8 ⟨tm, dfs, up, H⟩ Q =
    (BI dirty (tm.get 30) fun g v => BI g (asBool v) fun g q => IG g q (fun g => GW AP g ctx .ret ⟨tm, dfs, up, H⟩ Q) (fun g => GW AP g ctx .skip ⟨tm, dfs, up, H⟩ Q)) := Gxcond AP ctx _ _ 30 .ret .skip
theorem world_acts_1_c7_w (ctx : Ctx) (tm : T AV) (dfs : List ADef) (up : Option Chain) (H : AHeap) (Q : Post) :
    WP AP ctx world_acts_1_c7 ⟨tm, dfs, up, H⟩ Q =
    (GS AP dirty ctx world_acts_1_c7_r0 ⟨tm, dfs, up, H⟩ (SEQ (WP AP ctx world_acts_1_c8) Q)) := Gxrseq AP ctx _ _ world_acts_1_c7_r0 world_acts_1_c8
theorem world_acts_1_c7_r0_w (ctx : Ctx) (tm : T AV) (dfs : List ADef) (up : Option Chain) (H : AHeap) (Q : Post) :
    GS AP true ctx world_acts_1_c7_r0 ⟨tm, dfs, up, H⟩ Q =
    (LK dirty (tm.get 3) fun g ti3 => BI g (Op.move [ti3]) fun g t7 => BI g (Op.lenSl [t7]) fun g t8 => BI g ((Op.bin .lss) [t8, (.int .i64 3)]) fun g t9 => 
    BI g (Op.move [t9]) fun g t10 => BI g (wantV false (some t10)) fun g w => IG g w (fun g => LK g (tm.get 2) fun g ti2 => BI g (Op.load1 [ti2] H) fun g t11 => GS AP g ctx world_acts_1_c7_r1 ⟨(setsE [(11, t11), (10, t10), (9, t9), (8, t8), (7, t7)] tm), dfs, up, H⟩ Q) (fun g => GS AP g ctx world_acts_1_c7_r1 ⟨(setsE [(11, .undef), (10, t10), (9, t9), (8, t8), (7, t7)] tm), dfs, up, H⟩ Q)) := WPS_part (l := world_acts_1_c7_r0a) (tail := world_acts_1_c7_r1) (by kernel_rfl)
theorem world_acts_1_c7_r1_w (ctx : Ctx) (tm : T AV) (dfs : List ADef) (up : Option Chain) (H : AHeap) (Q : Post) :
    GS AP true ctx world_acts_1_c7_r1 ⟨tm, dfs, up, H⟩ Q =
    (BI dirty (wantV false (tm.get 10)) fun g w => IG g w (fun g => LK g (tm.get 3) fun g ti3 => BI g (Op.move [ti3]) fun g t12 => GS AP g ctx world_acts_1_c7_r2 ⟨(setsE [(12, t12)] tm), dfs, up, H⟩ Q) (fun g => GS AP g ctx world_acts_1_c7_r2 ⟨(setsE [(12, .undef)] tm), dfs, up, H⟩ Q)) := WPS_part (l := world_acts_1_c7_r1a) (tail := world_acts_1_c7_r2) (by kernel_rfl)
theorem world_acts_1_c7_r2_w (ctx : Ctx) (tm : T AV) (dfs : List ADef) (up : Option Chain) (H : AHeap) (Q : Post) :
    GS AP true ctx world_acts_1_c7_r2 ⟨tm, dfs, up, H⟩ Q =
    (BI dirty (wantV false (tm.get 10)) fun g w => IG g w (fun g => LK g (tm.get 12) fun g ti12 => BI g ((Op.indexSl 1) [ti12, (.int .i64 0)]) fun g t13 => GS AP g ctx world_acts_1_c7_r3 ⟨(setsE [(13, t13)] tm), dfs, up, H⟩ Q) (fun g => GS AP g ctx world_acts_1_c7_r3 ⟨(setsE [(13, .undef)] tm), dfs, up, H⟩ Q)) := WPS_part (l := world_acts_1_c7_r2a) (tail := world_acts_1_c7_r3) (by kernel_rfl)
theorem world_acts_1_c7_r3_w (ctx : Ctx) (tm : T AV) (dfs : List ADef) (up : Option Chain) (H : AHeap) (Q : Post) :
    GS AP true ctx world_acts_1_c7_r3 ⟨tm, dfs, up, H⟩ Q =
    (BI dirty (wantV false (tm.get 10)) fun g w => IG g w (fun g => LK g (tm.get 13) fun g ti13 => BI g (Op.load1 [ti13] H) fun g t14 => GS AP g ctx world_acts_1_c7_r4 ⟨(setsE [(14, t14)] tm), dfs, up, H⟩ Q) (fun g => GS AP g ctx world_acts_1_c7_r4 ⟨(setsE [(14, .undef)] tm), dfs, up, H⟩ Q)) := WPS_part (l := world_acts_1_c7_r3a) (tail := world_acts_1_c7_r4) (by kernel_rfl)
theorem world_acts_1_c7_r4_w (ctx : Ctx) (tm : T AV) (dfs : List ADef) (up : Option Chain) (H : AHeap) (Q : Post) :
    GS AP true ctx world_acts_1_c7_r4 ⟨tm, dfs, up, H⟩ Q =
    (BI dirty (wantV false (tm.get 10)) fun g w => IG g w (fun g => LK g (tm.get 14) fun g ti14 => BI g ((Op.wrap .i64) [ti14]) fun g t15 => GS AP g ctx world_acts_1_c7_r5 ⟨(setsE [(15, t15)] tm), dfs, up, H⟩ Q) (fun g => GS AP g ctx world_acts_1_c7_r5 ⟨(setsE [(15, .undef)] tm), dfs, up, H⟩ Q)) := WPS_part (l := world_acts_1_c7_r4a) (tail := world_acts_1_c7_r5) (by kernel_rfl)
theorem world_acts_1_c7_r5_w (ctx : Ctx) (tm : T AV) (dfs : List ADef) (up : Option Chain) (H : AHeap) (Q : Post) :
    GS AP true ctx world_acts_1_c7_r5 ⟨tm, dfs, up, H⟩ Q =
    (BI dirty (wantV false (tm.get 10)) fun g w => IG g w (fun g => LK g (tm.get 15) fun g ti15 => BI g ((Op.bin .rem) [ti15, (.int .i64 4)]) fun g t16 => GS AP g ctx world_acts_1_c7_r6 ⟨(setsE [(16, t16)] tm), dfs, up, H⟩ Q) (fun g => GS AP g ctx world_acts_1_c7_r6 ⟨(setsE [(16, .undef)] tm), dfs, up, H⟩ Q)) := WPS_part (l := world_acts_1_c7_r5a) (tail := world_acts_1_c7_r6) (by kernel_rfl)
theorem world_acts_1_c7_r6_w (ctx : Ctx) (tm : T AV) (dfs : List ADef) (up : Option Chain) (H : AHeap) (Q : Post) :
    GS AP true ctx world_acts_1_c7_r6 ⟨tm, dfs, up, H⟩ Q =
    (BI dirty (wantV false (tm.get 10)) fun g w => IG g w (fun g => LK g (tm.get 16) fun g ti16 => BI g ((Op.bin .add) [ti16, (.int .i64 1)]) fun g t17 => GS AP g ctx world_acts_1_c7_r7 ⟨(setsE [(17, t17)] tm), dfs, up, H⟩ Q) (fun g => GS AP g ctx world_acts_1_c7_r7 ⟨(setsE [(17, .undef)] tm), dfs, up, H⟩ Q)) := WPS_part (l := world_acts_1_c7_r6a) (tail := world_acts_1_c7_r7) (by kernel_rfl)
theorem world_acts_1_c7_r7_w (ctx : Ctx) (tm : T AV) (dfs : List ADef) (up : Option Chain) (H : AHeap) (Q : Post) :
    GS AP true ctx world_acts_1_c7_r7 ⟨tm, dfs, up, H⟩ Q =
    (BI dirty (wantV false (tm.get 10)) fun g w => IG g w (fun g => LK g (tm.get 3) fun g ti3 => BI g (Op.move [ti3]) fun g t18 => GS AP g ctx world_acts_1_c7_r8 ⟨(setsE [(18, t18)] tm), dfs, up, H⟩ Q) (fun g => GS AP g ctx world_acts_1_c7_r8 ⟨(setsE [(18, .undef)] tm), dfs, up, H⟩ Q)) := WPS_part (l := world_acts_1_c7_r7a) (tail := world_acts_1_c7_r8) (by kernel_rfl)
theorem world_acts_1_c7_r8_w (ctx : Ctx) (tm : T AV) (dfs : List ADef) (up : Option Chain) (H : AHeap) (Q : Post) :
    GS AP true ctx world_acts_1_c7_r8 ⟨tm, dfs, up, H⟩ Q =
    (BI dirty (wantV false (tm.get 10)) fun g w => IG g w (fun g => LK g (tm.get 18) fun g ti18 => BI g ((Op.indexSl 1) [ti18, (.int .i64 1)]) fun g t19 => GS AP g ctx world_acts_1_c7_r9 ⟨(setsE [(19, t19)] tm), dfs, up, H⟩ Q) (fun g => GS AP g ctx world_acts_1_c7_r9 ⟨(setsE [(19, .undef)] tm), dfs, up, H⟩ Q)) := WPS_part (l := world_acts_1_c7_r8a) (tail := world_acts_1_c7_r9) (by kernel_rfl)
theorem world_acts_1_c7_r9_w (ctx : Ctx) (tm : T AV) (dfs : List ADef) (up : Option Chain) (H : AHeap) (Q : Post) :
    GS AP true ctx world_acts_1_c7_r9 ⟨tm, dfs, up, H⟩ Q =
    (BI dirty (wantV false (tm.get 10)) fun g w => IG g w (fun g => LK g (tm.get 19) fun g ti19 => BI g (Op.load1 [ti19] H) fun g t20 => GS AP g ctx world_acts_1_c7_r10 ⟨(setsE [(20, t20)] tm), dfs, up, H⟩ Q) (fun g => GS AP g ctx world_acts_1_c7_r10 ⟨(setsE [(20, .undef)] tm), dfs, up, H⟩ Q)) := WPS_part (l := world_acts_1_c7_r9a) (tail := world_acts_1_c7_r10) (by kernel_rfl)
theorem world_acts_1_c7_r10_w (ctx : Ctx) (tm : T AV) (dfs : List ADef) (up : Option Chain) (H : AHeap) (Q : Post) :
    GS AP true ctx world_acts_1_c7_r10 ⟨tm, dfs, up, H⟩ Q =
    (BI dirty (wantV false (tm.get 10)) fun g w => IG g w (fun g => LK g (tm.get 20) fun g ti20 => BI g ((Op.wrap .i64) [ti20]) fun g t21 => GS AP g ctx world_acts_1_c7_r11 ⟨(setsE [(21, t21)] tm), dfs, up, H⟩ Q) (fun g => GS AP g ctx world_acts_1_c7_r11 ⟨(setsE [(21, .undef)] tm), dfs, up, H⟩ Q)) := WPS_part (l := world_acts_1_c7_r10a) (tail := world_acts_1_c7_r11) (by kernel_rfl)
theorem world_acts_1_c7_r11_w (ctx : Ctx) (tm : T AV) (dfs : List ADef) (up : Option Chain) (H : AHeap) (Q : Post) :
    GS AP true ctx world_acts_1_c7_r11 ⟨tm, dfs, up, H⟩ Q =
    (BI dirty (wantV false (tm.get 10)) fun g w => IG g w (fun g => LK g (tm.get 21) fun g ti21 => BI g ((Op.bin .rem) [ti21, (.int .i64 4)]) fun g t22 => GS AP g ctx world_acts_1_c7_r12 ⟨(setsE [(22, t22)] tm), dfs, up, H⟩ Q) (fun g => GS AP g ctx world_acts_1_c7_r12 ⟨(setsE [(22, .undef)] tm), dfs, up, H⟩ Q)) := WPS_part (l := world_acts_1_c7_r11a) (tail := world_acts_1_c7_r12) (by kernel_rfl)
theorem world_acts_1_c7_r12_w (ctx : Ctx) (tm : T AV) (dfs : List ADef) (up : Option Chain) (H : AHeap) (Q : Post) :
    GS AP true ctx world_acts_1_c7_r12 ⟨tm, dfs, up, H⟩ Q =
    (BI dirty (wantV false (tm.get 10)) fun g w => IG g w (fun g => LK g (tm.get 3) fun g ti3 => BI g (Op.move [ti3]) fun g t23 => GS AP g ctx world_acts_1_c7_r13 ⟨(setsE [(23, t23)] tm), dfs, up, H⟩ Q) (fun g => GS AP g ctx world_acts_1_c7_r13 ⟨(setsE [(23, .undef)] tm), dfs, up, H⟩ Q)) := WPS_part (l := world_acts_1_c7_r12a) (tail := world_acts_1_c7_r13) (by kernel_rfl)
theorem world_acts_1_c7_r13_w (ctx : Ctx) (tm : T AV) (dfs : List ADef) (up : Option Chain) (H : AHeap) (Q : Post) :
    GS AP true ctx world_acts_1_c7_r13 ⟨tm, dfs, up, H⟩ Q =
    (BI dirty (wantV false (tm.get 10)) fun g w => IG g w (fun g => LK g (tm.get 23) fun g ti23 => BI g ((Op.indexSl 1) [ti23, (.int .i64 2)]) fun g t24 => GS AP g ctx world_acts_1_c7_r14 ⟨(setsE [(24, t24)] tm), dfs, up, H⟩ Q) (fun g => GS AP g ctx world_acts_1_c7_r14 ⟨(setsE [(24, .undef)] tm), dfs, up, H⟩ Q)) := WPS_part (l := world_acts_1_c7_r13a) (tail := world_acts_1_c7_r14) (by kernel_rfl)
theorem world_acts_1_c7_r14_w (ctx : Ctx) (tm : T AV) (dfs : List ADef) (up : Option Chain) (H : AHeap) (Q : Post) :
    GS AP true ctx world_acts_1_c7_r14 ⟨tm, dfs, up, H⟩ Q =
    (BI dirty (wantV false (tm.get 10)) fun g w => IG g w (fun g => LK g (tm.get 24) fun g ti24 => BI g (Op.load1 [ti24] H) fun g t25 => GS AP g ctx world_acts_1_c7_r15 ⟨(setsE [(25, t25)] tm), dfs, up, H⟩ Q) (fun g => GS AP g ctx world_acts_1_c7_r15 ⟨(setsE [(25, .undef)] tm), dfs, up, H⟩ Q)) := WPS_part (l := world_acts_1_c7_r14a) (tail := world_acts_1_c7_r15) (by kernel_rfl)
theorem world_acts_1_c7_r15_w (ctx : Ctx) (tm : T AV) (dfs : List ADef) (up : Option Chain) (H : AHeap) (Q : Post) :
    GS AP true ctx world_acts_1_c7_r15 ⟨tm, dfs, up, H⟩ Q =
    (BI dirty (wantV false (tm.get 10)) fun g w => IG g w (fun g => LK g (tm.get 25) fun g ti25 => BI g ((Op.wrap .i64) [ti25]) fun g t26 => GS AP g ctx world_acts_1_c7_r16 ⟨(setsE [(26, t26)] tm), dfs, up, H⟩ Q) (fun g => GS AP g ctx world_acts_1_c7_r16 ⟨(setsE [(26, .undef)] tm), dfs, up, H⟩ Q)) := WPS_part (l := world_acts_1_c7_r15a) (tail := world_acts_1_c7_r16) (by kernel_rfl)
theorem world_acts_1_c7_r16_w (ctx : Ctx) (tm : T AV) (dfs : List ADef) (up : Option Chain) (H : AHeap) (Q : Post) :
    GS AP true ctx world_acts_1_c7_r16 ⟨tm, dfs, up, H⟩ Q =
    (BI dirty (wantV false (tm.get 10)) fun g w => IG g w (fun g => LK g (tm.get 17) fun g ti17 => LK g (tm.get 22) fun g ti22 => LK g (tm.get 26) fun g ti26 => BI g ((Op.build [(.int .i64 0), (.int .i64 0), (.int .i64 0)] [(0, 1), (1, 1), (2, 1)]) [ti17, ti22, ti26]) fun g t27 => GS AP g ctx world_acts_1_c7_r17 ⟨(setsE [(27, t27)] tm), dfs, up, H⟩ Q) (fun g => GS AP g ctx world_acts_1_c7_r17 ⟨(setsE [(27, .undef)] tm), dfs, up, H⟩ Q)) := WPS_part (l := world_acts_1_c7_r16a) (tail := world_acts_1_c7_r17) (by kernel_rfl)
theorem world_acts_1_c7_r17_w (ctx : Ctx) (tm : T AV) (dfs : List ADef) (up : Option Chain) (H : AHeap) (Q : Post) :
    GS AP true ctx world_acts_1_c7_r17 ⟨tm, dfs, up, H⟩ Q =
    (BI dirty (wantV false (tm.get 10)) fun g w => IG g w (fun g => LK g (tm.get 11) fun g ti11 => LK g (tm.get 27) fun g ti27 => VI g [ti11, ti27] fun g f vs => CA AP g f vs H (fun g t28 H1 => 
    GS AP g ctx world_acts_1_c7_r18 ⟨(setsE [(28, t28)] tm), dfs, up, H1⟩ Q) (PAN (some [7, 8, 9, 10, 11, 12, 13, 14, 15, 16, 17, 18, 19, 20, 21, 22, 23, 24, 25, 26, 27, 28, 29, 30]) (setsE [] tm) dfs up Q)) (fun g => GS AP g ctx world_acts_1_c7_r18 ⟨(setsE [(28, .undef)] tm), dfs, up, H⟩ Q)) := WPS_part (l := world_acts_1_c7_r17a) (tail := world_acts_1_c7_r18) (by kernel_rfl)
theorem world_acts_1_c7_r18_w (ctx : Ctx) (tm : T AV) (dfs : List ADef) (up : Option Chain) (H : AHeap) (Q : Post) :
    GS AP true ctx world_acts_1_c7_r18 ⟨tm, dfs, up, H⟩ Q =
    (BI dirty (wantV false (tm.get 10)) fun g w => IG g w (fun g => LK g (tm.get 28) fun g ti28 => BI g ((Op.un .not) [ti28]) fun g t29 => GS AP g ctx world_acts_1_c7_r19 ⟨(setsE [(29, t29)] tm), dfs, up, H⟩ Q) (fun g => GS AP g ctx world_acts_1_c7_r19 ⟨(setsE [(29, .undef)] tm), dfs, up, H⟩ Q)) := WPS_part (l := world_acts_1_c7_r18a) (tail := world_acts_1_c7_r19) (by kernel_rfl)
theorem world_acts_1_c7_r19_w (ctx : Ctx) (tm : T AV) (dfs : List ADef) (up : Option Chain) (H : AHeap) (Q : Post) :
    GS AP true ctx world_acts_1_c7_r19 ⟨tm, dfs, up, H⟩ Q =
    (LK dirty (tm.get 10) fun g ti10 => LK g (tm.get 29) fun g ti29 => BI g (Op.pick [ti10, (.bool true), ti29]) fun g t30 => GO g Q .normal ⟨(setsE [(30, t30)] tm), dfs, up, H⟩) := WPS_shallow (l := world_acts_1_c7_r19) (by kernel_rfl)
theorem world_acts_1_c6_w (ctx : Ctx) (tm : T AV) (dfs : List ADef) (up : Option Chain) (H : AHeap) (Q : Post) :
    WP AP ctx world_acts_1_c6 ⟨tm, dfs, up, H⟩ Q =
    (WP AP ctx world_acts_1_c7 ⟨tm, dfs, up, H⟩ (BLK 1 Q)) := WP_block AP ctx _ _ 1 world_acts_1_c7
/-! ### slices.Chunk[[]byte,byte] -/
def slices_Chunk_byte_c5_r0 : List AStep := [⟨false, (some 7), none, [.const (.str [99, 97, 110, 110, 111, 116, 32, 98, 101, 32, 108, 101, 115, 115, 32, 116, 104, 97, 110, 32, 49])], .pure (Op.mkIface T_string), (some [])⟩,
  ⟨false, none, none, [.tmp 7], .panic, (some [])⟩]
def slices_Chunk_byte_c5 : ACode := .region slices_Chunk_byte_c5_r0
def slices_Chunk_byte_c4 : ACode := .cond (.tmp 6) slices_Chunk_byte_c5 .skip
def slices_Chunk_byte_c3_r0 : List AStep := [⟨false, (some 5), none, [.tmp 3], .read Op.load1, (some [])⟩,
  ⟨false, (some 6), none, [.tmp 5, .const (.int .i64 1)], .pure (Op.bin .lss), (some [])⟩]
def slices_Chunk_byte_c3 : ACode := .seq (.region slices_Chunk_byte_c3_r0) slices_Chunk_byte_c4
def slices_Chunk_byte_c6_r0 : List AStep := [⟨false, (some 8), none, [.tmp 2, .tmp 3], .pure (Op.mkFunc N_slices_Chunk_byte_1 0), (some [])⟩,
  ⟨false, (some 4), none, [.tmp 8], .pure Op.move, (some [])⟩]
def slices_Chunk_byte_c6 : ACode := .seq (.region slices_Chunk_byte_c6_r0) .ret
def slices_Chunk_byte_c2 : ACode := .seq slices_Chunk_byte_c3 slices_Chunk_byte_c6
def slices_Chunk_byte_c1_r0 : List AStep := [⟨false, (some 2), none, [.tmp 0], .alloc (Op.box T__6), (some [])⟩,
  ⟨false, (some 3), none, [.tmp 1], .alloc (Op.box T_int), (some [])⟩,
  ⟨false, (some 4), none, [.const .nilf], .pure Op.move, (some [])⟩]
def slices_Chunk_byte_c1 : ACode := .seq (.region slices_Chunk_byte_c1_r0) slices_Chunk_byte_c2
def slices_Chunk_byte_F : AFunc := ⟨[.tmp 4], slices_Chunk_byte_c1, []⟩
theorem slices_Chunk_byte_c5_w (ctx : Ctx) (tm : T AV) (dfs : List ADef) (up : Option Chain) (H : AHeap) (Q : Post) :
    WP AP ctx slices_Chunk_byte_c5 ⟨tm, dfs, up, H⟩ Q =
    (GS AP dirty ctx slices_Chunk_byte_c5_r0 ⟨tm, dfs, up, H⟩ Q) := Gxregion AP ctx _ _ slices_Chunk_byte_c5_r0
theorem slices_Chunk_byte_c5_r0_w (ctx : Ctx) (tm : T AV) (dfs : List ADef) (up : Option Chain) (H : AHeap) (Q : Post) :
    GS AP true ctx slices_Chunk_byte_c5_r0 ⟨tm, dfs, up, H⟩ Q =
    (BI dirty ((Op.mkIface T_string) [(.str [99, 97, 110, 110, 111, 116, 32, 98, 101, 32, 108, 101, 115, 115, 32, 116, 104, 97, 110, 32, 49])]) fun g t7 => PANICK [t7] H (PAN (some []) (setsE [(7, t7)] tm) dfs up Q)) := WPS_shallow (l := slices_Chunk_byte_c5_r0) (by kernel_rfl)
theorem slices_Chunk_byte_c4_w (ctx : Ctx) (tm : T AV) (dfs : List ADef) (up : Option Chain) (H : AHeap) (Q : Post) :
    WP AP ctx slices_Chunk_byte_c4 ⟨tm, dfs, up, H⟩ Q =
    (BI dirty (tm.get 6) fun g v => BI g (asBool v) fun g q => IG g q (fun g => GW AP g ctx slices_Chunk_byte_c5 ⟨tm, dfs, up, H⟩ Q) (fun g => GW AP g ctx .skip ⟨tm, dfs, up, H⟩ Q)) := Gxcond AP ctx _ _ 6 slices_Chunk_byte_c5 .skip
theorem slices_Chunk_byte_c3_w (ctx : Ctx) (tm : T AV) (dfs : List ADef) (up : Option Chain) (H : AHeap) (Q : Post) :
    WP AP ctx slices_Chunk_byte_c3 ⟨tm, dfs, up, H⟩ Q =
    (GS AP dirty ctx slices_Chunk_byte_c3_r0 ⟨tm, dfs, up, H⟩ (SEQ (WP AP ctx slices_Chunk_byte_c4) Q)) := Gxrseq AP ctx _ _ slices_Chunk_byte_c3_r0 slices_Chunk_byte_c4
theorem slices_Chunk_byte_c3_r0_w (ctx : Ctx) (tm : T AV) (dfs : List ADef) (up : Option Chain) (H : AHeap) (Q : Post) :
    GS AP true ctx slices_Chunk_byte_c3_r0 ⟨tm, dfs, up, H⟩ Q =
    (LK dirty (tm.get 3) fun g ti3 => BI g (Op.load1 [ti3] H) fun g t5 => BI g ((Op.bin .lss) [t5, (.int .i64 1)]) fun g t6 => GO g Q .normal ⟨(setsE [(6, t6), (5, t5)] tm), dfs, up, H⟩) := WPS_shallow (l := slices_Chunk_byte_c3_r0) (by kernel_rfl)
theorem slices_Chunk_byte_c6_w (ctx : Ctx) (tm : T AV) (dfs : List ADef) (up : Option Chain) (H : AHeap) (Q : Post) :
    WP AP ctx slices_Chunk_byte_c6 ⟨tm, dfs, up, H⟩ Q =
    (GS AP dirty ctx slices_Chunk_byte_c6_r0 ⟨tm, dfs, up, H⟩ (SEQ (WP AP ctx .ret) Q)) := Gxrseq AP ctx _ _ slices_Chunk_byte_c6_r0 .ret
theorem slices_Chunk_byte_c6_r0_w (ctx : Ctx) (tm : T AV) (dfs : List ADef) (up : Option Chain) (H : AHeap) (Q : Post) :
    GS AP true ctx slices_Chunk_byte_c6_r0 ⟨tm, dfs, up, H⟩ Q =
    (LK dirty (tm.get 2) fun g ti2 => LK g (tm.get 3) fun g ti3 => BI g ((Op.mkFunc N_slices_Chunk_byte_1 0) [ti2, ti3]) fun g t8 => BI g (Op.move [t8]) fun g t4 => GO g Q .normal ⟨(setsE [(4, t4), (8, t8)] tm), dfs, up, H⟩) := WPS_shallow (l := slices_Chunk_byte_c6_r0) (by kernel_rfl)
theorem slices_Chunk_byte_c2_w (ctx : Ctx) (tm : T AV) (dfs : List ADef) (up : Option Chain) (H : AHeap) (Q : Post) :
    WP AP ctx slices_Chunk_byte_c2 ⟨tm, dfs, up, H⟩ Q =
    (WP AP ctx slices_Chunk_byte_c3 ⟨tm, dfs, up, H⟩ (SEQ (WP AP ctx slices_Chunk_byte_c6) Q)) := WP_seq AP ctx _ _ slices_Chunk_byte_c3 slices_Chunk_byte_c6
theorem slices_Chunk_byte_c1_w (ctx : Ctx) (tm : T AV) (dfs : List ADef) (up : Option Chain) (H : AHeap) (Q : Post) :
    WP AP ctx slices_Chunk_byte_c1 ⟨tm, dfs, up, H⟩ Q =
    (GS AP dirty ctx slices_Chunk_byte_c1_r0 ⟨tm, dfs, up, H⟩ (SEQ (WP AP ctx slices_Chunk_byte_c2) Q)) := Gxrseq AP ctx _ _ slices_Chunk_byte_c1_r0 slices_Chunk_byte_c2
theorem slices_Chunk_byte_c1_r0_w (ctx : Ctx) (tm : T AV) (dfs : List ADef) (up : Option Chain) (H : AHeap) (Q : Post) :
    GS AP true ctx slices_Chunk_byte_c1_r0 ⟨tm, dfs, up, H⟩ Q =
    (LK dirty (tm.get 0) fun g ti0 => BI2 g ((Op.box T__6) [ti0]) fun g o1 mk1 => LK g (tm.get 1) fun g ti1 => BI2 g ((Op.box T_int) [ti1]) fun g o2 mk2 => BI g (Op.move [.nilf]) fun g t4 => 
    GO g Q .normal ⟨(setsE [(4, t4), (3, (mk2 (H.alloc o1).next)), (2, (mk1 H.next))] tm), dfs, up, ((H.alloc o1).alloc o2)⟩) := WPS_shallow (l := slices_Chunk_byte_c1_r0) (by kernel_rfl)
/-! ### slices.Chunk[[]byte,byte]S1 -/
def slices_Chunk_byte_1_c6 : ACode := .cond (.tmp 9) .skip (.exit 0)
def slices_Chunk_byte_1_c5_r0 : List AStep := [⟨false, (some 6), none, [.tmp 4], .pure Op.move, (some [])⟩,
  ⟨false, (some 7), none, [.tmp 1], .read Op.load1, (some [])⟩,
  ⟨false, (some 8), none, [.tmp 7], .pure Op.lenSl, (some [])⟩,
  ⟨false, (some 9), none, [.tmp 6, .tmp 8], .pure (Op.bin .lss), (some [])⟩]
def slices_Chunk_byte_1_c5 : ACode := .seq (.region slices_Chunk_byte_1_c5_r0) slices_Chunk_byte_1_c6
def slices_Chunk_byte_1_c11 : ACode := .cond (.tmp 30) .ret .skip
def slices_Chunk_byte_1_c10_r0 : List AStep := [⟨false, (some 19), none, [.tmp 0], .pure Op.move, (some [])⟩,
  ⟨false, (some 20), none, [.tmp 1], .read Op.load1, (some [])⟩,
  ⟨false, (some 21), none, [.tmp 4], .pure Op.move, (some [])⟩,
  ⟨false, (some 22), none, [.tmp 4], .pure Op.move, (some [])⟩,
  ⟨false, (some 23), none, [.tmp 5], .pure Op.move, (some [])⟩,
  ⟨false, (some 24), none, [.tmp 22, .tmp 23], .pure (Op.bin .add), (some [])⟩,
  ⟨false, (some 25), none, [.tmp 4], .pure Op.move, (some [])⟩,
  ⟨false, (some 26), none, [.tmp 5], .pure Op.move, (some [])⟩,
  ⟨false, (some 27), none, [.tmp 25, .tmp 26], .pure (Op.bin .add), (some [])⟩,
  ⟨false, (some 28), none, [.tmp 20, .tmp 21, .tmp 24, .tmp 27], .pure (Op.sliceSl 1 [(some 0), (some 1), (some 2)]), (some [])⟩,
  ⟨false, (some 29), none, [.tmp 19, .tmp 28], .callV, (some [])⟩,
  ⟨false, (some 30), none, [.tmp 29], .pure (Op.un .not), (some [])⟩]
def slices_Chunk_byte_1_c10 : ACode := .seq (.region slices_Chunk_byte_1_c10_r0) slices_Chunk_byte_1_c11
def slices_Chunk_byte_1_c9_r0 : List AStep := [⟨false, (some 13), none, [.tmp 2], .read Op.load1, none⟩,
  ⟨false, (some 14), none, [.tmp 1], .read Op.load1, none⟩,
  ⟨false, (some 15), none, [.tmp 4], .pure Op.move, (some [13, 14, 15, 16, 17, 18, 5])⟩,
  ⟨false, (some 16), none, [.tmp 14, .tmp 15], .pure (Op.sliceSl 1 [(some 0), none, none]), (some [13, 14, 15, 16, 17, 18, 5])⟩,
  ⟨false, (some 17), none, [.tmp 16], .pure Op.lenSl, (some [13, 14, 15, 16, 17, 18, 5])⟩,
  ⟨false, (some 18), none, [.tmp 13, .tmp 17], .pure (Op.minmax false), (some [13, 14, 15, 16, 17, 18, 5])⟩,
  ⟨false, (some 5), none, [.tmp 18], .pure Op.move, (some [13, 14, 15, 16, 17, 18, 5])⟩]
def slices_Chunk_byte_1_c9 : ACode := .seq (.region slices_Chunk_byte_1_c9_r0) slices_Chunk_byte_1_c10
def slices_Chunk_byte_1_c8 : ACode := .block 1 slices_Chunk_byte_1_c9
def slices_Chunk_byte_1_c12_r0 : List AStep := [⟨false, (some 10), none, [.tmp 4], .pure Op.move, (some [])⟩,
  ⟨false, (some 11), none, [.tmp 2], .read Op.load1, (some [])⟩,
  ⟨false, (some 12), none, [.tmp 10, .tmp 11], .pure (Op.bin .add), (some [])⟩,
  ⟨false, (some 4), none, [.tmp 12], .pure Op.move, (some [])⟩]
def slices_Chunk_byte_1_c12 : ACode := .region slices_Chunk_byte_1_c12_r0
def slices_Chunk_byte_1_c7 : ACode := .seq slices_Chunk_byte_1_c8 slices_Chunk_byte_1_c12
def slices_Chunk_byte_1_c4 : ACode := .seq slices_Chunk_byte_1_c5 slices_Chunk_byte_1_c7
def slices_Chunk_byte_1_c3 : ACode := .loop none slices_Chunk_byte_1_c4
def slices_Chunk_byte_1_c2 : ACode := .block 0 slices_Chunk_byte_1_c3
def slices_Chunk_byte_1_c1_r0 : List AStep := [⟨false, (some 4), none, [.const (.int .i64 0)], .pure Op.move, (some [])⟩]
def slices_Chunk_byte_1_c1 : ACode := .seq (.region slices_Chunk_byte_1_c1_r0) slices_Chunk_byte_1_c2
def slices_Chunk_byte_1_F : AFunc := ⟨[], slices_Chunk_byte_1_c1, []⟩
theorem slices_Chunk_byte_1_c6_w (ctx : Ctx) (tm : T AV) (dfs : List ADef) (up : Option Chain) (H : AHeap) (Q : Post) :
    WP AP ctx slices_Chunk_byte_1_c6 ⟨tm, dfs, up, H⟩ Q =
    (BI dirty (tm.get 9) fun g v => BI g (asBool v) fun g q => IG g q (fun g => GW AP g ctx .skip ⟨tm, dfs, up, H⟩ Q) (fun g => GW AP g ctx (.exit 0) ⟨tm, dfs, up, H⟩ Q)) := Gxcond AP ctx _ _ 9 .skip (.exit 0)
theorem slices_Chunk_byte_1_c5_w (ctx : Ctx) (tm : T AV) (dfs : List ADef) (up : Option Chain) (H : AHeap) (Q : Post) :
    WP AP ctx slices_Chunk_byte_1_c5 ⟨tm, dfs, up, H⟩ Q =
    (GS AP dirty ctx slices_Chunk_byte_1_c5_r0 ⟨tm, dfs, up, H⟩ (SEQ (WP AP ctx slices_Chunk_byte_1_c6) Q)) := Gxrseq AP ctx _ _ slices_Chunk_byte_1_c5_r0 slices_Chunk_byte_1_c6
theorem slices_Chunk_byte_1_c5_r0_w (ctx : Ctx) (tm : T AV) (dfs : List ADef) (up : Option Chain) (H : AHeap) (Q : Post) :
    GS AP true ctx slices_Chunk_byte_1_c5_r0 ⟨tm, dfs, up, H⟩ Q =
    (LK dirty (tm.get 4) fun g ti4 => BI g (Op.move [ti4]) fun g t6 => LK g (tm.get 1) fun g ti1 => BI g (Op.load1 [ti1] H) fun g t7 => BI g (Op.lenSl [t7]) fun g t8 => 
    BI g ((Op.bin .lss) [t6, t8]) fun g t9 => GO g Q .normal ⟨(setsE [(9, t9), (8, t8), (7, t7), (6, t6)] tm), dfs, up, H⟩) := WPS_shallow (l := slices_Chunk_byte_1_c5_r0) (by kernel_rfl)
theorem slices_Chunk_byte_1_c11_w (ctx : Ctx) (tm : T AV) (dfs : List ADef) (up : Option Chain) (H : AHeap) (Q : Post) :
    WP AP ctx slices_Chunk_byte_1_c11 ⟨tm, dfs, up, H⟩ Q =
    (BI dirty (tm.get 30) fun g v => BI g (asBool v) fun g q => IG g q (fun g => GW AP g ctx .ret ⟨tm, dfs, up, H⟩ Q) (fun g => GW AP g ctx .skip ⟨tm, dfs, up, H⟩ Q)) := Gxcond AP ctx _ _ 30 .ret .skip
theorem slices_Chunk_byte_1_c10_w (ctx : Ctx) (tm : T AV) (dfs : List ADef) (up : Option Chain) (H : AHeap) (Q : Post) :
    WP AP ctx slices_Chunk_byte_1_c10 ⟨tm, dfs, up, H⟩ Q =
    (GS AP dirty ctx slices_Chunk_byte_1_c10_r0 ⟨tm, dfs, up, H⟩ (SEQ (WP AP ctx slices_Chunk_byte_1_c11) Q)) := Gxrseq AP ctx _ _ slices_Chunk_byte_1_c10_r0 slices_Chunk_byte_1_c11
theorem slices_Chunk_byte_1_c10_r0_w (ctx : Ctx) (tm : T AV) (dfs : List ADef) (up : Option Chain) (H : AHeap) (Q : Post) :
    GS AP true ctx slices_Chunk_byte_1_c10_r0 ⟨tm, dfs, up, H⟩ Q =
    (LK dirty (tm.get 0) fun g ti0 => BI g (Op.move [ti0]) fun g t19 => LK g (tm.get 1) fun g ti1 => BI g (Op.load1 [ti1] H) fun g t20 => LK g (tm.get 4) fun g ti4 => BI g (Op.move [ti4]) fun g t21 => 
    LK g (tm.get 4) fun g ti4_1 => BI g (Op.move [ti4_1]) fun g t22 => LK g (tm.get 5) fun g ti5 => BI g (Op.move [ti5]) fun g t23 => BI g ((Op.bin .add) [t22, t23]) fun g t24 => 
    LK g (tm.get 4) fun g ti4_2 => BI g (Op.move [ti4_2]) fun g t25 => LK g (tm.get 5) fun g ti5_1 => BI g (Op.move [ti5_1]) fun g t26 => BI g ((Op.bin .add) [t25, t26]) fun g t27 => 
    BI g ((Op.sliceSl 1 [(some 0), (some 1), (some 2)]) [t20, t21, t24, t27]) fun g t28 => VI g [t19, t28] fun g f vs => CA AP g f vs H (fun g t29 H1 => 
    BI g ((Op.un .not) [t29]) fun g t30 => 
    GO g Q .normal ⟨(setsE [(30, t30), (29, t29), (28, t28), (27, t27), (26, t26), (25, t25), (24, t24), (23, t23), (22, t22), (21, t21), (20, t20), (19, t19)] tm), dfs, up, H1⟩) (PAN (some []) (setsE [(28, t28), (27, t27), (26, t26), (25, t25), (24, t24), (23, t23), (22, t22), (21, t21), (20, t20), (19, t19)] tm) dfs up Q)) := WPS_shallow (l := slices_Chunk_byte_1_c10_r0) (by kernel_rfl)
theorem slices_Chunk_byte_1_c9_w (ctx : Ctx) (tm : T AV) (dfs : List ADef) (up : Option Chain) (H : AHeap) (Q : Post) :
    WP AP ctx slices_Chunk_byte_1_c9 ⟨tm, dfs, up, H⟩ Q =
    (GS AP dirty ctx slices_Chunk_byte_1_c9_r0 ⟨tm, dfs, up, H⟩ (SEQ (WP AP ctx slices_Chunk_byte_1_c10) Q)) := Gxrseq AP ctx _ _ slices_Chunk_byte_1_c9_r0 slices_Chunk_byte_1_c10
theorem slices_Chunk_byte_1_c9_r0_w (ctx : Ctx) (tm : T AV) (dfs : List ADef) (up : Option Chain) (H : AHeap) (Q : Post) :
    GS AP true ctx slices_Chunk_byte_1_c9_r0 ⟨tm, dfs, up, H⟩ Q =
    (LK dirty (tm.get 2) fun g ti2 => BI g (Op.load1 [ti2] H) fun g t13 => LK g (tm.get 1) fun g ti1 => BI g (Op.load1 [ti1] H) fun g t14 => LK g (tm.get 4) fun g ti4 => BI g (Op.move [ti4]) fun g t15 => 
    BI g ((Op.sliceSl 1 [(some 0), none, none]) [t14, t15]) fun g t16 => BI g (Op.lenSl [t16]) fun g t17 => BI g ((Op.minmax false) [t13, t17]) fun g t18 => 
    BI g (Op.move [t18]) fun g t5 => GO g Q .normal ⟨(setsE [(5, t5), (18, t18), (17, t17), (16, t16), (15, t15), (14, t14), (13, t13)] tm), dfs, up, H⟩) := WPS_shallow (l := slices_Chunk_byte_1_c9_r0) (by kernel_rfl)
theorem slices_Chunk_byte_1_c8_w (ctx : Ctx) (tm : T AV) (dfs : List ADef) (up : Option Chain) (H : AHeap) (Q : Post) :
    WP AP ctx slices_Chunk_byte_1_c8 ⟨tm, dfs, up, H⟩ Q =
    (WP AP ctx slices_Chunk_byte_1_c9 ⟨tm, dfs, up, H⟩ (BLK 1 Q)) := WP_block AP ctx _ _ 1 slices_Chunk_byte_1_c9
theorem slices_Chunk_byte_1_c12_w (ctx : Ctx) (tm : T AV) (dfs : List ADef) (up : Option Chain) (H : AHeap) (Q : Post) :
    WP AP ctx slices_Chunk_byte_1_c12 ⟨tm, dfs, up, H⟩ Q =
    (GS AP dirty ctx slices_Chunk_byte_1_c12_r0 ⟨tm, dfs, up, H⟩ Q) := Gxregion AP ctx _ _ slices_Chunk_byte_1_c12_r0
theorem slices_Chunk_byte_1_c12_r0_w (ctx : Ctx) (tm : T AV) (dfs : List ADef) (up : Option Chain) (H : AHeap) (Q : Post) :
    GS AP true ctx slices_Chunk_byte_1_c12_r0 ⟨tm, dfs, up, H⟩ Q =
    (LK dirty (tm.get 4) fun g ti4 => BI g (Op.move [ti4]) fun g t10 => LK g (tm.get 2) fun g ti2 => BI g (Op.load1 [ti2] H) fun g t11 => BI g ((Op.bin .add) [t10, t11]) fun g t12 => 
    BI g (Op.move [t12]) fun g t4 => GO g Q .normal ⟨(setsE [(4, t4), (12, t12), (11, t11), (10, t10)] tm), dfs, up, H⟩) := WPS_shallow (l := slices_Chunk_byte_1_c12_r0) (by kernel_rfl)
theorem slices_Chunk_byte_1_c7_w (ctx : Ctx) (tm : T AV) (dfs : List ADef) (up : Option Chain) (H : AHeap) (Q : Post) :
    WP AP ctx slices_Chunk_byte_1_c7 ⟨tm, dfs, up, H⟩ Q =
    (WP AP ctx slices_Chunk_byte_1_c8 ⟨tm, dfs, up, H⟩ (SEQ (WP AP ctx slices_Chunk_byte_1_c12) Q)) := WP_seq AP ctx _ _ slices_Chunk_byte_1_c8 slices_Chunk_byte_1_c12
theorem slices_Chunk_byte_1_c4_w (ctx : Ctx) (tm : T AV) (dfs : List ADef) (up : Option Chain) (H : AHeap) (Q : Post) :
    WP AP ctx slices_Chunk_byte_1_c4 ⟨tm, dfs, up, H⟩ Q =
    (WP AP ctx slices_Chunk_byte_1_c5 ⟨tm, dfs, up, H⟩ (SEQ (WP AP ctx slices_Chunk_byte_1_c7) Q)) := WP_seq AP ctx _ _ slices_Chunk_byte_1_c5 slices_Chunk_byte_1_c7
theorem slices_Chunk_byte_1_c3_w (ctx : Ctx) (tm : T AV) (dfs : List ADef) (up : Option Chain) (H : AHeap) (Q : Post) :
    WP AP ctx slices_Chunk_byte_1_c3 ⟨tm, dfs, up, H⟩ Q =
    (LOOP (WP AP ctx slices_Chunk_byte_1_c4) none ⟨tm, dfs, up, H⟩ Q) := WP_loop AP ctx _ _ none slices_Chunk_byte_1_c4
theorem slices_Chunk_byte_1_c2_w (ctx : Ctx) (tm : T AV) (dfs : List ADef) (up : Option Chain) (H : AHeap) (Q : Post) :
    WP AP ctx slices_Chunk_byte_1_c2 ⟨tm, dfs, up, H⟩ Q =
    (WP AP ctx slices_Chunk_byte_1_c3 ⟨tm, dfs, up, H⟩ (BLK 0 Q)) := WP_block AP ctx _ _ 0 slices_Chunk_byte_1_c3
theorem slices_Chunk_byte_1_c1_w (ctx : Ctx) (tm : T AV) (dfs : List ADef) (up : Option Chain) (H : AHeap) (Q : Post) :
    WP AP ctx slices_Chunk_byte_1_c1 ⟨tm, dfs, up, H⟩ Q =
    (GS AP dirty ctx slices_Chunk_byte_1_c1_r0 ⟨tm, dfs, up, H⟩ (SEQ (WP AP ctx slices_Chunk_byte_1_c2) Q)) := Gxrseq AP ctx _ _ slices_Chunk_byte_1_c1_r0 slices_Chunk_byte_1_c2
theorem slices_Chunk_byte_1_c1_r0_w (ctx : Ctx) (tm : T AV) (dfs : List ADef) (up : Option Chain) (H : AHeap) (Q : Post) :
    GS AP true ctx slices_Chunk_byte_1_c1_r0 ⟨tm, dfs, up, H⟩ Q =
    (BI dirty (Op.move [(.int .i64 0)]) fun g t4 => GO g Q .normal ⟨(setsE [(4, t4)] tm), dfs, up, H⟩) := WPS_shallow (l := slices_Chunk_byte_1_c1_r0) (by kernel_rfl)
end
open Go.Proofs Go.Proofs.Ytkfheegmlgfdoaa
theorem law14_WorldDecodes_at : (cProg Try.prog).func N_law14_WorldDecodes = some law14_WorldDecodes_F := by kernel_rfl
theorem world_Decode_at : (cProg Try.prog).func N_world_Decode = some world_Decode_F := by kernel_rfl
theorem ref14_Decode_at : (cProg Try.prog).func N_ref14_Decode = some ref14_Decode_F := by kernel_rfl
theorem slices_Collect_api_Act_at : (cProg Try.prog).func N_slices_Collect_api_Act = some slices_Collect_api_Act_F := by kernel_rfl
theorem world_acts_at : (cProg Try.prog).func N_world_acts = some world_acts_F := by kernel_rfl
theorem slices_AppendSeq_api_Act_at : (cProg Try.prog).func N_slices_AppendSeq_api_Act = some slices_AppendSeq_api_Act_F := by kernel_rfl
theorem world_acts_1_at : (cProg Try.prog).func N_world_acts_1 = some world_acts_1_F := by kernel_rfl
theorem slices_Chunk_byte_at : (cProg Try.prog).func N_slices_Chunk_byte = some slices_Chunk_byte_F := by kernel_rfl
theorem slices_Chunk_byte_1_at : (cProg Try.prog).func N_slices_Chunk_byte_1 = some slices_Chunk_byte_1_F := by kernel_rfl
end Go.Am
