/- TrR5: TxA TxB RxA RxB RxC RxD RxE. -/
import Derived.Test.YtkfheegmlgfdoaaDoorAmRCodeR
import Derived.Test.YtkfheegmlgfdoaaDoorAmRTrR2
import Derived.Test.YtkfheegmlgfdoaaDoorAmRTrR3
set_option linter.unusedVariables false
set_option linter.unusedSimpArgs false
set_option linter.unusedSectionVars false
set_option maxRecDepth 100000
namespace Go.Am
open Tr
open Lang (dec)
variable {M : Mac} [MK M]
abbrev cB (l : UInt8) : AV := .int .u8 l.toNat
theorem qo3 {H : AHeap} {k : Int} (h1 : 1 ≤ k) (h2 : k ≤ 8) : CALLQ M yg [.int .i64 k] H fun v H' => v = .str (named k) ∧ Fr Em H H' := by
  refine qtj ?_
  have e2 : (Op.buildSlice qm 9 [(.str [])] [(0, 1), (1, 1), (2, 1), (3, 1), (4, 1), (5, 1), (6, 1), (7, 1), (8, 1)]) [(.str []), (.str [98, 116, 108]), (.str [98, 116, 97, 118]), (.str [98, 116, 97, 118]), (.str [98, 116]), (.str [98, 116]), (.str [98, 116, 99]), (.str [97, 118]), (.str [97, 118])] = some (.row (((List.range 9).map fun k : Nat => named (k : Nat)).map AV.str) qm (0, 0) true, Op.sliceTo 9 9) := rfl
  have hw := qfy H ((List.range 9).map fun k : Nat => named (k : Nat)) qm 9 (0, 0) true rfl
  have hk : ((List.range 9).map fun k : Nat => named (k : Nat))[k.toNat]? = some (named k) := by
    rw [List.getElem?_map, List.getElem?_range (by omega)]
    show some (named ((k.toNat : Nat) : Int)) = _
    rw [show ((k.toNat : Nat) : Int) = k by omega]
  have k0 : Op.sliceTo 9 9 H.next = .slice H.next 0 9 9 := rfl
  simp only [↓JN_eq, CTL3, OPS3, cast0, reduceIte, Nat.reduceEqDiff, qsj, e2, k0, hw.idx hk (z := k) (by omega), hw.load0 kh hk (by omega), encS]
  exact (Fr.refl H).alloc _
theorem qz0 {H : AHeap} {k : Int} (h1 : 1 ≤ k) (h2 : k ≤ 8) : CALLQ M qag [.int .i64 k] H fun v H' => v = .str (kword k) ∧ Fr Em H H' := by
  refine qua ?_
  have e2 : (Op.buildSlice qm 9 [(.str [])] [(0, 1), (1, 1), (2, 1), (3, 1), (4, 1), (5, 1), (6, 1), (7, 1), (8, 1)]) [(.str []), (.str [98, 101, 103, 105, 110]), (.str [108, 111, 97, 100]), (.str [115, 116, 111, 114, 101]), (.str [112, 111, 105, 110, 116]), (.str [99, 111, 109, 109, 105, 116]), (.str [97, 98, 111, 114, 116]), (.str [112, 108, 97, 105, 110]), (.str [119, 114, 105, 116, 101])] = some (.row (((List.range 9).map fun k : Nat => kword (k : Nat)).map AV.str) qm (0, 0) true, Op.sliceTo 9 9) := rfl
  have hw := qfy H ((List.range 9).map fun k : Nat => kword (k : Nat)) qm 9 (0, 0) true rfl
  have hk : ((List.range 9).map fun k : Nat => kword (k : Nat))[k.toNat]? = some (kword k) := by
    rw [List.getElem?_map, List.getElem?_range (by omega)]
    show some (kword ((k.toNat : Nat) : Int)) = _
    rw [show ((k.toNat : Nat) : Int) = k by omega]
  have k0 : Op.sliceTo 9 9 H.next = .slice H.next 0 9 9 := rfl
  simp only [↓JN_eq, CTL3, OPS3, cast0, reduceIte, Nat.reduceEqDiff, qu6, e2, k0, hw.idx hk (z := k) (by omega), hw.load0 kh hk (by omega), encS]
  exact (Fr.refl H).alloc _
theorem qwl {H : AHeap} {l : UInt8} (hl : isL l) : CALLQ M vd [cB l] H fun v H' => Fr Em H H' ∧ SlT encS 1 H' v (wordsOf l) := by
  refine qtu ?_
  rcases hl with rfl | rfl | rfl | rfl | rfl | rfl
  · have e : cB 118 = .int .u8 118 := rfl
    rw [e]; simp (maxSteps := 4000000) (disch := first | (simp only [qd, qe]; done) | (simp only [qd, qe]; omega) | omega) only [↓JN_eq, CTL3, OPS3, MEM3, List.length_cons, List.length_nil, List.take_zero, List.take_succ_cons, List.drop_zero, List.drop_succ_cons, List.take_nil, List.drop_nil, Nat.reduceAdd, Nat.reduceSub, Nat.reduceLeDiff, Int.reduceLT, Int.reduceLE, Int.reduceEq, cast0, reduceIte, Nat.reduceEqDiff, qai]
    exact ⟨Fr.refl _, rfl, rfl⟩
  · have e : cB 98 = .int .u8 98 := rfl
    rw [e]; simp (maxSteps := 4000000) (disch := first | (simp only [qd, qe]; done) | (simp only [qd, qe]; omega) | omega) only [↓JN_eq, CTL3, OPS3, MEM3, List.length_cons, List.length_nil, List.take_zero, List.take_succ_cons, List.drop_zero, List.drop_succ_cons, List.take_nil, List.drop_nil, Nat.reduceAdd, Nat.reduceSub, Nat.reduceLeDiff, Int.reduceLT, Int.reduceLE, Int.reduceEq, cast0, reduceIte, Nat.reduceEqDiff, qai]
    exact ⟨Fr.refl _, rfl, rfl⟩
  · have e : cB 116 = .int .u8 116 := rfl
    rw [e]; simp (maxSteps := 4000000) (disch := first | (simp only [qd, qe]; done) | (simp only [qd, qe]; omega) | omega) only [↓JN_eq, CTL3, OPS3, MEM3, List.length_cons, List.length_nil, List.take_zero, List.take_succ_cons, List.drop_zero, List.drop_succ_cons, List.take_nil, List.drop_nil, Nat.reduceAdd, Nat.reduceSub, Nat.reduceLeDiff, Int.reduceLT, Int.reduceLE, Int.reduceEq, cast0, reduceIte, Nat.reduceEqDiff, qai]
    exact ⟨Fr.refl _, rfl, rfl⟩
  · have e : cB 108 = .int .u8 108 := rfl
    have e2 : (Op.buildSlice qm 5 [(.str [])] [(0, 1), (1, 1), (2, 1), (3, 1), (4, 1)]) [(.str []), (.str [102, 97, 115, 116]), (.str [115, 108, 111, 119]), (.str [115, 111, 102, 116]), (.str [115, 101, 114, 105, 97, 108])] = some (.row ((wordsOf 108).map AV.str) qm (0, 0) true, Op.sliceTo 5 5) := rfl
    rw [e]; simp (maxSteps := 4000000) (disch := first | (simp only [qd, qe]; done) | (simp only [qd, qe]; omega) | omega) only [↓JN_eq, CTL3, OPS3, MEM3, List.length_cons, List.length_nil, List.take_zero, List.take_succ_cons, List.drop_zero, List.drop_succ_cons, List.take_nil, List.drop_nil, Nat.reduceAdd, Nat.reduceSub, Nat.reduceLeDiff, Int.reduceLT, Int.reduceLE, Int.reduceEq, cast0, reduceIte, Nat.reduceEqDiff, qai, e2]
    exact ⟨(Fr.refl _).alloc _, qfy _ _ _ _ _ _ rfl⟩
  · have e : cB 97 = .int .u8 97 := rfl
    rw [e]; simp (maxSteps := 4000000) (disch := first | (simp only [qd, qe]; done) | (simp only [qd, qe]; omega) | omega) only [↓JN_eq, CTL3, OPS3, MEM3, List.length_cons, List.length_nil, List.take_zero, List.take_succ_cons, List.drop_zero, List.drop_succ_cons, List.take_nil, List.drop_nil, Nat.reduceAdd, Nat.reduceSub, Nat.reduceLeDiff, Int.reduceLT, Int.reduceLE, Int.reduceEq, cast0, reduceIte, Nat.reduceEqDiff, qai]
    exact ⟨Fr.refl _, rfl, rfl⟩
  · have e : cB 99 = .int .u8 99 := rfl
    have e2 : (Op.buildSlice qm 9 [(.str [])] [(0, 1), (1, 1), (2, 1), (3, 1), (4, 1), (5, 1), (6, 1), (7, 1), (8, 1)]) [(.str []), (.str [99, 111, 110, 102, 108, 105, 99, 116]), (.str [115, 117, 98]), (.str [99, 97, 112, 97, 99, 105, 116, 121]), (.str [101, 118, 105, 99, 116]), (.str [115, 112, 117, 114, 105, 111, 117, 115]), (.str [98, 117, 115, 121]), (.str [105, 108, 108, 101, 103, 97, 108]), (.str [115, 111, 102, 116])] = some (.row ((wordsOf 99).map AV.str) qm (0, 0) true, Op.sliceTo 9 9) := rfl
    rw [e]; simp (maxSteps := 4000000) (disch := first | (simp only [qd, qe]; done) | (simp only [qd, qe]; omega) | omega) only [↓JN_eq, CTL3, OPS3, MEM3, List.length_cons, List.length_nil, List.take_zero, List.take_succ_cons, List.drop_zero, List.drop_succ_cons, List.take_nil, List.drop_nil, Nat.reduceAdd, Nat.reduceSub, Nat.reduceLeDiff, Int.reduceLT, Int.reduceLE, Int.reduceEq, cast0, reduceIte, Nat.reduceEqDiff, qai, e2]
    exact ⟨(Fr.refl _).alloc _, qfy _ _ _ _ _ _ rfl⟩
theorem qok {H : AHeap} {k c t : Int} : CALLQ M yb [.int .i64 k, .int .i64 c, .int .i64 t] H fun v H' => v = .agg (fresh k c t).enc ∧ Fr Em H H' := by
  refine qr8 ?_
  by_cases h : 7 ≤ k
  · simp (maxSteps := 4000000) (disch := first | (simp only [qd, qe]; done) | (simp only [qd, qe]; omega) | omega) only [↓JN_eq, CTL3, OPS3, MEM3, List.length_cons, List.length_nil, List.take_zero, List.take_succ_cons, List.drop_zero, List.drop_succ_cons, List.take_nil, List.drop_nil, Nat.reduceAdd, Nat.reduceSub, Nat.reduceLeDiff, Int.reduceLT, Int.reduceLE, Int.reduceEq, cast0, reduceIte, Nat.reduceEqDiff, qkn, h]
    refine ⟨by simp [fresh, h, Evt.enc], ?_⟩
    ((repeat (first | refine Fr.alloc ?_ _ | refine Fr.set ?_ (.inr (by first | omega | (simp only [qd, qe]; omega))) _)); first | exact Fr.refl _ | assumption)
  · simp (maxSteps := 4000000) (disch := first | (simp only [qd, qe]; done) | (simp only [qd, qe]; omega) | omega) only [↓JN_eq, CTL3, OPS3, MEM3, List.length_cons, List.length_nil, List.take_zero, List.take_succ_cons, List.drop_zero, List.drop_succ_cons, List.take_nil, List.drop_nil, Nat.reduceAdd, Nat.reduceSub, Nat.reduceLeDiff, Int.reduceLT, Int.reduceLE, Int.reduceEq, cast0, reduceIte, Nat.reduceEqDiff, qkn, h]
    refine ⟨by simp [fresh, h, Evt.enc], ?_⟩
    ((repeat (first | refine Fr.alloc ?_ _ | refine Fr.set ?_ (.inr (by first | omega | (simp only [qd, qe]; omega))) _)); first | exact Fr.refl _ | assumption)
def SetR (y : Evt) (l : UInt8) (u : Int) (v : AV) : Prop := ∃ (z : Evt) (q : Bool), v = .tuple [.agg z.enc, .bool q] ∧ (q = true ↔ l = 118 ∨ u ≤ 9223372036854775807 ∧ mayN l u = true) ∧ (q = true → z = setN y l u)
theorem qt1 {H : AHeap} {y : Evt} {l : UInt8} {u : Int} (hl : isL l) (h0 : 0 ≤ u) (h1 : u < 18446744073709551616) : CALLQ M qae [.agg y.enc, cB l, .int .u64 u] H fun v H' => SetR y l u v ∧ Fr Em H H' := by
  refine qx3 ?_
  by_cases h118 : l = 118
  · subst h118
    have e : cB 118 = .int .u8 118 := rfl
    have e1 : y.enc.take 7 ++ [AV.int .u64 u] ++ y.enc.drop 8 = (setN y 118 u).enc := rfl
    rw [e]; simp (maxSteps := 4000000) (disch := first | (simp only [qd, qe]; done) | (simp only [qd, qe]; omega) | omega) only [↓JN_eq, CTL3, OPS3, MEM3, List.length_cons, List.length_nil, List.take_zero, List.take_succ_cons, List.drop_zero, List.drop_succ_cons, List.take_nil, List.drop_nil, Nat.reduceAdd, Nat.reduceSub, Nat.reduceLeDiff, Int.reduceLT, Int.reduceLE, Int.reduceEq, cast0, reduceIte, Nat.reduceEqDiff, kp, ev9, e1, evt9, Evt.one', List.append_nil, vr]
    refine ⟨⟨_, true, rfl, by simp, fun _ => rfl⟩, ?_⟩
    ((repeat (first | refine Fr.alloc ?_ _ | refine Fr.set ?_ (.inr (by first | omega | (simp only [qd, qe]; omega))) _)); first | exact Fr.refl _ | assumption)
  have e : Op.bin .eql [cB l, .int .u8 118] = some (.bool false) := by
    rcases hl with rfl | rfl | rfl | rfl | rfl | rfl <;> first | rfl | exact absurd rfl h118
  by_cases hg : 9223372036854775807 < u
  · simp (maxSteps := 4000000) (disch := first | (simp only [qd, qe]; done) | (simp only [qd, qe]; omega) | omega) only [↓JN_eq, CTL3, OPS3, MEM3, List.length_cons, List.length_nil, List.take_zero, List.take_succ_cons, List.drop_zero, List.drop_succ_cons, List.take_nil, List.drop_nil, Nat.reduceAdd, Nat.reduceSub, Nat.reduceLeDiff, Int.reduceLT, Int.reduceLE, Int.reduceEq, cast0, reduceIte, Nat.reduceEqDiff, kp, e, hg, ev9, evt9, Evt.one', List.append_nil, vr]
    refine ⟨⟨_, false, rfl, by simp [h118]; omega, fun q => by cases q⟩, ?_⟩
    ((repeat (first | refine Fr.alloc ?_ _ | refine Fr.set ?_ (.inr (by first | omega | (simp only [qd, qe]; omega))) _)); first | exact Fr.refl _ | assumption)
  have ew : wrapI .i64 u = u := xc (by omega) (by omega)
  have hle : u ≤ 9223372036854775807 := by omega
  rcases hl with rfl | rfl | rfl | rfl | rfl | rfl
  · exact absurd rfl h118
  · have e' : cB 98 = .int .u8 98 := rfl
    have e1 : y.enc.take 3 ++ [AV.int .i64 u] ++ y.enc.drop 4 = (setN y 98 u).enc := rfl
    rw [e']; simp (maxSteps := 4000000) (disch := first | (simp only [qd, qe]; done) | (simp only [qd, qe]; omega) | omega) only [↓JN_eq, CTL3, OPS3, MEM3, List.length_cons, List.length_nil, List.take_zero, List.take_succ_cons, List.drop_zero, List.drop_succ_cons, List.take_nil, List.drop_nil, Nat.reduceAdd, Nat.reduceSub, Nat.reduceLeDiff, Int.reduceLT, Int.reduceLE, Int.reduceEq, cast0, reduceIte, Nat.reduceEqDiff, kp, hg, ew, ev9, e1, evt9, Evt.one', List.append_nil, vr]
    refine ⟨⟨_, true, rfl, by simp [hle, mayN, wordsOf, h0], fun _ => rfl⟩, ?_⟩
    ((repeat (first | refine Fr.alloc ?_ _ | refine Fr.set ?_ (.inr (by first | omega | (simp only [qd, qe]; omega))) _)); first | exact Fr.refl _ | assumption)
  · have e' : cB 116 = .int .u8 116 := rfl
    have e1 : y.enc.take 4 ++ [AV.int .i64 u] ++ y.enc.drop 5 = (setN y 116 u).enc := rfl
    rw [e']; simp (maxSteps := 4000000) (disch := first | (simp only [qd, qe]; done) | (simp only [qd, qe]; omega) | omega) only [↓JN_eq, CTL3, OPS3, MEM3, List.length_cons, List.length_nil, List.take_zero, List.take_succ_cons, List.drop_zero, List.drop_succ_cons, List.take_nil, List.drop_nil, Nat.reduceAdd, Nat.reduceSub, Nat.reduceLeDiff, Int.reduceLT, Int.reduceLE, Int.reduceEq, cast0, reduceIte, Nat.reduceEqDiff, kp, hg, ew, ev9, e1, evt9, Evt.one', List.append_nil, vr]
    refine ⟨⟨_, true, rfl, by simp [hle, mayN, wordsOf, h0], fun _ => rfl⟩, ?_⟩
    ((repeat (first | refine Fr.alloc ?_ _ | refine Fr.set ?_ (.inr (by first | omega | (simp only [qd, qe]; omega))) _)); first | exact Fr.refl _ | assumption)
  · have e' : cB 108 = .int .u8 108 := rfl
    have e1 : y.enc.take 5 ++ [AV.int .i64 u] ++ y.enc.drop 6 = (setN y 108 u).enc := rfl
    have em : mayN 108 u = decide (0 ≤ u ∧ (5 = 0 ∨ 1 ≤ u ∧ u < 5)) := rfl
    by_cases a1 : 1 ≤ u
    · by_cases a2 : u ≤ 4
      · rw [e']; simp (maxSteps := 4000000) (disch := first | (simp only [qd, qe]; done) | (simp only [qd, qe]; omega) | omega) only [↓JN_eq, CTL3, OPS3, MEM3, List.length_cons, List.length_nil, List.take_zero, List.take_succ_cons, List.drop_zero, List.drop_succ_cons, List.take_nil, List.drop_nil, Nat.reduceAdd, Nat.reduceSub, Nat.reduceLeDiff, Int.reduceLT, Int.reduceLE, Int.reduceEq, cast0, reduceIte, Nat.reduceEqDiff, kp, hg, ew, ev9, e1, evt9, Evt.one', List.append_nil, vr, a1, a2]
        refine ⟨⟨_, true, rfl, by simp [hle, em]; omega, fun _ => rfl⟩, ?_⟩
        ((repeat (first | refine Fr.alloc ?_ _ | refine Fr.set ?_ (.inr (by first | omega | (simp only [qd, qe]; omega))) _)); first | exact Fr.refl _ | assumption)
      · rw [e']; simp (maxSteps := 4000000) (disch := first | (simp only [qd, qe]; done) | (simp only [qd, qe]; omega) | omega) only [↓JN_eq, CTL3, OPS3, MEM3, List.length_cons, List.length_nil, List.take_zero, List.take_succ_cons, List.drop_zero, List.drop_succ_cons, List.take_nil, List.drop_nil, Nat.reduceAdd, Nat.reduceSub, Nat.reduceLeDiff, Int.reduceLT, Int.reduceLE, Int.reduceEq, cast0, reduceIte, Nat.reduceEqDiff, kp, hg, ew, ev9, e1, evt9, Evt.one', List.append_nil, vr, a1, a2]
        refine ⟨⟨_, false, rfl, by simp [em]; omega, fun q => by cases q⟩, ?_⟩
        ((repeat (first | refine Fr.alloc ?_ _ | refine Fr.set ?_ (.inr (by first | omega | (simp only [qd, qe]; omega))) _)); first | exact Fr.refl _ | assumption)
    · rw [e']; simp (maxSteps := 4000000) (disch := first | (simp only [qd, qe]; done) | (simp only [qd, qe]; omega) | omega) only [↓JN_eq, CTL3, OPS3, MEM3, List.length_cons, List.length_nil, List.take_zero, List.take_succ_cons, List.drop_zero, List.drop_succ_cons, List.take_nil, List.drop_nil, Nat.reduceAdd, Nat.reduceSub, Nat.reduceLeDiff, Int.reduceLT, Int.reduceLE, Int.reduceEq, cast0, reduceIte, Nat.reduceEqDiff, kp, hg, ew, ev9, e1, evt9, Evt.one', List.append_nil, vr, a1]
      refine ⟨⟨_, false, rfl, by simp [em]; omega, fun q => by cases q⟩, ?_⟩
      ((repeat (first | refine Fr.alloc ?_ _ | refine Fr.set ?_ (.inr (by first | omega | (simp only [qd, qe]; omega))) _)); first | exact Fr.refl _ | assumption)
  · have e' : cB 97 = .int .u8 97 := rfl
    have e1 : y.enc.take 6 ++ [AV.int .i64 u] ++ y.enc.drop 7 = (setN y 97 u).enc := rfl
    rw [e']; simp (maxSteps := 4000000) (disch := first | (simp only [qd, qe]; done) | (simp only [qd, qe]; omega) | omega) only [↓JN_eq, CTL3, OPS3, MEM3, List.length_cons, List.length_nil, List.take_zero, List.take_succ_cons, List.drop_zero, List.drop_succ_cons, List.take_nil, List.drop_nil, Nat.reduceAdd, Nat.reduceSub, Nat.reduceLeDiff, Int.reduceLT, Int.reduceLE, Int.reduceEq, cast0, reduceIte, Nat.reduceEqDiff, kp, hg, ew, ev9, e1, evt9, Evt.one', List.append_nil, vr]
    refine ⟨⟨_, true, rfl, by simp [hle, mayN, wordsOf, h0], fun _ => rfl⟩, ?_⟩
    ((repeat (first | refine Fr.alloc ?_ _ | refine Fr.set ?_ (.inr (by first | omega | (simp only [qd, qe]; omega))) _)); first | exact Fr.refl _ | assumption)
  · have e' : cB 99 = .int .u8 99 := rfl
    have e1 : y.enc.take 8 ++ [AV.int .i64 u] ++ y.enc.drop 9 = (setN y 99 u).enc := rfl
    have em : mayN 99 u = decide (0 ≤ u ∧ (9 = 0 ∨ 1 ≤ u ∧ u < 9)) := rfl
    by_cases a1 : 1 ≤ u
    · by_cases a2 : u ≤ 8
      · rw [e']; simp (maxSteps := 4000000) (disch := first | (simp only [qd, qe]; done) | (simp only [qd, qe]; omega) | omega) only [↓JN_eq, CTL3, OPS3, MEM3, List.length_cons, List.length_nil, List.take_zero, List.take_succ_cons, List.drop_zero, List.drop_succ_cons, List.take_nil, List.drop_nil, Nat.reduceAdd, Nat.reduceSub, Nat.reduceLeDiff, Int.reduceLT, Int.reduceLE, Int.reduceEq, cast0, reduceIte, Nat.reduceEqDiff, kp, hg, ew, ev9, e1, evt9, Evt.one', List.append_nil, vr, a1, a2]
        refine ⟨⟨_, true, rfl, by simp [hle, em]; omega, fun _ => rfl⟩, ?_⟩
        ((repeat (first | refine Fr.alloc ?_ _ | refine Fr.set ?_ (.inr (by first | omega | (simp only [qd, qe]; omega))) _)); first | exact Fr.refl _ | assumption)
      · rw [e']; simp (maxSteps := 4000000) (disch := first | (simp only [qd, qe]; done) | (simp only [qd, qe]; omega) | omega) only [↓JN_eq, CTL3, OPS3, MEM3, List.length_cons, List.length_nil, List.take_zero, List.take_succ_cons, List.drop_zero, List.drop_succ_cons, List.take_nil, List.drop_nil, Nat.reduceAdd, Nat.reduceSub, Nat.reduceLeDiff, Int.reduceLT, Int.reduceLE, Int.reduceEq, cast0, reduceIte, Nat.reduceEqDiff, kp, hg, ew, ev9, e1, evt9, Evt.one', List.append_nil, vr, a1, a2]
        refine ⟨⟨_, false, rfl, by simp [em]; omega, fun q => by cases q⟩, ?_⟩
        ((repeat (first | refine Fr.alloc ?_ _ | refine Fr.set ?_ (.inr (by first | omega | (simp only [qd, qe]; omega))) _)); first | exact Fr.refl _ | assumption)
    · rw [e']; simp (maxSteps := 4000000) (disch := first | (simp only [qd, qe]; done) | (simp only [qd, qe]; omega) | omega) only [↓JN_eq, CTL3, OPS3, MEM3, List.length_cons, List.length_nil, List.take_zero, List.take_succ_cons, List.drop_zero, List.drop_succ_cons, List.take_nil, List.drop_nil, Nat.reduceAdd, Nat.reduceSub, Nat.reduceLeDiff, Int.reduceLT, Int.reduceLE, Int.reduceEq, cast0, reduceIte, Nat.reduceEqDiff, kp, hg, ew, ev9, e1, evt9, Evt.one', List.append_nil, vr, a1]
      refine ⟨⟨_, false, rfl, by simp [em]; omega, fun q => by cases q⟩, ?_⟩
      ((repeat (first | refine Fr.alloc ?_ _ | refine Fr.set ?_ (.inr (by first | omega | (simp only [qd, qe]; omega))) _)); first | exact Fr.refl _ | assumption)
end Go.Am
namespace Go.Am
open Tr
open Lang (dec)
variable {M : Mac} [MK M]
end Go.Am
namespace Go.Am
open Tr
variable {M : Mac} [MK M]
def RtQ (bs : B) (at' : Nat) (H : AHeap) (v : AV) (H' : AHeap) : Prop := H' = H ∧ ∃ (n : Nat) (nx : Int), v = .tuple [.int .u64 (n : Nat), .int .i64 nx] ∧ n < 18446744073709551616 ∧ ((∃ m : Nat, nx = m ∧ m ≤ bs.length ∧ takeB (bs.drop at') = some (n, bs.drop m)) ∨ (nx = -1 ∧ n = 0 ∧ takeB (bs.drop at') = none))
theorem rtake21 {E : Env} {H : AHeap} {Q : Post3} {i p : Nat} {c : UInt8} {a : AV} (e8 : lk E 8 = some (.int .i64 (i : Int))) (e0 : lk E 0 = some a) (e1 : lk E 1 = some (.int .i64 (p : Int)))
    (wp : wrapI .i64 ((p : Int) + (i : Int)) = ((p + i : Nat) : Int)) (hix : ∃ q, Op.indexSl 1 [a, .int .i64 ((p + i : Nat) : Int)] = some q ∧ Op.load1 [q] H = some (.int .u8 c.toNat))
    (hb : (i = 9 ∧ 1 < c.toNat ∨ 0 < i ∧ c.toNat = 0) → Q .ret ((5, .int .i64 (-1)) :: (4, .int .u64 0) :: E) [] H) (hg : ¬ (i = 9 ∧ 1 < c.toNat ∨ 0 < i ∧ c.toNat = 0) → W M ⟨none, z5⟩ (xl 29) true Q E [] H) :
    W M ⟨none, z5⟩ (xl 21) true Q E [] H := by
  obtain ⟨-, -, -, -, -, -, -, w21, -⟩ := qcb M ⟨none, z5⟩
  obtain ⟨q, ix, lx⟩ := hix
  by_cases h9 : i = 9
  · subst h9
    have e8' : lk E 8 = some (.int .i64 9) := e8
    have wp' : wrapI .i64 ((p : Int) + 9) = ((p + 9 : Nat) : Int) := wp
    by_cases hc : 1 < c.toNat
    · have h1 : (1 : Int) < (c.toNat : Int) := by omega
      simp only [↓JN_eq, CTL3, OPS3, cast0, reduceIte, Nat.reduceEqDiff, w21, e8', e0, e1, wp', ix, lx, h1, Int.reduceEq, Int.reduceLT]
      exact hb (.inl ⟨rfl, hc⟩)
    · have h1 : ¬ (1 : Int) < (c.toNat : Int) := by omega
      by_cases hc0 : c.toNat = 0
      · have h2 : (c.toNat : Int) = 0 := by omega
        have lx' : Op.load1 [q] H = some (.int .u8 0) := by rw [lx, h2]
        simp only [↓JN_eq, CTL3, OPS3, cast0, reduceIte, Nat.reduceEqDiff, w21, e8', e0, e1, wp', ix, lx', Int.reduceEq, Int.reduceLT]
        exact hb (.inr ⟨by omega, hc0⟩)
      · have h2 : ¬ (c.toNat : Int) = 0 := by omega
        simp only [↓JN_eq, CTL3, OPS3, cast0, reduceIte, Nat.reduceEqDiff, w21, e8', e0, e1, wp', ix, lx, h1, h2, Int.reduceEq, Int.reduceLT]
        exact hg (fun q => q.elim (fun q => hc q.2) fun q => hc0 q.2)
  · have n9 : ¬ (i : Int) = 9 := by omega
    by_cases hi0 : 0 < i
    · have h0 : (0 : Int) < (i : Int) := by omega
      by_cases hc0 : c.toNat = 0
      · have h2 : (c.toNat : Int) = 0 := by omega
        have lx' : Op.load1 [q] H = some (.int .u8 0) := by rw [lx, h2]
        simp only [↓JN_eq, CTL3, OPS3, cast0, reduceIte, Nat.reduceEqDiff, w21, e8, e0, e1, wp, ix, lx', n9, h0, Int.reduceEq]
        exact hb (.inr ⟨hi0, hc0⟩)
      · have h2 : ¬ (c.toNat : Int) = 0 := by omega
        simp only [↓JN_eq, CTL3, OPS3, cast0, reduceIte, Nat.reduceEqDiff, w21, e8, e0, e1, wp, ix, lx, n9, h0, h2]
        exact hg (fun q => q.elim (fun q => h9 q.1) fun q => hc0 q.2)
    · have h0 : ¬ (0 : Int) < (i : Int) := by omega
      simp only [↓JN_eq, CTL3, OPS3, cast0, reduceIte, Nat.reduceEqDiff, w21, e8, e0, e1, n9, h0]
      exact hg (fun q => q.elim (fun q => h9 q.1) fun q => hi0 q.1)
theorem qvh {H : AHeap} {a : AV} : CALLQ M z5 [a, .int .i64 (-1)] H (Pu (.tuple [.int .u64 0, .int .i64 (-1)]) H) := by
  refine qlv ?_
  simp only [↓JN_eq, CTL3, OPS3, cast0, reduceIte, Nat.reduceEqDiff, qcb]
  refine LOOP3.intro (fun n E Hx => E = [(8, .int .i64 0), (1, .int .i64 (-1))] ∧ n = 0 ∧ Hx = H) ?_ ?_
  · exact ⟨_, _, ⟨rfl, rfl, rfl⟩, by simp only [↓JN_eq, CTL3, OPS3, cast0, reduceIte, Nat.reduceEqDiff]⟩
  rintro n E Hx ⟨rfl, rfl, rfl⟩
  simp only [↓JN_eq, CTL3, OPS3, cast0, reduceIte, Nat.reduceEqDiff, qcb, Int.reduceLT, Int.reduceLE, Int.reduceNeg]
  exact ⟨rfl, rfl⟩
theorem qib {H : AHeap} {a : AV} {bs : B} {p : Nat} (ha : SlT encB 1 H a bs) (hl : bs.length < 1000000) (hp : p < 2000000) : CALLQ M z5 [a, .int .i64 (p : Int)] H (RtQ bs p H) := by
  refine qlv ?_
  simp only [↓JN_eq, CTL3, OPS3, cast0, reduceIte, Nat.reduceEqDiff, qcb]
  obtain ⟨-, -, -, w41, w11, w17, w40, -, w29, w33⟩ := qcb M ⟨none, z5⟩
  refine LOOP3.intro (fun n E Hx => ∃ (i : Nat) (t : Int), Hx = H ∧ E = [(8, .int .i64 (i : Nat)), (7, .int .u64 t), (6, .int .u64 (soFar (bs.drop p) i : Nat)), (1, .int .i64 (p : Nat)), (0, a)] ∧ n = 10 - i ∧ i ≤ 10 ∧ (i ≤ 9 → t = ((128 ^ i : Nat) : Int)) ∧ takeGo i (soFar (bs.drop p) i) ((bs.drop p).drop i) = takeB (bs.drop p)) ?_ ?_
  · exact ⟨_, _, ⟨0, 1, rfl, rfl, rfl, by omega, fun _ => rfl, rfl⟩, by simp only [↓JN_eq, CTL3, OPS3, cast0, reduceIte, Nat.reduceEqDiff]; rfl⟩
  rintro n E Hx ⟨i, t, rfl, rfl, rfl, hi, ht, hgo⟩
  by_cases h10 : i = 10
  · subst h10
    have e1 : ¬ ((10 : Nat) : Int) < 10 := by decide
    simp only [↓JN_eq, CTL3, OPS3, cast0, reduceIte, Nat.reduceEqDiff, w11, w41, e1]
    refine ⟨rfl, 0, -1, rfl, by omega, .inr ⟨rfl, rfl, ?_⟩⟩
    rw [← hgo]
    cases (bs.drop p).drop 10 <;> simp [takeGo]
  have e1 : (i : Int) < 10 := by omega
  have e2 : (0 : Int) ≤ (p : Int) := by omega
  have wp : wrapI .i64 ((p : Int) + (i : Int)) = ((p + i : Nat) : Int) := by rw [xc (by omega) (by omega)]; omega
  by_cases hlt : p + i < bs.length
  · have e3 : ((p + i : Nat) : Int) < (bs.length : Nat) := by omega
    obtain ⟨c, hc⟩ : ∃ c, bs[p + i]? = some c := ⟨bs[p + i], by simp [hlt]⟩
    have hcd : (bs.drop p)[i]? = some c := by rw [List.getElem?_drop]; exact hc
    rw [qy4 hcd] at hgo
    have lx : Op.load1 [.ptr (slB a) (slO 1 a (p + i))] Hx = some (.int .u8 c.toNat) := by rw [ha.load0 qdl hc (by omega)]; rfl
    have rm : Op.bin .rem [.int .u8 (c.toNat : Int), .int .u8 128] = some (.int .u8 ((c.toNat % 128 : Nat) : Int)) := by
      exact n_rem (by decide)
    have w7 : wrapI .u64 ((c.toNat % 128 : Nat) : Int) = ((c.toNat % 128 : Nat) : Int) := w_u64 (by omega)
    simp only [↓JN_eq, CTL3, OPS3, cast0, reduceIte, Nat.reduceEqDiff, w11, w17, e1, e2, wp, ha.len, e3, ha.idx hc rfl, lx, rm, w7]
    have hdd : (bs.drop p).drop (i + 1) = bs.drop (p + i + 1) := by rw [List.drop_drop]; rfl
    refine rtake21 (a := a) (p := p) (c := c) rfl rfl rfl wp ⟨_, ha.idx hc rfl .i64, lx⟩ (fun hbad => ?_) fun hok => ?_
    · simp only [↓JN_eq, CTL3, OPS3, cast0, reduceIte, Nat.reduceEqDiff]
      refine ⟨rfl, 0, -1, rfl, by omega, .inr ⟨rfl, rfl, ?_⟩⟩
      rw [← hgo]
      rcases hbad with ⟨h9, h1⟩ | ⟨h0, hc0⟩
      · rw [if_pos (.inr ⟨h9, h1⟩)]
      · rw [if_neg (by omega), if_pos (by omega), if_neg (by omega)]
    · rw [if_neg (fun q => q.elim (fun q => h10 q) fun q => hok (.inl q))] at hgo
      have hi9 : i ≤ 9 := by omega
      have ht' := ht hi9
      subst ht'
      have hsf := qsw (bs.drop p) i
      have hstep : soFar (bs.drop p) (i + 1) = soFar (bs.drop p) i + c.toNat % 128 * 128 ^ i := by rw [soFar, hcd]
      have hbig : soFar (bs.drop p) i + c.toNat % 128 * 128 ^ i < 18446744073709551616 := by
        by_cases h9 : i = 9
        · subst h9
          have : (128 : Nat) ^ 9 = 9223372036854775808 := by decide
          rw [this] at hsf ⊢
          have : c.toNat ≤ 1 := by omega
          omega
        · have hp : 128 ^ i ≤ 72057594037927936 := by
            have : 128 ^ i ≤ 128 ^ 8 := Nat.pow_le_pow_right (by decide) (by omega)
            exact Nat.le_trans this (by decide)
          have : c.toNat % 128 * 128 ^ i ≤ 127 * 72057594037927936 := Nat.mul_le_mul (by omega) hp
          omega
      have wm : wrapI .u64 (((c.toNat % 128 : Nat) : Int) * ((128 ^ i : Nat) : Int)) = ((c.toNat % 128 * 128 ^ i : Nat) : Int) := by
        rw [← Int.natCast_mul]; exact w_u64 (by omega)
      have wa : wrapI .u64 (((soFar (bs.drop p) i : Nat) : Int) + ((c.toNat % 128 * 128 ^ i : Nat) : Int)) = ((soFar (bs.drop p) (i + 1) : Nat) : Int) := by
        rw [hstep, ← Int.natCast_add]; exact w_u64 hbig
      have wi : wrapI .i64 ((i : Int) + 1) = ((i + 1 : Nat) : Int) := by rw [xc (by omega) (by omega)]; omega
      have wpi : wrapI .i64 (((p + i : Nat) : Int) + 1) = ((p + i + 1 : Nat) : Int) := by rw [xc (by omega) (by omega)]; omega
      by_cases h128 : c.toNat < 128
      · have k1 : (c.toNat : Int) < 128 := by omega
        rw [if_pos h128, if_pos (by omega)] at hgo
        simp only [↓JN_eq, CTL3, OPS3, cast0, reduceIte, Nat.reduceEqDiff, w29, w33, wm, wa, wp, ha.idx hc rfl, lx, k1, wpi]
        refine ⟨rfl, _, _, rfl, by omega, .inl ⟨p + i + 1, rfl, by omega, ?_⟩⟩
        rw [← hgo, hdd]
      · have k1 : ¬ (c.toNat : Int) < 128 := by omega
        rw [if_neg h128] at hgo
        simp only [↓JN_eq, CTL3, OPS3, cast0, reduceIte, Nat.reduceEqDiff, w29, w33, w40, wm, wa, wp, ha.idx hc rfl, lx, k1, wi]
        refine ⟨_, _, ⟨i + 1, wrapI .u64 (((128 ^ i : Nat) : Int) * 128), rfl, rfl, by omega, fun hi8 => ?_, hgo⟩, by simp only [↓JN_eq, CTL3, OPS3, cast0, reduceIte, Nat.reduceEqDiff], by omega⟩
        have : 128 ^ (i + 1) ≤ 128 ^ 9 := Nat.pow_le_pow_right (by decide) hi8
        have h9 : (128 : Nat) ^ 9 = 9223372036854775808 := by decide
        have e : ((128 ^ i : Nat) : Int) * 128 = ((128 ^ (i + 1) : Nat) : Int) := by rw [Nat.pow_succ]; omega
        rw [e]; exact w_u64 (by omega)
  · have e3 : ¬ ((p + i : Nat) : Int) < (bs.length : Nat) := by omega
    simp only [↓JN_eq, CTL3, OPS3, cast0, reduceIte, Nat.reduceEqDiff, w11, w41, e1, e2, wp, ha.len, e3]
    refine ⟨rfl, 0, -1, rfl, by omega, .inr ⟨rfl, rfl, ?_⟩⟩
    rw [← hgo, show (bs.drop p).drop i = [] from List.drop_eq_nil_of_le (by rw [List.length_drop]; omega), takeGo]
end Go.Am
namespace Go.Am
open Tr Go.Proofs
open Lang (dec dec_lt dec_ge dec_ne)
variable {M : Mac} [MK M]
theorem dec_head {n : Nat} (h : 10 ≤ n) : ∃ c r, dec n = c :: r ∧ 48 < c.toNat := by
  induction n using Nat.strongRecOn with
  | _ n ih =>
    rw [dec_ge h]
    by_cases h2 : n / 10 < 10
    · rw [dec_lt h2]
      exact ⟨_, _, rfl, by rw [ofNat_lt (by omega)]; omega⟩
    · obtain ⟨c, r, h3, h4⟩ := ih (n / 10) (by omega) (by omega)
      rw [h3]; exact ⟨c, _, rfl, h4⟩
theorem dig_dec : ∀ (k : Nat) (s : B), s.length = k + 1 → (∀ c ∈ s, 48 ≤ c.toNat ∧ c.toNat ≤ 57) → (1 < s.length → ∀ c, s[0]? = some c → c.toNat ≠ 48) → s = dec (Tr.valOf s) ∧ (1 < s.length → 10 ≤ Tr.valOf s) := by
  intro k
  induction k with
  | zero =>
    intro s hl hd _
    match s, hl with
    | [c], _ =>
      have := hd c (by simp)
      have e : Tr.valOf [c] = c.toNat - 48 := by show 0 * 10 + (c.toNat - 48) = _; omega
      refine ⟨?_, fun q => by simp at q⟩
      rw [e, dec_lt (by omega), show 48 + (c.toNat - 48) = c.toNat by omega]
      simp
  | succ k ih =>
    intro s hl hd h0
    rcases List.eq_nil_or_concat s with rfl | ⟨t, c, rfl⟩
    · simp at hl
    rw [List.concat_eq_append] at *
    have htl : t.length = k + 1 := by simp at hl; omega
    have hc := hd c (by simp)
    obtain ⟨q1, q2⟩ := ih t htl (fun x hx => hd x (by simp [hx])) (fun h1 x hx => h0 (by simp; omega) x (by rw [List.getElem?_append_left (by omega)]; exact hx))
    have hv : 1 ≤ Tr.valOf t := by
      by_cases h1 : 1 < t.length
      · have := q2 h1; omega
      · match t, htl, h1 with
        | [x], _, _ =>
          have hx := h0 (by simp) x rfl
          have hxd := hd x (by simp)
          show 1 ≤ 0 * 10 + (x.toNat - 48)
          omega
        | x :: y :: r, _, h1 => simp at h1
    have hve := qou t c
    refine ⟨?_, fun _ => by omega⟩
    rw [hve, dec_ge (by omega), show (Tr.valOf t * 10 + (c.toNat - 48)) / 10 = Tr.valOf t by omega, show (Tr.valOf t * 10 + (c.toNat - 48)) % 10 = c.toNat - 48 by omega, ← q1, show 48 + (c.toNat - 48) = c.toNat by omega]
    simp
theorem numS_no {s : B} (h : ∀ m, s = dec m → m < 18446744073709551616 → False) : numS s = none := by
  cases q : numS s with
  | none => rfl
  | some m => exact (h m (qbh.1 q).1 (qbh.1 q).2).elim
theorem qh3 {H : AHeap} {s : B} (h : ∀ m, s = dec m → m < 18446744073709551616 → False) : NumQ s H (.tuple [.int .u64 0, .bool false]) H :=
  ⟨Fr.refl _, 0, false, rfl, by omega, (fun q => nomatch q), fun _ => numS_no h⟩
theorem qhq {H : AHeap} {s : B} : CALLQ M z8 [.str s] H (NumQ s H) := by
  refine qpy ?_
  obtain ⟨w0, w2, w10, w12, w45, w17, w23, w44, w33, w35, w43⟩ := qp1 M ⟨none, z8⟩
  by_cases hl0 : s.length = 0
  · have : s = [] := List.length_eq_zero_iff.1 hl0
    subst this
    have hl : Op.lenStr [.str []] = some (.int .i64 0) := rfl
    simp only [↓JN_eq, CTL3, OPS3, cast0, reduceIte, Nat.reduceEqDiff, w0, w2, hl]
    exact qh3 fun m h _ => dec_ne m h.symm
  have n0 : ¬ ((s.length : Nat) : Int) = 0 := by omega
  by_cases hl20 : 20 < s.length
  · have n20 : (20 : Int) < (s.length : Nat) := by omega
    simp only [↓JN_eq, CTL3, OPS3, cast0, reduceIte, Nat.reduceEqDiff, w0, w2, n0, n20]
    exact qh3 fun m h hm => by have := Lang.dec_len20 hm; rw [← h] at this; omega
  have n20 : ¬ (20 : Int) < (s.length : Nat) := by omega
  obtain ⟨c0, hc0⟩ : ∃ c, s[0]? = some c := ⟨s[0]'(by omega), List.getElem?_eq_getElem (by omega)⟩
  have i0 : Op.indexStr [.str s, .int .i64 0] = some (.int .u8 c0.toNat) := vv (i := 0) rfl hc0
  have main : (1 < s.length → c0.toNat ≠ 48) → W M ⟨none, z8⟩ (qt 10) true (FIN3 M [.tmp 2, .tmp 3] (RT3 (NumQ s H))) [(3, .bool false), (2, .int .u64 0), (0, .str s)] [] H := by
    intro hlead
    simp only [↓JN_eq, CTL3, OPS3, cast0, reduceIte, Nat.reduceEqDiff, w10, w12]
    refine LOOP3.intro (fun n E Hx => ∃ i : Nat, Hx = H ∧ E = [(5, .int .i64 (i : Nat)), (4, .int .u64 (Tr.valOf (s.take i) : Nat)), (0, .str s)] ∧ n = s.length - i ∧ i ≤ s.length ∧ Tr.valOf (s.take i) < 18446744073709551616 ∧ ∀ j, j < i → ∀ c, s[j]? = some c → 48 ≤ c.toNat ∧ c.toNat ≤ 57) ?_ ?_
    · exact ⟨_, _, ⟨0, rfl, rfl, rfl, by omega, by show 0 < _; omega, fun j hj => by omega⟩, by simp only [↓JN_eq, CTL3, OPS3, cast0, reduceIte, Nat.reduceEqDiff]; rfl⟩
    rintro n E Hx ⟨i, rfl, rfl, rfl, hi, hv, hdg⟩
    by_cases hlt : i < s.length
    · have e1 : (i : Int) < (s.length : Nat) := by omega
      obtain ⟨c, hc⟩ : ∃ c, s[i]? = some c := ⟨s[i], by simp [hlt]⟩
      have ix : Op.indexStr [.str s, .int .i64 (i : Int)] = some (.int .u8 c.toNat) := vv rfl hc
      have hno : ¬ (48 ≤ c.toNat ∧ c.toNat ≤ 57) → ∀ m, s = dec m → m < 18446744073709551616 → False := fun q m hm _ => q (qug m c (hm ▸ List.mem_of_getElem? hc))
      have wi : wrapI .i64 ((i : Int) + 1) = ((i + 1 : Nat) : Int) := by rw [xc (by omega) (by omega)]; omega
      by_cases d1 : c.toNat < 48
      · have k1 : (c.toNat : Int) < 48 := by omega
        simp only [↓JN_eq, CTL3, OPS3, cast0, reduceIte, Nat.reduceEqDiff, w17, w23, e1, ix, k1]
        exact qh3 (hno (by omega))
      have k1 : ¬ (c.toNat : Int) < 48 := by omega
      by_cases d2 : 57 < c.toNat
      · have k2 : (57 : Int) < (c.toNat : Int) := by omega
        simp only [↓JN_eq, CTL3, OPS3, cast0, reduceIte, Nat.reduceEqDiff, w17, w23, e1, ix, k1, k2]
        exact qh3 (hno (by omega))
      have k2 : ¬ (57 : Int) < (c.toNat : Int) := by omega
      have wd : wrapI .u8 ((c.toNat : Int) - 48) = ((c.toNat - 48 : Nat) : Int) := by rw [qr9 (by omega) (by omega)]; omega
      have wdu : wrapI .u64 ((c.toNat - 48 : Nat) : Int) = ((c.toNat - 48 : Nat) : Int) := w_u64 (by omega)
      have ws : wrapI .u64 (18446744073709551615 - ((c.toNat - 48 : Nat) : Int)) = ((18446744073709551615 - (c.toNat - 48) : Nat) : Int) := by rw [qeo (by omega) (by omega)]; omega
      have wq : Op.bin .quo [.int .u64 ((18446744073709551615 - (c.toNat - 48) : Nat) : Int), .int .u64 10] = some (.int .u64 (((18446744073709551615 - (c.toNat - 48)) / 10 : Nat) : Int)) := q1n (b := 10) (by decide) (by omega)
      have hvs := qqu hc
      by_cases hbig : (18446744073709551615 - (c.toNat - 48)) / 10 < Tr.valOf (s.take i)
      · have k3 : (((18446744073709551615 - (c.toNat - 48)) / 10 : Nat) : Int) < (Tr.valOf (s.take i) : Nat) := by omega
        simp only [↓JN_eq, CTL3, OPS3, cast0, reduceIte, Nat.reduceEqDiff, w17, w23, w33, w35, e1, ix, k1, k2, wd, wdu, ws, wq, k3]
        refine qh3 fun m hm hlm => ?_
        have := qri s (i + 1)
        rw [hvs, hm, qkv, ← hm] at this
        omega
      · have k3 : ¬ (((18446744073709551615 - (c.toNat - 48)) / 10 : Nat) : Int) < (Tr.valOf (s.take i) : Nat) := by omega
        have wm : wrapI .u64 (10 * ((Tr.valOf (s.take i) : Nat) : Int)) = ((Tr.valOf (s.take i) * 10 : Nat) : Int) := by rw [qeo (by omega) (by omega)]; omega
        have wa : wrapI .u64 (((Tr.valOf (s.take i) * 10 : Nat) : Int) + ((c.toNat - 48 : Nat) : Int)) = ((Tr.valOf (s.take (i + 1)) : Nat) : Int) := by rw [hvs, qeo (by omega) (by omega)]; omega
        simp only [↓JN_eq, CTL3, OPS3, cast0, reduceIte, Nat.reduceEqDiff, w17, w23, w33, w35, w43, w44, e1, ix, k1, k2, wd, wdu, ws, wq, k3, wm, wa, wi]
        refine ⟨_, _, ⟨i + 1, rfl, rfl, by omega, by omega, fun j hj x hx => ?_⟩, by simp only [↓JN_eq, CTL3, OPS3, cast0, reduceIte, Nat.reduceEqDiff], by omega⟩
        by_cases hji : j = i
        · subst hji; rw [hc] at hx; injection hx with hx; subst hx; omega
        · exact hdg j (by omega) x hx
    · have hi : i = s.length := by omega
      subst hi
      have e1 : ¬ ((s.length : Nat) : Int) < (s.length : Nat) := by omega
      rw [List.take_length] at hv ⊢
      simp only [↓JN_eq, CTL3, OPS3, cast0, reduceIte, Nat.reduceEqDiff, w17, w45, e1]
      have hall : ∀ c ∈ s, 48 ≤ c.toNat ∧ c.toNat ≤ 57 := fun c hc => by
        obtain ⟨j, hj⟩ := List.getElem?_of_mem hc
        exact hdg j (List.getElem?_eq_some_iff.1 hj).1 c hj
      obtain ⟨q1, -⟩ := dig_dec (s.length - 1) s (by omega) hall (fun h1 c hc => by rw [hc0] at hc; injection hc with hc; subst hc; exact hlead h1)
      exact ⟨Fr.refl _, _, true, rfl, hv, fun _ => qbh.2 ⟨q1, hv⟩, fun q => nomatch q⟩
  by_cases hl1 : 1 < s.length
  · have n1 : (1 : Int) < (s.length : Nat) := by omega
    by_cases hz : c0.toNat = 48
    · have k1 : (c0.toNat : Int) = 48 := by omega
      have i0' : Op.indexStr [.str s, .int .i64 0] = some (.int .u8 48) := by rw [i0, k1]
      simp only [↓JN_eq, CTL3, OPS3, cast0, reduceIte, Nat.reduceEqDiff, w0, w2, n0, n20, n1, i0', Int.reduceEq]
      refine qh3 fun m hm _ => ?_
      by_cases h10 : 10 ≤ m
      · obtain ⟨c, r, h1, h2⟩ := dec_head h10
        rw [← hm] at h1
        rw [h1] at hc0
        injection hc0 with hc0
        subst hc0; omega
      · rw [dec_lt (by omega)] at hm
        rw [hm] at hl1; simp at hl1
    · have k1 : ¬ (c0.toNat : Int) = 48 := by omega
      simp only [↓JN_eq, CTL3, OPS3, cast0, reduceIte, Nat.reduceEqDiff, w0, w2, n0, n20, n1, i0, k1]
      exact main fun _ => hz
  · have n1 : ¬ (1 : Int) < (s.length : Nat) := by omega
    simp only [↓JN_eq, CTL3, OPS3, cast0, reduceIte, Nat.reduceEqDiff, w0, w2, n0, n20, n1]
    exact main fun q => (hl1 q).elim
end Go.Am
namespace Go.Am
open Tr Go.Proofs
variable {M : Mac} [MK M]
theorem qny {H : AHeap} {s : B} {c : UInt8} (hl : s.length < 1000000) : CALLQ M js [.str s, .int .u8 c.toNat] H fun v H' => NewW H H' v (splitB c s) := by
  refine qsb ?_
  obtain ⟨w0, w4, w6, w27, w11, w17, w26⟩ := qr5 M ⟨none, js⟩
  simp only [↓JN_eq, CTL3, OPS3, cast0, reduceIte, Nat.reduceEqDiff, w0, w4, w6]
  refine LOOP3.intro (fun n E Hx => ∃ (i f : Nat) (w : AV) (out : List B), E = [(7, .int .i64 (i : Nat)), (6, .int .i64 (f : Nat)), (5, w), (1, .int .u8 c.toNat), (0, .str s)] ∧ n = s.length - i ∧ f ≤ i ∧ i ≤ s.length ∧ NewW H Hx w out ∧ out.length ≤ i ∧ c ∉ (s.take i).drop f ∧ splitB c s = out ++ splitB c (s.drop f)) ?_ ?_
  · exact ⟨_, _, ⟨0, 0, .nils, [], rfl, rfl, Nat.le_refl _, Nat.zero_le _, New.nil H, Nat.le_refl _, by simp, by simp⟩, by simp only [↓JN_eq, CTL3, OPS3, cast0, reduceIte, Nat.reduceEqDiff]⟩
  rintro n E Hx ⟨i, f, w, out, rfl, rfl, hf, hi, hw, hol, hno, hsp⟩
  by_cases hlt : i < s.length
  · have e1 : (i : Int) < (s.length : Nat) := by omega
    obtain ⟨d, hd⟩ : ∃ d, s[i]? = some d := ⟨s[i], by simp [hlt]⟩
    have ix : Op.indexStr [.str s, .int .i64 (i : Int)] = some (.int .u8 d.toNat) := vv rfl hd
    have wi : wrapI .i64 ((i : Int) + 1) = ((i + 1 : Nat) : Int) := by rw [xc (by omega) (by omega)]; omega
    by_cases hdc : d = c
    · subst hdc
      have f1 : Op.sliceStr [some 0, some 1] [.str s, .int .i64 (f : Int), .int .i64 (i : Int)] = some (.str ((s.take i).drop f)) := qjc hf hi
      simp only [↓JN_eq, CTL3, OPS3, cast0, reduceIte, Nat.reduceEqDiff, w11, w17, e1, ix, f1]
      refine hw.app4 (bytes := 16) (a := (s.take i).drop f) rfl rfl rfl rfl (by decide) (by omega) (by omega) fun v' H2 hv' hf2 => ?_
      simp only [↓JN_eq, CTL3, OPS3, cast0, reduceIte, Nat.reduceEqDiff, w26, wi]
      refine ⟨_, _, ⟨i + 1, i + 1, v', out ++ [(s.take i).drop f], rfl, rfl, Nat.le_refl _, hlt, hv', by simp; omega, ?_, ?_⟩, by simp only [↓JN_eq, CTL3, OPS3, cast0, reduceIte, Nat.reduceEqDiff], by omega⟩
      · rw [List.drop_eq_nil_of_le (by rw [List.length_take]; omega)]; simp
      · have e : s.drop f = (s.take i).drop f ++ d :: s.drop (i + 1) := by
          conv => lhs; rw [← List.take_append_drop i s, List.drop_append_of_le_length (by rw [List.length_take]; omega), List.drop_eq_getElem_cons hlt]
          congr 2
          simpa [hlt] using hd
        rw [hsp, e, qeb _ _ _ hno, List.append_assoc]; rfl
    · have hdn : ¬ (d.toNat : Int) = (c.toNat : Int) := fun q => hdc (UInt8.toNat_inj.1 (by omega))
      simp only [↓JN_eq, CTL3, OPS3, cast0, reduceIte, Nat.reduceEqDiff, w11, w17, w26, e1, ix, hdn, wi]
      refine ⟨_, _, ⟨i + 1, f, w, out, rfl, rfl, by omega, hlt, hw, by omega, ?_, hsp⟩, by simp only [↓JN_eq, CTL3, OPS3, cast0, reduceIte, Nat.reduceEqDiff], by omega⟩
      rw [List.take_add_one, hd, List.drop_append_of_le_length (by rw [List.length_take]; omega)]
      simp [hno, Ne.symm hdc]
  · have hi : i = s.length := by omega
    subst hi
    have e1 : ¬ ((s.length : Nat) : Int) < (s.length : Nat) := by omega
    rw [List.take_length] at hno
    rw [qhk c _ hno] at hsp
    simp only [↓JN_eq, CTL3, OPS3, cast0, reduceIte, Nat.reduceEqDiff, w11, w27, e1, qgk hf]
    refine hw.app4 (bytes := 16) (a := s.drop f) rfl rfl rfl rfl (by decide) (by omega) (by omega) fun v' H2 hv' hf2 => ?_
    simp only [↓JN_eq, CTL3, OPS3, cast0, reduceIte, Nat.reduceEqDiff]
    rw [hsp]; exact hv'
end Go.Am
namespace Go.Am
open Tr Go.Proofs
variable {M : Mac} [MK M]
theorem qwt {Hc : AHeap} {E : Env} {Q : Post3} {a w : AV} {bs : B} {k : Nat} {y0 : Evt} {e0 b11 : Nat} {O : Option (Evt × B)} (ha : SlT encB 1 Hc a bs) (hl : bs.length < 1000000) (hab : slB a ≠ b11) (h11 : Hc.get b11 = some (OR y0.enc qb)) (hb : b11 < Hc.next) (he0 : e0 ≤ bs.length) (hgo : goTake (named k) y0 (bs.drop e0) = O)
    (q0 : lk E 0 = some a) (q4 : lk E 4 = some w) (q10 : lk E 10 = some (.int .i64 (e0 : Int))) (q11 : lk E 11 = some (.ptr b11 0)) (q12 : lk E 12 = some (.str (named k)))
    (hbad : ∀ E' H', Fr (On b11) Hc H' → O = none → Q .ret ((3, .int .i64 230) :: (2, .nils) :: E') [] H')
    (hgood : ∀ E' H' (y : Evt) (m : Nat), Fr (On b11) Hc H' → O = some (y, bs.drop m) → m ≤ bs.length → H'.get b11 = some (OR y.enc qb) → lk E' 0 = some a → lk E' 4 = some w → lk E' 10 = some (.int .i64 (m : Int)) → lk E' 11 = some (.ptr b11 0) → W M ⟨none, za⟩ (qh 63) true Q E' [] H') :
    W M ⟨none, za⟩ (qh 34) true Q E [] Hc := by
  obtain ⟨-, -, -, -, -, -, -, -, -, w34, w63, w39, w45, w62, w51, w59⟩ := qe7 M ⟨none, za⟩
  obtain ⟨s, hs⟩ : ∃ s, s = named k := ⟨_, rfl⟩
  rw [← hs] at hgo q12
  have hsl : s.length ≤ 4 := by rw [hs]; unfold named; (repeat' split) <;> decide
  simp only [↓JN_eq, CTL3, OPS3, cast0, reduceIte, Nat.reduceEqDiff, w34]
  refine LOOP3.intro (fun n E Hx => ∃ (q m : Nat) (y : Evt), E = [(13, .int .i64 (q : Nat)), (12, .str s), (11, .ptr b11 0), (10, .int .i64 (m : Nat)), (4, w), (0, a)] ∧ n = s.length - q ∧ q ≤ s.length ∧ m ≤ bs.length ∧ Fr (On b11) Hc Hx ∧ Hx.get b11 = some (OR y.enc qb) ∧ goTake (s.drop q) y (bs.drop m) = O) ?_ ?_
  · exact ⟨_, _, ⟨0, e0, y0, rfl, rfl, Nat.zero_le _, he0, Fr.refl _, h11, hgo⟩, by simp only [↓JN_eq, CTL3, OPS3, cast0, reduceIte, Nat.reduceEqDiff, q0, q4, q10, q11, q12]⟩
  rintro n E Hx ⟨q, m, y, rfl, rfl, hq, hm, hf, g11, hgo⟩
  have hbx : b11 < Hx.next := Nat.lt_of_lt_of_le hb hf.next
  by_cases hlt : q < s.length
  · have e1 : (q : Int) < (s.length : Nat) := by omega
    obtain ⟨l, hl'⟩ : ∃ l, s[q]? = some l := ⟨s[q], by simp [hlt]⟩
    obtain ⟨hil, -⟩ := qjv (hs ▸ List.mem_of_getElem? hl' : l ∈ named k)
    have hd : s.drop q = l :: s.drop (q + 1) := by rw [List.drop_eq_getElem_cons hlt]; congr 1; simpa [hlt] using hl'
    rw [hd, goTake] at hgo
    have hax : SlT encB 1 Hx a bs := ha.fr hf hab
    have ix : Op.indexStr [.str s, .int .i64 (q : Int)] = some (.int .u8 l.toNat) := vv rfl hl'
    have wq : wrapI .i64 ((q : Int) + 1) = ((q + 1 : Nat) : Int) := by rw [xc (by omega) (by omega)]; omega
    simp only [↓JN_eq, CTL3, OPS3, cast0, reduceIte, Nat.reduceEqDiff, w39, w45, e1]
    refine C3.q (qib (M := M) hax hl (by omega)) fun v H1 ⟨hH, nn, nx, hv, hnn, hor⟩ => ?_
    subst hv; subst hH
    simp only [↓JN_eq, CTL3, OPS3, cast0, reduceIte, Nat.reduceEqDiff, qg, ld_ev g11, ix]
    refine C3.q (qt1 (M := M) hil (show (0 : Int) ≤ (nn : Nat) by omega) (by omega)) fun v H2 ⟨⟨z, qq, hv, hz1, hz2⟩, hf2⟩ => ?_
    subst hv
    have hst : Op.store 9 [.ptr H2.next 0, .agg z.enc] (H2.alloc (OR zE.enc qb)) = some (.undef, (H2.alloc (OR zE.enc qb)).set H2.next (OR z.enc qb)) := st_ev (qn ..)
    have hf3 : Fr Em H1 ((H2.alloc (OR zE.enc qb)).set H2.next (OR z.enc qb)) := (hf2.alloc _).set (.inr hf2.next) _
    have g16 : ((H2.alloc (OR zE.enc qb)).set H2.next (OR z.enc qb)).get H2.next = some (OR z.enc qb) := ql ..
    rw [qe4] at hst hf3 g16
    simp only [↓JN_eq, CTL3, OPS3, cast0, reduceIte, Nat.reduceEqDiff, qg, hst]
    generalize (H2.alloc (OR [.int .i64 0, .int .i64 0, .int .i64 0, .int .i64 0, .int .i64 0, .int .i64 0, .int .i64 0, .int .u64 0, .int .i64 0] qb)).set H2.next (OR z.enc qb) = H3 at *
    have g113 : H3.get b11 = some (OR y.enc qb) := by rw [hf3.keep _ hbx id, g11]
    have hfc := hf.em hf3
    rcases hor with ⟨m', rfl, hm', htk⟩ | ⟨rfl, hn0, htk⟩
    · rw [htk] at hgo
      simp only at hgo
      have k1 : ¬ (m' : Int) < 0 := by omega
      have hmay : l = 118 → mayN l nn = true := fun h => by rw [h]; rfl
      cases qq with
      | true =>
        have hz := hz2 rfl
        subst hz
        have hcond : (l = 118 ∨ nn < 9223372036854775808) ∧ mayN l nn = true := by
          rcases hz1.1 rfl with h | ⟨h, h'⟩
          · exact ⟨.inl h, hmay h⟩
          · exact ⟨.inr (by omega), h'⟩
        rw [if_pos hcond] at hgo
        simp only [↓JN_eq, CTL3, OPS3, cast0, reduceIte, Nat.reduceEqDiff, w51, w59, w62, k1, ld_ev g16, st_ev g113, wq]
        exact ⟨_, _, ⟨q + 1, m', setN y l nn, rfl, rfl, hlt, hm', hfc.set (W := On b11) (.inl rfl) _, ql .., hgo⟩, by simp only [↓JN_eq, CTL3, OPS3, cast0, reduceIte, Nat.reduceEqDiff], by omega⟩
      | false =>
        have hcond : ¬ ((l = 118 ∨ nn < 9223372036854775808) ∧ mayN l nn = true) := fun h => by
          have : false = true := hz1.2 (by
            by_cases h1 : l = 118
            · exact .inl h1
            · exact .inr ⟨by have := h.1.resolve_left h1; omega, h.2⟩)
          cases this
        rw [if_neg hcond] at hgo
        simp only [↓JN_eq, CTL3, OPS3, cast0, reduceIte, Nat.reduceEqDiff, w51, k1]
        exact hbad _ _ hfc hgo.symm
    · rw [htk] at hgo
      simp only [↓JN_eq, CTL3, OPS3, cast0, reduceIte, Nat.reduceEqDiff, w51, Int.reduceLT, Int.reduceNeg]
      exact hbad _ _ hfc hgo.symm
  · have hq : q = s.length := by omega
    subst hq
    have e1 : ¬ ((s.length : Nat) : Int) < (s.length : Nat) := by omega
    rw [List.drop_length, goTake] at hgo
    simp only [↓JN_eq, CTL3, OPS3, cast0, reduceIte, Nat.reduceEqDiff, w39, e1]
    exact hgood _ _ y m hf hgo.symm hm g11 rfl rfl rfl rfl
end Go.Am
namespace Go.Am
open Tr Go.Proofs
variable {M : Mac} [MK M]
theorem qvi {H : AHeap} {a : AV} {bs : B} (ha : SlT encB 1 H a bs) (hl : bs.length < 1000000) : CALLQ M za [a] H (DecQ H (decB bs.length bs)) := by
  refine qqr ?_
  obtain ⟨w0, w4, w6, w66, w9, w15, w20, w22, w30, -⟩ := qe7 M ⟨none, za⟩
  simp only [↓JN_eq, CTL3, OPS3, cast0, reduceIte, Nat.reduceEqDiff, w0, w4, w6]
  refine LOOP3.intro (fun n E Hx => ∃ (i k : Nat) (w : AV) (xs : List Evt), E = [(5, .int .i64 (i : Nat)), (4, w), (0, a)] ∧ n = bs.length - i ∧ i ≤ bs.length ∧ NewE H Hx w xs ∧ xs.length ≤ i ∧ bs.length - i ≤ k ∧ decB bs.length bs = (decB k (bs.drop i)).map (xs ++ ·)) ?_ ?_
  · exact ⟨_, _, ⟨0, bs.length, .nils, [], rfl, rfl, Nat.zero_le _, New.nil H, Nat.le_refl _, by omega, by simp⟩, by simp only [↓JN_eq, CTL3, OPS3, cast0, reduceIte, Nat.reduceEqDiff]⟩
  rintro n E Hx ⟨i, k, w, xs, rfl, rfl, hi, hw, hxl, hk, hdec⟩
  have hax := ha.em hw.fr
  by_cases hlt : i < bs.length
  · have e1 : (i : Int) < (bs.length : Nat) := by omega
    obtain ⟨c, hc⟩ : ∃ c, bs[i]? = some c := ⟨bs[i], by simp [hlt]⟩
    have hd : bs.drop i = c :: bs.drop (i + 1) := by rw [List.drop_eq_getElem_cons hlt]; congr 1; simpa [hlt] using hc
    obtain ⟨k, rfl⟩ : ∃ k', k = k' + 1 := ⟨k - 1, by omega⟩
    rw [qt3 (by rw [hd]; simp)] at hdec
    have hone : oneB (bs.drop i) = if 1 ≤ c.toNat ∧ c.toNat ≤ 8 then (match takeB (bs.drop (i + 1)) with
        | none => none
        | some (c', b1) => match takeB b1 with
          | none => none
          | some (t, b2) => if c' < 4 ∧ t < 9223372036854775808 then goTake (named c.toNat) (fresh c.toNat c' t) b2 else none) else none := by
      rw [hd, oneB]; rfl
    have lx : Op.load1 [.ptr (slB a) (slO 1 a i)] Hx = some (.int .u8 c.toNat) := by rw [hax.load0 qdl hc (by omega)]; rfl
    have wk : wrapI .i64 ((c.toNat : Nat) : Int) = ((c.toNat : Nat) : Int) := w_i64 (by have := c.toNat_lt; omega)
    have wi : wrapI .i64 ((i : Int) + 1) = ((i + 1 : Nat) : Int) := by rw [xc (by omega) (by omega)]; omega
    have hne : bs ≠ [] := fun q => by rw [q] at hlt; simp at hlt
    have hbnd := ha.bnd hne
    simp only [↓JN_eq, CTL3, OPS3, cast0, reduceIte, Nat.reduceEqDiff, w9, w15, hax.len, e1, hax.idx hc rfl, lx, wk, wi]
    refine C3.q (qib (M := M) hax hl (by omega)) fun v H1 ⟨hH, n1, x1, hv, hn1, hor1⟩ => ?_
    subst hv; subst hH
    simp only [↓JN_eq, CTL3, OPS3, cast0, reduceIte, Nat.reduceEqDiff, w20, qg]
    have bad : oneB (bs.drop i) = none → DecQ H (decB bs.length bs) (.tuple [.nils, .int .i64 230]) H1 := fun q => .inr ⟨by rw [hdec, q]; rfl, rfl, hw.fr⟩
    by_cases c1 : 1 ≤ c.toNat ∧ c.toNat ≤ 8
    · rw [if_pos c1] at hone
      have k1 : ¬ (c.toNat : Int) < 1 := by omega
      have k2 : ¬ (8 : Int) < (c.toNat : Int) := by omega
      rcases hor1 with ⟨m1, rfl, hm1, htk1⟩ | ⟨rfl, -, htk1⟩
      · rw [htk1] at hone
        simp only at hone
        have k3 : ¬ (m1 : Int) < 0 := by omega
        refine C3.q (qib (M := M) hax hl (by omega)) fun v H2 ⟨hH, n2, x2, hv, hn2, hor2⟩ => ?_
        subst hv; subst hH
        simp only [↓JN_eq, CTL3, OPS3, cast0, reduceIte, Nat.reduceEqDiff, qg]
        rcases hor2 with ⟨m2, rfl, hm2, htk2⟩ | ⟨rfl, -, htk2⟩
        · rw [htk2] at hone
          simp only at hone
          have k4 : ¬ (m2 : Int) < 0 := by omega
          by_cases d1 : n1 < 4
          · have d1' : ¬ (4 : Int) ≤ (n1 : Int) := by omega
            by_cases d2 : n2 < 9223372036854775808
            · have d2' : ¬ (9223372036854775807 : Int) < (n2 : Int) := by omega
              rw [if_pos ⟨d1, d2⟩] at hone
              have w1 : wrapI .i64 (n1 : Int) = (n1 : Int) := xc (by omega) (by omega)
              have w2 : wrapI .i64 (n2 : Int) = (n2 : Int) := xc (by omega) (by omega)
              simp only [↓JN_eq, CTL3, OPS3, cast0, reduceIte, Nat.reduceEqDiff, w22, w30, k1, k2, k3, k4, d1', d2', w1, w2]
              refine C3.q (qok (M := M)) fun v H3 ⟨hv, hf3⟩ => ?_
              subst hv
              have hst : Op.store 9 [.ptr H3.next 0, .agg (fresh (c.toNat : Nat) n1 n2).enc] (H3.alloc (OR zE.enc qb)) = some (.undef, (H3.alloc (OR zE.enc qb)).set H3.next (OR (fresh (c.toNat : Nat) n1 n2).enc qb)) := st_ev (qn ..)
              have hf4 : Fr Em H2 ((H3.alloc (OR zE.enc qb)).set H3.next (OR (fresh (c.toNat : Nat) n1 n2).enc qb)) := (hf3.alloc _).set (.inr hf3.next) _
              have g11 : ((H3.alloc (OR zE.enc qb)).set H3.next (OR (fresh (c.toNat : Nat) n1 n2).enc qb)).get H3.next = some (OR (fresh (c.toNat : Nat) n1 n2).enc qb) := ql ..
              have hn4 : ((H3.alloc (OR zE.enc qb)).set H3.next (OR (fresh (c.toNat : Nat) n1 n2).enc qb)).next = H3.next + 1 := rfl
              rw [qe4] at hst hf4 g11 hn4
              simp only [↓JN_eq, CTL3, OPS3, cast0, reduceIte, Nat.reduceEqDiff, hst]
              generalize (H3.alloc (OR [.int .i64 0, .int .i64 0, .int .i64 0, .int .i64 0, .int .i64 0, .int .i64 0, .int .i64 0, .int .u64 0, .int .i64 0] qb)).set H3.next (OR (fresh (c.toNat : Nat) n1 n2).enc qb) = H4 at *
              refine C3.q (qo3 (M := M) (show (1 : Int) ≤ (c.toNat : Nat) by omega) (by omega)) fun v H5 ⟨hv, hf5⟩ => ?_
              subst hv
              have hw5 : NewE H H5 w xs := (hw.em hf4).em hf5
              have hn23 := hf3.next
              have hn5 := hf5.next
              have hnw : ¬ OnS w H3.next := fun q => by have := Own.lt hw.own _ q; omega
              have hn02 := hw.fr.next
              refine qwt (a := a) (w := w) (bs := bs) (k := c.toNat) (e0 := m2) (b11 := H3.next) (ha.em hw5.fr) hl (by omega) ((hf5.keep _ (by omega) id).trans g11) (by omega) hm2 hone.symm rfl rfl rfl rfl rfl (fun E' H' hf6 hO => ?_) fun E' H' y m hf6 hO hm g6 q0 q4 q10 q11 => ?_
              · simp only [↓JN_eq, CTL3, OPS3, cast0, reduceIte, Nat.reduceEqDiff]
                exact .inr ⟨by rw [hdec, hO]; rfl, rfl, (hw5.off (by omega) hnw hf6).fr⟩
              · obtain ⟨-, -, -, -, -, -, -, -, -, -, w63, -⟩ := qe7 M ⟨none, za⟩
                have hlt2 : i < m := by
                  have h1 := (qtr hO).1
                  have h2 : 0 < (encE y).length := by cases h : encE y with
                    | nil => exact absurd h (qxb y)
                    | cons => simp
                  have h3 := congrArg List.length h1
                  rw [List.length_append, List.length_drop, List.length_drop] at h3
                  omega
                rw [hO] at hdec
                simp only at hdec
                have hw6 := hw5.off (by omega) hnw hf6
                simp only [↓JN_eq, CTL3, OPS3, cast0, reduceIte, Nat.reduceEqDiff, w63, q4, q11, ld_ev g6]
                refine hw6.app4 (bytes := 72) (a := y) rfl rfl rfl rfl (by omega) (by omega) (by omega) fun v' H7 hv' hf7 => ?_
                simp only [↓JN_eq, CTL3, OPS3, cast0, reduceIte, Nat.reduceEqDiff, q10]
                refine ⟨_, _, ⟨m, k, v', xs ++ [y], rfl, rfl, hm, hv', by simp; omega, by omega, ?_⟩, by simp only [↓JN_eq, CTL3, OPS3, cast0, reduceIte, Nat.reduceEqDiff, q0], by omega⟩
                rw [hdec]; cases decB k (bs.drop m) <;> simp
            · have d2' : (9223372036854775807 : Int) < (n2 : Int) := by omega
              rw [if_neg (fun q => d2 q.2)] at hone
              simp only [↓JN_eq, CTL3, OPS3, cast0, reduceIte, Nat.reduceEqDiff, w22, k1, k2, k3, k4, d1', d2']
              exact bad hone
          · have d1' : (4 : Int) ≤ (n1 : Int) := by omega
            rw [if_neg (fun q => d1 q.1)] at hone
            simp only [↓JN_eq, CTL3, OPS3, cast0, reduceIte, Nat.reduceEqDiff, w22, k1, k2, k3, k4, d1']
            exact bad hone
        · rw [htk2] at hone
          simp only [↓JN_eq, CTL3, OPS3, cast0, reduceIte, Nat.reduceEqDiff, w22, k1, k2, k3, Int.reduceLT, Int.reduceNeg]
          exact bad hone
      · rw [htk1] at hone
        refine C3.q (qvh (M := M)) fun v H2 ⟨hv, hH⟩ => ?_
        subst hv; subst hH
        simp only [↓JN_eq, CTL3, OPS3, cast0, reduceIte, Nat.reduceEqDiff, qg, w22, k1, k2, Int.reduceLT, Int.reduceNeg]
        exact bad hone
    · rw [if_neg c1] at hone
      have fin : ∀ (E' : Env), lk E' 6 = some (.int .i64 (c.toNat : Nat)) → W M ⟨none, za⟩ (qh 22) true (BLK3 1 (LQ3 (fun n E Hx => ∃ (i k : Nat) (w : AV) (xs : List Evt), E = [(5, .int .i64 (i : Nat)), (4, w), (0, a)] ∧ n = bs.length - i ∧ i ≤ bs.length ∧ NewE H Hx w xs ∧ xs.length ≤ i ∧ bs.length - i ≤ k ∧ decB bs.length bs = (decB k (bs.drop i)).map (xs ++ ·)) [] (bs.length - i) (BLK3 0 (SEQ3 (W M ⟨none, za⟩ (qh 66)) (FIN3 M [.tmp 2, .tmp 3] (RT3 (DecQ H (decB bs.length bs)))))))) E' [] H1 := by
        intro E' q6
        by_cases d0 : c.toNat < 1
        · have k1 : (c.toNat : Int) < 1 := by omega
          simp only [↓JN_eq, CTL3, OPS3, cast0, reduceIte, Nat.reduceEqDiff, w22, q6, k1]
          exact bad hone
        · have k1 : ¬ (c.toNat : Int) < 1 := by omega
          have k2 : (8 : Int) < (c.toNat : Int) := by omega
          simp only [↓JN_eq, CTL3, OPS3, cast0, reduceIte, Nat.reduceEqDiff, w22, q6, k1, k2]
          exact bad hone
      rcases hor1 with ⟨m1, rfl, hm1, htk1⟩ | ⟨rfl, -, htk1⟩
      · refine C3.q (qib (M := M) hax hl (by omega)) fun v H2 ⟨hH, n2, x2, hv, hn2, hor2⟩ => ?_
        subst hv; subst hH
        simp only [↓JN_eq, CTL3, OPS3, cast0, reduceIte, Nat.reduceEqDiff, qg]
        exact fin _ rfl
      · refine C3.q (qvh (M := M)) fun v H2 ⟨hv, hH⟩ => ?_
        subst hv; subst hH
        simp only [↓JN_eq, CTL3, OPS3, cast0, reduceIte, Nat.reduceEqDiff, qg]
        exact fin _ rfl
  · have hi : i = bs.length := by omega
    subst hi
    have e1 : ¬ ((bs.length : Nat) : Int) < (bs.length : Nat) := by omega
    have hd : decB k [] = some [] := by cases k <;> rfl
    rw [List.drop_length, hd] at hdec
    simp only [↓JN_eq, CTL3, OPS3, cast0, reduceIte, Nat.reduceEqDiff, w9, w66, hax.len, e1]
    exact .inl ⟨xs, w, by simpa using hdec, rfl, hw⟩
end Go.Am
