/- TrW3: TxA TxB TxC TxD TxE. -/
import Derived.Test.YtkfheegmlgfdoaaDoorAmCodeW
import Derived.Test.YtkfheegmlgfdoaaDoorAmTrW2
namespace Go.Am
set_option linter.unusedVariables false
set_option linter.unusedSimpArgs false
set_option linter.unusedSectionVars false
set_option maxRecDepth 100000
open Tr
open Lang (dec)
variable {M : Mac} [MK M]
abbrev cB (l : UInt8) : AV := .int .u8 l.toNat
theorem rNamed_spec {H : AHeap} {k : Int} (h1 : 1 ≤ k) (h2 : k ≤ 8) : CALLQ M N_ref23_Named [.int .i64 k] H fun v H' => v = .str (named k) ∧ Fr Em H H' := by
  refine ref23_Named_s ?_
  have e2 : (Op.buildSlice T_string 9 [(.str [])] [(0, 1), (1, 1), (2, 1), (3, 1), (4, 1), (5, 1), (6, 1), (7, 1), (8, 1)]) [(.str []), (.str [98, 116, 108]), (.str [98, 116, 97, 118]), (.str [98, 116, 97, 118]), (.str [98, 116]), (.str [98, 116]), (.str [98, 116, 99]), (.str [97, 118]), (.str [97, 118])] = some (.row (((List.range 9).map fun k : Nat => named (k : Nat)).map AV.str) T_string (0, 0) true, Op.sliceTo 9 9) := rfl
  have hw := words_row H ((List.range 9).map fun k : Nat => named (k : Nat)) T_string 9 (0, 0) true rfl
  have hk : ((List.range 9).map fun k : Nat => named (k : Nat))[k.toNat]? = some (named k) := by
    rw [List.getElem?_map, List.getElem?_range (by omega)]
    show some (named ((k.toNat : Nat) : Int)) = _
    rw [show ((k.toNat : Nat) : Int) = k by omega]
  have k0 : Op.sliceTo 9 9 H.next = .slice H.next 0 9 9 := rfl
  simp only [↓JN_eq, CTL3, OPS3, cast0, reduceIte, Nat.reduceEqDiff, ref23_Named_w, e2, k0, hw.idx hk (z := k) (by omega), hw.load0 encS_len hk (by omega), encS]
  exact (Fr.refl H).alloc _
theorem rWord_spec {H : AHeap} {k : Int} (h1 : 1 ≤ k) (h2 : k ≤ 8) : CALLQ M N_ref23_Word [.int .i64 k] H fun v H' => v = .str (kword k) ∧ Fr Em H H' := by
  refine ref23_Word_s ?_
  have e2 : (Op.buildSlice T_string 9 [(.str [])] [(0, 1), (1, 1), (2, 1), (3, 1), (4, 1), (5, 1), (6, 1), (7, 1), (8, 1)]) [(.str []), (.str [98, 101, 103, 105, 110]), (.str [108, 111, 97, 100]), (.str [115, 116, 111, 114, 101]), (.str [112, 111, 105, 110, 116]), (.str [99, 111, 109, 109, 105, 116]), (.str [97, 98, 111, 114, 116]), (.str [112, 108, 97, 105, 110]), (.str [119, 114, 105, 116, 101])] = some (.row (((List.range 9).map fun k : Nat => kword (k : Nat)).map AV.str) T_string (0, 0) true, Op.sliceTo 9 9) := rfl
  have hw := words_row H ((List.range 9).map fun k : Nat => kword (k : Nat)) T_string 9 (0, 0) true rfl
  have hk : ((List.range 9).map fun k : Nat => kword (k : Nat))[k.toNat]? = some (kword k) := by
    rw [List.getElem?_map, List.getElem?_range (by omega)]
    show some (kword ((k.toNat : Nat) : Int)) = _
    rw [show ((k.toNat : Nat) : Int) = k by omega]
  have k0 : Op.sliceTo 9 9 H.next = .slice H.next 0 9 9 := rfl
  simp only [↓JN_eq, CTL3, OPS3, cast0, reduceIte, Nat.reduceEqDiff, ref23_Word_w, e2, k0, hw.idx hk (z := k) (by omega), hw.load0 encS_len hk (by omega), encS]
  exact (Fr.refl H).alloc _
theorem rWords_spec {H : AHeap} {l : UInt8} (hl : isL l) : CALLQ M N_ref23_Words [cB l] H fun v H' => Fr Em H H' ∧ SlT encS 1 H' v (wordsOf l) := by
  refine ref23_Words_s ?_
  rcases hl with rfl | rfl | rfl | rfl | rfl | rfl
  · have e : cB 118 = .int .u8 118 := rfl
    rw [e]; simp (maxSteps := 4000000) (disch := first | (simp only [m_next_alloc, m_next_set]; done) | (simp only [m_next_alloc, m_next_set]; omega) | omega) only [↓JN_eq, CTL3, OPS3, MEM3, List.length_cons, List.length_nil, List.take_zero, List.take_succ_cons, List.drop_zero, List.drop_succ_cons, List.take_nil, List.drop_nil, Nat.reduceAdd, Nat.reduceSub, Nat.reduceLeDiff, Int.reduceLT, Int.reduceLE, Int.reduceEq, cast0, reduceIte, Nat.reduceEqDiff, ref23_Words_w]
    exact ⟨Fr.refl _, rfl, rfl⟩
  · have e : cB 98 = .int .u8 98 := rfl
    rw [e]; simp (maxSteps := 4000000) (disch := first | (simp only [m_next_alloc, m_next_set]; done) | (simp only [m_next_alloc, m_next_set]; omega) | omega) only [↓JN_eq, CTL3, OPS3, MEM3, List.length_cons, List.length_nil, List.take_zero, List.take_succ_cons, List.drop_zero, List.drop_succ_cons, List.take_nil, List.drop_nil, Nat.reduceAdd, Nat.reduceSub, Nat.reduceLeDiff, Int.reduceLT, Int.reduceLE, Int.reduceEq, cast0, reduceIte, Nat.reduceEqDiff, ref23_Words_w]
    exact ⟨Fr.refl _, rfl, rfl⟩
  · have e : cB 116 = .int .u8 116 := rfl
    rw [e]; simp (maxSteps := 4000000) (disch := first | (simp only [m_next_alloc, m_next_set]; done) | (simp only [m_next_alloc, m_next_set]; omega) | omega) only [↓JN_eq, CTL3, OPS3, MEM3, List.length_cons, List.length_nil, List.take_zero, List.take_succ_cons, List.drop_zero, List.drop_succ_cons, List.take_nil, List.drop_nil, Nat.reduceAdd, Nat.reduceSub, Nat.reduceLeDiff, Int.reduceLT, Int.reduceLE, Int.reduceEq, cast0, reduceIte, Nat.reduceEqDiff, ref23_Words_w]
    exact ⟨Fr.refl _, rfl, rfl⟩
  · have e : cB 108 = .int .u8 108 := rfl
    have e2 : (Op.buildSlice T_string 5 [(.str [])] [(0, 1), (1, 1), (2, 1), (3, 1), (4, 1)]) [(.str []), (.str [102, 97, 115, 116]), (.str [115, 108, 111, 119]), (.str [115, 111, 102, 116]), (.str [115, 101, 114, 105, 97, 108])] = some (.row ((wordsOf 108).map AV.str) T_string (0, 0) true, Op.sliceTo 5 5) := rfl
    rw [e]; simp (maxSteps := 4000000) (disch := first | (simp only [m_next_alloc, m_next_set]; done) | (simp only [m_next_alloc, m_next_set]; omega) | omega) only [↓JN_eq, CTL3, OPS3, MEM3, List.length_cons, List.length_nil, List.take_zero, List.take_succ_cons, List.drop_zero, List.drop_succ_cons, List.take_nil, List.drop_nil, Nat.reduceAdd, Nat.reduceSub, Nat.reduceLeDiff, Int.reduceLT, Int.reduceLE, Int.reduceEq, cast0, reduceIte, Nat.reduceEqDiff, ref23_Words_w, e2]
    exact ⟨(Fr.refl _).alloc _, words_row _ _ _ _ _ _ rfl⟩
  · have e : cB 97 = .int .u8 97 := rfl
    rw [e]; simp (maxSteps := 4000000) (disch := first | (simp only [m_next_alloc, m_next_set]; done) | (simp only [m_next_alloc, m_next_set]; omega) | omega) only [↓JN_eq, CTL3, OPS3, MEM3, List.length_cons, List.length_nil, List.take_zero, List.take_succ_cons, List.drop_zero, List.drop_succ_cons, List.take_nil, List.drop_nil, Nat.reduceAdd, Nat.reduceSub, Nat.reduceLeDiff, Int.reduceLT, Int.reduceLE, Int.reduceEq, cast0, reduceIte, Nat.reduceEqDiff, ref23_Words_w]
    exact ⟨Fr.refl _, rfl, rfl⟩
  · have e : cB 99 = .int .u8 99 := rfl
    have e2 : (Op.buildSlice T_string 9 [(.str [])] [(0, 1), (1, 1), (2, 1), (3, 1), (4, 1), (5, 1), (6, 1), (7, 1), (8, 1)]) [(.str []), (.str [99, 111, 110, 102, 108, 105, 99, 116]), (.str [115, 117, 98]), (.str [99, 97, 112, 97, 99, 105, 116, 121]), (.str [101, 118, 105, 99, 116]), (.str [115, 112, 117, 114, 105, 111, 117, 115]), (.str [98, 117, 115, 121]), (.str [105, 108, 108, 101, 103, 97, 108]), (.str [115, 111, 102, 116])] = some (.row ((wordsOf 99).map AV.str) T_string (0, 0) true, Op.sliceTo 9 9) := rfl
    rw [e]; simp (maxSteps := 4000000) (disch := first | (simp only [m_next_alloc, m_next_set]; done) | (simp only [m_next_alloc, m_next_set]; omega) | omega) only [↓JN_eq, CTL3, OPS3, MEM3, List.length_cons, List.length_nil, List.take_zero, List.take_succ_cons, List.drop_zero, List.drop_succ_cons, List.take_nil, List.drop_nil, Nat.reduceAdd, Nat.reduceSub, Nat.reduceLeDiff, Int.reduceLT, Int.reduceLE, Int.reduceEq, cast0, reduceIte, Nat.reduceEqDiff, ref23_Words_w, e2]
    exact ⟨(Fr.refl _).alloc _, words_row _ _ _ _ _ _ rfl⟩
theorem rGet_spec {H : AHeap} {x : Evt} {l : UInt8} (hl : isL l) : CALLQ M N_ref23_Get [.agg x.enc, cB l] H fun v H' => v = .tuple [.int .u64 (gU x l), .bool (mayN l (getN x l))] ∧ Fr Em H H' := by
  refine ref23_Get_s ?_
  have hf : Fr Em H (H.alloc (OR x.enc T_api_Event)) := (Fr.refl H).alloc _
  rcases hl with rfl | rfl | rfl | rfl | rfl | rfl
  · have e : cB 118 = .int .u8 118 := rfl
    have e7 : x.enc[7]? = some (.int .u64 x.value) := rfl
    rw [e]; simp (maxSteps := 4000000) (disch := first | (simp only [m_next_alloc, m_next_set]; done) | (simp only [m_next_alloc, m_next_set]; omega) | omega) only [↓JN_eq, CTL3, OPS3, MEM3, List.length_cons, List.length_nil, List.take_zero, List.take_succ_cons, List.drop_zero, List.drop_succ_cons, List.take_nil, List.drop_nil, Nat.reduceAdd, Nat.reduceSub, Nat.reduceLeDiff, Int.reduceLT, Int.reduceLE, Int.reduceEq, cast0, reduceIte, Nat.reduceEqDiff, ref23_Get_w, e7]
    exact ⟨rfl, hf⟩
  · have e : cB 98 = .int .u8 98 := rfl
    have e3 : x.enc[3]? = some (.int .i64 x.block) := rfl
    rw [e]; simp (maxSteps := 4000000) (disch := first | (simp only [m_next_alloc, m_next_set]; done) | (simp only [m_next_alloc, m_next_set]; omega) | omega) only [↓JN_eq, CTL3, OPS3, MEM3, List.length_cons, List.length_nil, List.take_zero, List.take_succ_cons, List.drop_zero, List.drop_succ_cons, List.take_nil, List.drop_nil, Nat.reduceAdd, Nat.reduceSub, Nat.reduceLeDiff, Int.reduceLT, Int.reduceLE, Int.reduceEq, cast0, reduceIte, Nat.reduceEqDiff, ref23_Get_w, e3]
    exact ⟨by simp [gU, mayN, getN, wordsOf], hf⟩
  · have e : cB 116 = .int .u8 116 := rfl
    have e3 : x.enc[4]? = some (.int .i64 x.try') := rfl
    rw [e]; simp (maxSteps := 4000000) (disch := first | (simp only [m_next_alloc, m_next_set]; done) | (simp only [m_next_alloc, m_next_set]; omega) | omega) only [↓JN_eq, CTL3, OPS3, MEM3, List.length_cons, List.length_nil, List.take_zero, List.take_succ_cons, List.drop_zero, List.drop_succ_cons, List.take_nil, List.drop_nil, Nat.reduceAdd, Nat.reduceSub, Nat.reduceLeDiff, Int.reduceLT, Int.reduceLE, Int.reduceEq, cast0, reduceIte, Nat.reduceEqDiff, ref23_Get_w, e3]
    exact ⟨by simp [gU, mayN, getN, wordsOf], hf⟩
  · have e : cB 108 = .int .u8 108 := rfl
    have e3 : x.enc[5]? = some (.int .i64 x.lane) := rfl
    have em : mayN 108 (getN x 108) = decide (0 ≤ x.lane ∧ (5 = 0 ∨ 1 ≤ x.lane ∧ x.lane < 5)) := rfl
    rw [e, em]
    by_cases h1 : 1 ≤ x.lane
    · by_cases h2 : x.lane ≤ 4
      · simp (maxSteps := 4000000) (disch := first | (simp only [m_next_alloc, m_next_set]; done) | (simp only [m_next_alloc, m_next_set]; omega) | omega) only [↓JN_eq, CTL3, OPS3, MEM3, List.length_cons, List.length_nil, List.take_zero, List.take_succ_cons, List.drop_zero, List.drop_succ_cons, List.take_nil, List.drop_nil, Nat.reduceAdd, Nat.reduceSub, Nat.reduceLeDiff, Int.reduceLT, Int.reduceLE, Int.reduceEq, cast0, reduceIte, Nat.reduceEqDiff, ref23_Get_w, e3, h1, h2]
        exact ⟨by simp [gU, getN]; try omega, hf⟩
      · simp (maxSteps := 4000000) (disch := first | (simp only [m_next_alloc, m_next_set]; done) | (simp only [m_next_alloc, m_next_set]; omega) | omega) only [↓JN_eq, CTL3, OPS3, MEM3, List.length_cons, List.length_nil, List.take_zero, List.take_succ_cons, List.drop_zero, List.drop_succ_cons, List.take_nil, List.drop_nil, Nat.reduceAdd, Nat.reduceSub, Nat.reduceLeDiff, Int.reduceLT, Int.reduceLE, Int.reduceEq, cast0, reduceIte, Nat.reduceEqDiff, ref23_Get_w, e3, h1, h2]
        exact ⟨by simp [gU, getN]; try omega, hf⟩
    · simp (maxSteps := 4000000) (disch := first | (simp only [m_next_alloc, m_next_set]; done) | (simp only [m_next_alloc, m_next_set]; omega) | omega) only [↓JN_eq, CTL3, OPS3, MEM3, List.length_cons, List.length_nil, List.take_zero, List.take_succ_cons, List.drop_zero, List.drop_succ_cons, List.take_nil, List.drop_nil, Nat.reduceAdd, Nat.reduceSub, Nat.reduceLeDiff, Int.reduceLT, Int.reduceLE, Int.reduceEq, cast0, reduceIte, Nat.reduceEqDiff, ref23_Get_w, e3, h1]
      exact ⟨by simp [gU, getN]; try omega, hf⟩
  · have e : cB 97 = .int .u8 97 := rfl
    have e3 : x.enc[6]? = some (.int .i64 x.addr) := rfl
    rw [e]; simp (maxSteps := 4000000) (disch := first | (simp only [m_next_alloc, m_next_set]; done) | (simp only [m_next_alloc, m_next_set]; omega) | omega) only [↓JN_eq, CTL3, OPS3, MEM3, List.length_cons, List.length_nil, List.take_zero, List.take_succ_cons, List.drop_zero, List.drop_succ_cons, List.take_nil, List.drop_nil, Nat.reduceAdd, Nat.reduceSub, Nat.reduceLeDiff, Int.reduceLT, Int.reduceLE, Int.reduceEq, cast0, reduceIte, Nat.reduceEqDiff, ref23_Get_w, e3]
    exact ⟨by simp [gU, mayN, getN, wordsOf], hf⟩
  · have e : cB 99 = .int .u8 99 := rfl
    have e3 : x.enc[8]? = some (.int .i64 x.code) := rfl
    have em : mayN 99 (getN x 99) = decide (0 ≤ x.code ∧ (9 = 0 ∨ 1 ≤ x.code ∧ x.code < 9)) := rfl
    rw [e, em]
    by_cases h1 : 1 ≤ x.code
    · by_cases h2 : x.code ≤ 8
      · simp (maxSteps := 4000000) (disch := first | (simp only [m_next_alloc, m_next_set]; done) | (simp only [m_next_alloc, m_next_set]; omega) | omega) only [↓JN_eq, CTL3, OPS3, MEM3, List.length_cons, List.length_nil, List.take_zero, List.take_succ_cons, List.drop_zero, List.drop_succ_cons, List.take_nil, List.drop_nil, Nat.reduceAdd, Nat.reduceSub, Nat.reduceLeDiff, Int.reduceLT, Int.reduceLE, Int.reduceEq, cast0, reduceIte, Nat.reduceEqDiff, ref23_Get_w, e3, h1, h2]
        exact ⟨by simp [gU, getN]; try omega, hf⟩
      · simp (maxSteps := 4000000) (disch := first | (simp only [m_next_alloc, m_next_set]; done) | (simp only [m_next_alloc, m_next_set]; omega) | omega) only [↓JN_eq, CTL3, OPS3, MEM3, List.length_cons, List.length_nil, List.take_zero, List.take_succ_cons, List.drop_zero, List.drop_succ_cons, List.take_nil, List.drop_nil, Nat.reduceAdd, Nat.reduceSub, Nat.reduceLeDiff, Int.reduceLT, Int.reduceLE, Int.reduceEq, cast0, reduceIte, Nat.reduceEqDiff, ref23_Get_w, e3, h1, h2]
        exact ⟨by simp [gU, getN]; try omega, hf⟩
    · simp (maxSteps := 4000000) (disch := first | (simp only [m_next_alloc, m_next_set]; done) | (simp only [m_next_alloc, m_next_set]; omega) | omega) only [↓JN_eq, CTL3, OPS3, MEM3, List.length_cons, List.length_nil, List.take_zero, List.take_succ_cons, List.drop_zero, List.drop_succ_cons, List.take_nil, List.drop_nil, Nat.reduceAdd, Nat.reduceSub, Nat.reduceLeDiff, Int.reduceLT, Int.reduceLE, Int.reduceEq, cast0, reduceIte, Nat.reduceEqDiff, ref23_Get_w, e3, h1]
      exact ⟨by simp [gU, getN]; try omega, hf⟩
theorem rFresh_spec {H : AHeap} {k c t : Int} : CALLQ M N_ref23_fresh [.int .i64 k, .int .i64 c, .int .i64 t] H fun v H' => v = .agg (fresh k c t).enc ∧ Fr Em H H' := by
  refine ref23_fresh_s ?_
  by_cases h : 7 ≤ k
  · simp (maxSteps := 4000000) (disch := first | (simp only [m_next_alloc, m_next_set]; done) | (simp only [m_next_alloc, m_next_set]; omega) | omega) only [↓JN_eq, CTL3, OPS3, MEM3, List.length_cons, List.length_nil, List.take_zero, List.take_succ_cons, List.drop_zero, List.drop_succ_cons, List.take_nil, List.drop_nil, Nat.reduceAdd, Nat.reduceSub, Nat.reduceLeDiff, Int.reduceLT, Int.reduceLE, Int.reduceEq, cast0, reduceIte, Nat.reduceEqDiff, ref23_fresh_w, h]
    refine ⟨by simp [fresh, h, Evt.enc], ?_⟩
    ((repeat (first | refine Fr.alloc ?_ _ | refine Fr.set ?_ (.inr (by first | omega | (simp only [m_next_alloc, m_next_set]; omega))) _)); first | exact Fr.refl _ | assumption)
  · simp (maxSteps := 4000000) (disch := first | (simp only [m_next_alloc, m_next_set]; done) | (simp only [m_next_alloc, m_next_set]; omega) | omega) only [↓JN_eq, CTL3, OPS3, MEM3, List.length_cons, List.length_nil, List.take_zero, List.take_succ_cons, List.drop_zero, List.drop_succ_cons, List.take_nil, List.drop_nil, Nat.reduceAdd, Nat.reduceSub, Nat.reduceLeDiff, Int.reduceLT, Int.reduceLE, Int.reduceEq, cast0, reduceIte, Nat.reduceEqDiff, ref23_fresh_w, h]
    refine ⟨by simp [fresh, h, Evt.enc], ?_⟩
    ((repeat (first | refine Fr.alloc ?_ _ | refine Fr.set ?_ (.inr (by first | omega | (simp only [m_next_alloc, m_next_set]; omega))) _)); first | exact Fr.refl _ | assumption)
def SetR (y : Evt) (l : UInt8) (u : Int) (v : AV) : Prop := ∃ (z : Evt) (q : Bool), v = .tuple [.agg z.enc, .bool q] ∧ (q = true ↔ l = 118 ∨ u ≤ 9223372036854775807 ∧ mayN l u = true) ∧ (q = true → z = setN y l u)
theorem rSet_spec {H : AHeap} {y : Evt} {l : UInt8} {u : Int} (hl : isL l) (h0 : 0 ≤ u) (h1 : u < 18446744073709551616) : CALLQ M N_ref23_Set [.agg y.enc, cB l, .int .u64 u] H fun v H' => SetR y l u v ∧ Fr Em H H' := by
  refine ref23_Set_s ?_
  by_cases h118 : l = 118
  · subst h118
    have e : cB 118 = .int .u8 118 := rfl
    have e1 : y.enc.take 7 ++ [AV.int .u64 u] ++ y.enc.drop 8 = (setN y 118 u).enc := rfl
    rw [e]; simp (maxSteps := 4000000) (disch := first | (simp only [m_next_alloc, m_next_set]; done) | (simp only [m_next_alloc, m_next_set]; omega) | omega) only [↓JN_eq, CTL3, OPS3, MEM3, List.length_cons, List.length_nil, List.take_zero, List.take_succ_cons, List.drop_zero, List.drop_succ_cons, List.take_nil, List.drop_nil, Nat.reduceAdd, Nat.reduceSub, Nat.reduceLeDiff, Int.reduceLT, Int.reduceLE, Int.reduceEq, cast0, reduceIte, Nat.reduceEqDiff, ref23_Set_w, ev9, e1, evt9, Evt.one', List.append_nil, alloc_set]
    refine ⟨⟨_, true, rfl, by simp, fun _ => rfl⟩, ?_⟩
    ((repeat (first | refine Fr.alloc ?_ _ | refine Fr.set ?_ (.inr (by first | omega | (simp only [m_next_alloc, m_next_set]; omega))) _)); first | exact Fr.refl _ | assumption)
  have e : Op.bin .eql [cB l, .int .u8 118] = some (.bool false) := by
    rcases hl with rfl | rfl | rfl | rfl | rfl | rfl <;> first | rfl | exact absurd rfl h118
  by_cases hg : 9223372036854775807 < u
  · simp (maxSteps := 4000000) (disch := first | (simp only [m_next_alloc, m_next_set]; done) | (simp only [m_next_alloc, m_next_set]; omega) | omega) only [↓JN_eq, CTL3, OPS3, MEM3, List.length_cons, List.length_nil, List.take_zero, List.take_succ_cons, List.drop_zero, List.drop_succ_cons, List.take_nil, List.drop_nil, Nat.reduceAdd, Nat.reduceSub, Nat.reduceLeDiff, Int.reduceLT, Int.reduceLE, Int.reduceEq, cast0, reduceIte, Nat.reduceEqDiff, ref23_Set_w, e, hg, ev9, evt9, Evt.one', List.append_nil, alloc_set]
    refine ⟨⟨_, false, rfl, by simp [h118]; omega, fun q => by cases q⟩, ?_⟩
    ((repeat (first | refine Fr.alloc ?_ _ | refine Fr.set ?_ (.inr (by first | omega | (simp only [m_next_alloc, m_next_set]; omega))) _)); first | exact Fr.refl _ | assumption)
  have ew : wrapI .i64 u = u := wrap_i64 (by omega) (by omega)
  have hle : u ≤ 9223372036854775807 := by omega
  rcases hl with rfl | rfl | rfl | rfl | rfl | rfl
  · exact absurd rfl h118
  · have e' : cB 98 = .int .u8 98 := rfl
    have e1 : y.enc.take 3 ++ [AV.int .i64 u] ++ y.enc.drop 4 = (setN y 98 u).enc := rfl
    rw [e']; simp (maxSteps := 4000000) (disch := first | (simp only [m_next_alloc, m_next_set]; done) | (simp only [m_next_alloc, m_next_set]; omega) | omega) only [↓JN_eq, CTL3, OPS3, MEM3, List.length_cons, List.length_nil, List.take_zero, List.take_succ_cons, List.drop_zero, List.drop_succ_cons, List.take_nil, List.drop_nil, Nat.reduceAdd, Nat.reduceSub, Nat.reduceLeDiff, Int.reduceLT, Int.reduceLE, Int.reduceEq, cast0, reduceIte, Nat.reduceEqDiff, ref23_Set_w, hg, ew, ev9, e1, evt9, Evt.one', List.append_nil, alloc_set]
    refine ⟨⟨_, true, rfl, by simp [hle, mayN, wordsOf, h0], fun _ => rfl⟩, ?_⟩
    ((repeat (first | refine Fr.alloc ?_ _ | refine Fr.set ?_ (.inr (by first | omega | (simp only [m_next_alloc, m_next_set]; omega))) _)); first | exact Fr.refl _ | assumption)
  · have e' : cB 116 = .int .u8 116 := rfl
    have e1 : y.enc.take 4 ++ [AV.int .i64 u] ++ y.enc.drop 5 = (setN y 116 u).enc := rfl
    rw [e']; simp (maxSteps := 4000000) (disch := first | (simp only [m_next_alloc, m_next_set]; done) | (simp only [m_next_alloc, m_next_set]; omega) | omega) only [↓JN_eq, CTL3, OPS3, MEM3, List.length_cons, List.length_nil, List.take_zero, List.take_succ_cons, List.drop_zero, List.drop_succ_cons, List.take_nil, List.drop_nil, Nat.reduceAdd, Nat.reduceSub, Nat.reduceLeDiff, Int.reduceLT, Int.reduceLE, Int.reduceEq, cast0, reduceIte, Nat.reduceEqDiff, ref23_Set_w, hg, ew, ev9, e1, evt9, Evt.one', List.append_nil, alloc_set]
    refine ⟨⟨_, true, rfl, by simp [hle, mayN, wordsOf, h0], fun _ => rfl⟩, ?_⟩
    ((repeat (first | refine Fr.alloc ?_ _ | refine Fr.set ?_ (.inr (by first | omega | (simp only [m_next_alloc, m_next_set]; omega))) _)); first | exact Fr.refl _ | assumption)
  · have e' : cB 108 = .int .u8 108 := rfl
    have e1 : y.enc.take 5 ++ [AV.int .i64 u] ++ y.enc.drop 6 = (setN y 108 u).enc := rfl
    have em : mayN 108 u = decide (0 ≤ u ∧ (5 = 0 ∨ 1 ≤ u ∧ u < 5)) := rfl
    by_cases a1 : 1 ≤ u
    · by_cases a2 : u ≤ 4
      · rw [e']; simp (maxSteps := 4000000) (disch := first | (simp only [m_next_alloc, m_next_set]; done) | (simp only [m_next_alloc, m_next_set]; omega) | omega) only [↓JN_eq, CTL3, OPS3, MEM3, List.length_cons, List.length_nil, List.take_zero, List.take_succ_cons, List.drop_zero, List.drop_succ_cons, List.take_nil, List.drop_nil, Nat.reduceAdd, Nat.reduceSub, Nat.reduceLeDiff, Int.reduceLT, Int.reduceLE, Int.reduceEq, cast0, reduceIte, Nat.reduceEqDiff, ref23_Set_w, hg, ew, ev9, e1, evt9, Evt.one', List.append_nil, alloc_set, a1, a2]
        refine ⟨⟨_, true, rfl, by simp [hle, em]; omega, fun _ => rfl⟩, ?_⟩
        ((repeat (first | refine Fr.alloc ?_ _ | refine Fr.set ?_ (.inr (by first | omega | (simp only [m_next_alloc, m_next_set]; omega))) _)); first | exact Fr.refl _ | assumption)
      · rw [e']; simp (maxSteps := 4000000) (disch := first | (simp only [m_next_alloc, m_next_set]; done) | (simp only [m_next_alloc, m_next_set]; omega) | omega) only [↓JN_eq, CTL3, OPS3, MEM3, List.length_cons, List.length_nil, List.take_zero, List.take_succ_cons, List.drop_zero, List.drop_succ_cons, List.take_nil, List.drop_nil, Nat.reduceAdd, Nat.reduceSub, Nat.reduceLeDiff, Int.reduceLT, Int.reduceLE, Int.reduceEq, cast0, reduceIte, Nat.reduceEqDiff, ref23_Set_w, hg, ew, ev9, e1, evt9, Evt.one', List.append_nil, alloc_set, a1, a2]
        refine ⟨⟨_, false, rfl, by simp [em]; omega, fun q => by cases q⟩, ?_⟩
        ((repeat (first | refine Fr.alloc ?_ _ | refine Fr.set ?_ (.inr (by first | omega | (simp only [m_next_alloc, m_next_set]; omega))) _)); first | exact Fr.refl _ | assumption)
    · rw [e']; simp (maxSteps := 4000000) (disch := first | (simp only [m_next_alloc, m_next_set]; done) | (simp only [m_next_alloc, m_next_set]; omega) | omega) only [↓JN_eq, CTL3, OPS3, MEM3, List.length_cons, List.length_nil, List.take_zero, List.take_succ_cons, List.drop_zero, List.drop_succ_cons, List.take_nil, List.drop_nil, Nat.reduceAdd, Nat.reduceSub, Nat.reduceLeDiff, Int.reduceLT, Int.reduceLE, Int.reduceEq, cast0, reduceIte, Nat.reduceEqDiff, ref23_Set_w, hg, ew, ev9, e1, evt9, Evt.one', List.append_nil, alloc_set, a1]
      refine ⟨⟨_, false, rfl, by simp [em]; omega, fun q => by cases q⟩, ?_⟩
      ((repeat (first | refine Fr.alloc ?_ _ | refine Fr.set ?_ (.inr (by first | omega | (simp only [m_next_alloc, m_next_set]; omega))) _)); first | exact Fr.refl _ | assumption)
  · have e' : cB 97 = .int .u8 97 := rfl
    have e1 : y.enc.take 6 ++ [AV.int .i64 u] ++ y.enc.drop 7 = (setN y 97 u).enc := rfl
    rw [e']; simp (maxSteps := 4000000) (disch := first | (simp only [m_next_alloc, m_next_set]; done) | (simp only [m_next_alloc, m_next_set]; omega) | omega) only [↓JN_eq, CTL3, OPS3, MEM3, List.length_cons, List.length_nil, List.take_zero, List.take_succ_cons, List.drop_zero, List.drop_succ_cons, List.take_nil, List.drop_nil, Nat.reduceAdd, Nat.reduceSub, Nat.reduceLeDiff, Int.reduceLT, Int.reduceLE, Int.reduceEq, cast0, reduceIte, Nat.reduceEqDiff, ref23_Set_w, hg, ew, ev9, e1, evt9, Evt.one', List.append_nil, alloc_set]
    refine ⟨⟨_, true, rfl, by simp [hle, mayN, wordsOf, h0], fun _ => rfl⟩, ?_⟩
    ((repeat (first | refine Fr.alloc ?_ _ | refine Fr.set ?_ (.inr (by first | omega | (simp only [m_next_alloc, m_next_set]; omega))) _)); first | exact Fr.refl _ | assumption)
  · have e' : cB 99 = .int .u8 99 := rfl
    have e1 : y.enc.take 8 ++ [AV.int .i64 u] ++ y.enc.drop 9 = (setN y 99 u).enc := rfl
    have em : mayN 99 u = decide (0 ≤ u ∧ (9 = 0 ∨ 1 ≤ u ∧ u < 9)) := rfl
    by_cases a1 : 1 ≤ u
    · by_cases a2 : u ≤ 8
      · rw [e']; simp (maxSteps := 4000000) (disch := first | (simp only [m_next_alloc, m_next_set]; done) | (simp only [m_next_alloc, m_next_set]; omega) | omega) only [↓JN_eq, CTL3, OPS3, MEM3, List.length_cons, List.length_nil, List.take_zero, List.take_succ_cons, List.drop_zero, List.drop_succ_cons, List.take_nil, List.drop_nil, Nat.reduceAdd, Nat.reduceSub, Nat.reduceLeDiff, Int.reduceLT, Int.reduceLE, Int.reduceEq, cast0, reduceIte, Nat.reduceEqDiff, ref23_Set_w, hg, ew, ev9, e1, evt9, Evt.one', List.append_nil, alloc_set, a1, a2]
        refine ⟨⟨_, true, rfl, by simp [hle, em]; omega, fun _ => rfl⟩, ?_⟩
        ((repeat (first | refine Fr.alloc ?_ _ | refine Fr.set ?_ (.inr (by first | omega | (simp only [m_next_alloc, m_next_set]; omega))) _)); first | exact Fr.refl _ | assumption)
      · rw [e']; simp (maxSteps := 4000000) (disch := first | (simp only [m_next_alloc, m_next_set]; done) | (simp only [m_next_alloc, m_next_set]; omega) | omega) only [↓JN_eq, CTL3, OPS3, MEM3, List.length_cons, List.length_nil, List.take_zero, List.take_succ_cons, List.drop_zero, List.drop_succ_cons, List.take_nil, List.drop_nil, Nat.reduceAdd, Nat.reduceSub, Nat.reduceLeDiff, Int.reduceLT, Int.reduceLE, Int.reduceEq, cast0, reduceIte, Nat.reduceEqDiff, ref23_Set_w, hg, ew, ev9, e1, evt9, Evt.one', List.append_nil, alloc_set, a1, a2]
        refine ⟨⟨_, false, rfl, by simp [em]; omega, fun q => by cases q⟩, ?_⟩
        ((repeat (first | refine Fr.alloc ?_ _ | refine Fr.set ?_ (.inr (by first | omega | (simp only [m_next_alloc, m_next_set]; omega))) _)); first | exact Fr.refl _ | assumption)
    · rw [e']; simp (maxSteps := 4000000) (disch := first | (simp only [m_next_alloc, m_next_set]; done) | (simp only [m_next_alloc, m_next_set]; omega) | omega) only [↓JN_eq, CTL3, OPS3, MEM3, List.length_cons, List.length_nil, List.take_zero, List.take_succ_cons, List.drop_zero, List.drop_succ_cons, List.take_nil, List.drop_nil, Nat.reduceAdd, Nat.reduceSub, Nat.reduceLeDiff, Int.reduceLT, Int.reduceLE, Int.reduceEq, cast0, reduceIte, Nat.reduceEqDiff, ref23_Set_w, hg, ew, ev9, e1, evt9, Evt.one', List.append_nil, alloc_set, a1]
      refine ⟨⟨_, false, rfl, by simp [em]; omega, fun q => by cases q⟩, ?_⟩
      ((repeat (first | refine Fr.alloc ?_ _ | refine Fr.set ?_ (.inr (by first | omega | (simp only [m_next_alloc, m_next_set]; omega))) _)); first | exact Fr.refl _ | assumption)
theorem rput_spec {H0 H : AHeap} {a : AV} {xs : B} {n : Nat} (ha : NewB H0 H a xs) (hn : n < 18446744073709551616) (hl : xs.length < 1000000) :
    CALLQ M N_ref23_put [a, .int .u64 (n : Int)] H fun v H' => NewB H0 H' v (xs ++ putB n) ∧ Aft a H v H' := by
  refine ref23_put_s ?_
  simp only [↓JN_eq, CTL3, OPS3, cast0, reduceIte, Nat.reduceEqDiff, ref23_put_w]
  refine LOOP3.intro (fun r E H' => ∃ m w ys k, E = [(0, w), (1, .int .u64 (m : Nat)), (5, .int .i64 (k : Nat))] ∧ r = m ∧ m = n / 128 ^ k ∧ k ≤ 10 ∧ NewB H0 H' w ys ∧ Aft a H w H' ∧ ys ++ putB m = xs ++ putB n ∧ ys.length < 1000000 + 20) ?_ ?_
  · exact ⟨_, _, ⟨n, a, xs, 0, rfl, rfl, by simp, by omega, ha, Aft.refl _ _, rfl, by omega⟩, by simp only [↓JN_eq, CTL3, OPS3, cast0, reduceIte, Nat.reduceEqDiff]⟩
  rintro r E H' ⟨m, w, ys, k, rfl, rfl, hm, hk, hw, hf, heq, hyl⟩
  have hml : r < 18446744073709551616 := by rw [hm]; exact Nat.lt_of_le_of_lt (Nat.div_le_self ..) hn
  have hb : ys.length ≤ 1000010 := by
    have h1 := congrArg List.length heq
    rw [List.length_append, List.length_append] at h1
    have := putB_len 9 n (Nat.lt_trans hn (by decide))
    omega
  by_cases hge : 128 ≤ r
  · have hk9 : k < 10 := by
      have h1 : 128 * 128 ^ k ≤ n := by
        rw [hm] at hge
        exact (Nat.le_div_iff_mul_le (Nat.pow_pos (by decide))).1 hge
      have h2 : 128 ^ (k + 1) < 18446744073709551616 := by rw [Nat.pow_succ, Nat.mul_comm]; omega
      have := pow_le9 h2
      omega
    have e1 : (k : Int) < 10 := by omega
    have e2 : (128 : Int) ≤ (r : Int) := by omega
    have e8 : (UInt8.ofNat (r % 128 + 128)).toNat = r % 128 + 128 := ofNat_lt (by omega)
    have ea : wrapI .u8 (((r % 128 : Nat) : Int) + 128) = ((r % 128 + 128 : Nat) : Int) := by rw [wrapI_u8]; omega
    have ek : wrapI .i64 ((k : Int) + 1) = ((k + 1 : Nat) : Int) := by rw [wrap_i64 (by omega) (by omega)]; omega
    simp (disch := first | omega | (simp only [List.length_set]; omega)) only [↓JN_eq, CTL3, OPS3, cast0, reduceIte, Nat.reduceEqDiff, ref23_put_w, e1, e2, n_rem, w_u8, Int.reduceToNat, ea, ek, n_quo64]
    refine hw.app4 (bytes := 1) (a := UInt8.ofNat (r % 128 + 128)) (by rw [encB, e8]; rfl) rfl rfl rfl (by omega) (by omega) (by omega) fun v' H2 hv' hf2 => ?_
    simp (disch := first | omega | (simp only [List.length_set]; omega)) only [↓JN_eq, CTL3, OPS3, cast0, reduceIte, Nat.reduceEqDiff, ref23_put_w, n_quo64, Int.reduceToNat, ek]
    refine ⟨_, _, ⟨r / 128, v', _, k + 1, rfl, rfl, ?_, by omega, hv', hf.trans hf2, ?_, by rw [List.length_append, List.length_singleton]; omega⟩, by simp only [↓JN_eq, CTL3, OPS3, cast0, reduceIte, Nat.reduceEqDiff], by omega⟩
    · rw [hm, Nat.pow_succ, Nat.div_div_eq_div_mul]
    · rw [← heq, List.append_assoc, putB_ge (n := r) (by omega)]; rfl
  · have e2 : ¬ (128 : Int) ≤ (r : Int) := by omega
    have e8 : (UInt8.ofNat r).toNat = r := ofNat_lt (by omega)
    by_cases e1 : (k : Int) < 10
    · simp (disch := first | omega | (simp only [List.length_set]; omega)) only [↓JN_eq, CTL3, OPS3, cast0, reduceIte, Nat.reduceEqDiff, ref23_put_w, e1, e2, w_u8]
      refine hw.app4 (bytes := 1) (a := UInt8.ofNat r) (by rw [encB, e8]; rfl) rfl rfl rfl (by omega) (by omega) (by omega) fun v' H2 hv' hf2 => ?_
      simp only [↓JN_eq, CTL3, OPS3, cast0, reduceIte, Nat.reduceEqDiff, ref23_put_w]
      rw [putB_lt (by omega)] at heq
      rw [heq] at hv'
      exact ⟨hv', hf.trans hf2⟩
    · simp (disch := first | omega | (simp only [List.length_set]; omega)) only [↓JN_eq, CTL3, OPS3, cast0, reduceIte, Nat.reduceEqDiff, ref23_put_w, e1, e2, w_u8]
      refine hw.app4 (bytes := 1) (a := UInt8.ofNat r) (by rw [encB, e8]; rfl) rfl rfl rfl (by omega) (by omega) (by omega) fun v' H2 hv' hf2 => ?_
      simp only [↓JN_eq, CTL3, OPS3, cast0, reduceIte, Nat.reduceEqDiff, ref23_put_w]
      rw [putB_lt (by omega)] at heq
      rw [heq] at hv'
      exact ⟨hv', hf.trans hf2⟩
theorem rdigits_spec {H : AHeap} {n : Nat} (hn : n < 18446744073709551616) : CALLQ M N_ref23_digits [.int .u64 (n : Int)] H fun v H' => v = .str (dec n) ∧ Fr Em H H' := by
  refine ref23_digits_s ?_
  simp only [↓JN_eq, CTL3, OPS3, cast0, reduceIte, Nat.reduceEqDiff, ref23_digits_w]
  refine LOOP3.intro (fun r E H' => ∃ v s k, E = [(0, .int .u64 (v : Nat)), (3, .str s), (4, .int .i64 (k : Nat))] ∧ r = 20 - k ∧ v = n / 10 ^ k ∧ k ≤ 20 ∧ s.length ≤ k ∧ Fr Em H H' ∧ ((k = 0 ∨ 0 < v) ∧ dec n = dec v ++ s ∨ 0 < k ∧ v = 0 ∧ dec n = s)) ?_ ?_
  · exact ⟨_, _, ⟨n, [], 0, rfl, rfl, by simp, by omega, by simp, Fr.refl _, .inl ⟨.inl rfl, by simp⟩⟩, by simp only [↓JN_eq, CTL3, OPS3, cast0, reduceIte, Nat.reduceEqDiff]⟩
  rintro r E H' ⟨v, s, k, rfl, rfl, hv, hk, hsl, hf, hd⟩
  have hvl : v < 18446744073709551616 := by rw [hv]; exact Nat.lt_of_le_of_lt (Nat.div_le_self ..) hn
  have ea : wrapI .u64 (48 + ((v % 10 : Nat) : Int)) = ((48 + v % 10 : Nat) : Int) := by rw [wrap_u64 (by omega) (by omega)]; omega
  have eb : Op.buildSlice T_uint8 1 [.int .u8 0] [(0, 1)] [.int .u8 ((48 + v % 10 : Nat) : Int)] = some (.row [.int .u8 ((48 + v % 10 : Nat) : Int)] T_uint8 (0, 0) true, Op.sliceTo 1 1) := rfl
  have es : Op.strOfBytes [Op.sliceTo 1 1 H'.next] (H'.alloc (.row [.int .u8 ((48 + v % 10 : Nat) : Int)] T_uint8 (0, 0) true)) = some (.str [UInt8.ofNat (48 + v % 10)]) := by
    have e0 : ([UInt8.ofNat (48 + v % 10)].map fun c => AV.int .u8 c.toNat) = [.int .u8 ((48 + v % 10 : Nat) : Int)] := by
      rw [List.map_cons, List.map_nil, ofNat_lt (by omega)]
    have : firstCells (H'.alloc (.row [.int .u8 ((48 + v % 10 : Nat) : Int)] T_uint8 (0, 0) true)) 1 1 (.slice H'.next 0 1 1) = some [.int .u8 ((48 + v % 10 : Nat) : Int)] := by
      have h1 : Nat.beq 1 0 = false := rfl
      simp only [firstCells, h1, cond_false]
      rw [loadN_eq (cellsAt_row (get_alloc_new ..)) (by simp)]; rfl
    simp only [Op.strOfBytes, Op.sliceTo, lenV, Option.bind_some, this]
    rw [← e0, bytesOf_map]; rfl
  have ec := o_cat [UInt8.ofNat (48 + v % 10)] s (by simp only [List.length_singleton]; omega)
  have ek : wrapI .i64 ((k : Int) + 1) = ((k + 1 : Nat) : Int) := by rw [wrap_i64 (by omega) (by omega)]; omega
  by_cases hk20 : k < 20
  · have e1 : (k : Int) < 20 := by omega
    by_cases hk0 : k = 0
    · subst hk0
      have ek0 : wrapI .i64 (0 + 1) = ((0 + 1 : Nat) : Int) := rfl
      have hdn : dec n = dec v ++ s := by rcases hd with ⟨_, q⟩ | ⟨q, _⟩; exact q; omega
      simp (disch := first | omega | (simp only [List.length_set]; omega)) only [↓JN_eq, CTL3, OPS3, cast0, reduceIte, Nat.reduceEqDiff, ref23_digits_w, Int.reduceLT, decide_true, ek0, n_rem, n_quo64, Int.reduceToNat, ea, w_u8, eb, es, ec, ek]
      refine ⟨_, _, ⟨v / 10, UInt8.ofNat (48 + v % 10) :: s, 0 + 1, rfl, rfl, ?_, by omega, by simp only [List.length_cons]; omega, hf.alloc _, ?_⟩, by simp only [↓JN_eq, CTL3, OPS3, cast0, reduceIte, Nat.reduceEqDiff], by omega⟩
      · rw [hv, Nat.pow_succ, Nat.div_div_eq_div_mul]
      by_cases h10 : v < 10
      · refine .inr ⟨by omega, by omega, ?_⟩
        rw [hdn, Lang.dec_lt h10, Nat.mod_eq_of_lt h10]; rfl
      · refine .inl ⟨.inr (by omega), ?_⟩
        rw [hdn, Lang.dec_ge (by omega), List.append_assoc]; rfl
    · have e2 : ¬ (k : Int) = 0 := by omega
      by_cases hv0 : 0 < v
      · have e3 : (0 : Int) < (v : Int) := by omega
        have hdn : dec n = dec v ++ s := by rcases hd with ⟨_, q⟩ | ⟨_, q, _⟩; exact q; omega
        simp (disch := first | omega | (simp only [List.length_set]; omega)) only [↓JN_eq, CTL3, OPS3, cast0, reduceIte, Nat.reduceEqDiff, ref23_digits_w, e1, e2, e3, n_rem, n_quo64, Int.reduceToNat, ea, w_u8, eb, es, ec, ek]
        refine ⟨_, _, ⟨v / 10, UInt8.ofNat (48 + v % 10) :: s, k + 1, rfl, rfl, by rw [hv, Nat.pow_succ, Nat.div_div_eq_div_mul], by omega, by simp; omega, hf.alloc _, ?_⟩, by simp only [↓JN_eq, CTL3, OPS3, cast0, reduceIte, Nat.reduceEqDiff], by omega⟩
        by_cases h10 : v < 10
        · refine .inr ⟨by omega, by omega, ?_⟩
          rw [hdn, Lang.dec_lt h10, Nat.mod_eq_of_lt h10]; rfl
        · refine .inl ⟨.inr (by omega), ?_⟩
          rw [hdn, Lang.dec_ge (by omega), List.append_assoc]; rfl
      · have e3 : ¬ (0 : Int) < (v : Int) := by omega
        have hdn : dec n = s := by rcases hd with ⟨q, _⟩ | ⟨_, _, q⟩; omega; exact q
        simp only [↓JN_eq, CTL3, OPS3, cast0, reduceIte, Nat.reduceEqDiff, ref23_digits_w, e1, e2, e3]
        exact ⟨by rw [hdn], hf⟩
  · have e1 : ¬ (k : Int) < 20 := by omega
    have hv0 : v = 0 := by rw [hv, show k = 20 by omega]; exact Nat.div_eq_of_lt (Nat.lt_trans hn (by decide))
    have hdn : dec n = s := by rcases hd with ⟨q, _⟩ | ⟨_, _, q⟩; omega; exact q
    simp only [↓JN_eq, CTL3, OPS3, cast0, reduceIte, Nat.reduceEqDiff, ref23_digits_w, e1]
    exact ⟨by rw [hdn], hf⟩
end Go.Am
namespace Go.Am
set_option linter.unusedVariables false
set_option linter.unusedSimpArgs false
set_option linter.unusedSectionVars false
set_option maxRecDepth 100000
open Tr
open Lang (dec)
variable {M : Mac} [MK M]
theorem evd9 (x : Evt) : x.enc.drop 9 = [] := rfl
theorem gU_may {x : Evt} (hx : EvR x) {l : UInt8} (hl : isL l) (hm : mayN l (getN x l) = true) : gU x l = getN x l ∧ 0 ≤ getN x l ∧ getN x l < 18446744073709551616 ∧ (l = 118 ∨ getN x l < 9223372036854775808) := by
  obtain ⟨h0, h1, h2⟩ := hx.get hl hm
  refine ⟨?_, h0, h1, h2⟩
  unfold gU; split
  · rename_i h; subst h; rfl
  · exact wrap_u64 h0 h1
theorem gU_rng {x : Evt} (hx : EvR x) (l : UInt8) : 0 ≤ gU x l ∧ gU x l < 18446744073709551616 := by
  unfold gU; split
  · exact ⟨hx.v0, hx.v⟩
  · rw [wrapI_u64]; omega
theorem rMay_spec {H : AHeap} {x : Evt} (hx : EvR x) : CALLQ M N_ref23_May [.agg x.enc] H fun v H' => v = .bool (fineB x) ∧ Fr Em H H' := by
  refine ref23_May_s ?_
  have hf1 : Fr Em H (H.alloc (OR x.enc T_api_Event)) := (Fr.refl H).alloc _
  have e0 : x.enc[0]? = some (.int .i64 x.kind) := rfl
  have e1 : x.enc[1]? = some (.int .i64 x.time) := rfl
  have e2 : x.enc[2]? = some (.int .i64 x.core) := rfl
  by_cases c1 : x.kind < 1
  · simp (maxSteps := 4000000) (disch := first | (simp only [m_next_alloc, m_next_set]; done) | (simp only [m_next_alloc, m_next_set]; omega) | omega) only [↓JN_eq, CTL3, OPS3, MEM3, List.length_cons, List.length_nil, List.take_zero, List.take_succ_cons, List.drop_zero, List.drop_succ_cons, List.take_nil, List.drop_nil, Nat.reduceAdd, Nat.reduceSub, Nat.reduceLeDiff, Int.reduceLT, Int.reduceLE, Int.reduceEq, cast0, reduceIte, Nat.reduceEqDiff, ref23_May_w, c1, e0]
    exact ⟨by simp [fineB, show ¬ 1 ≤ x.kind by omega], hf1⟩
  by_cases c2 : 8 < x.kind
  · simp (maxSteps := 4000000) (disch := first | (simp only [m_next_alloc, m_next_set]; done) | (simp only [m_next_alloc, m_next_set]; omega) | omega) only [↓JN_eq, CTL3, OPS3, MEM3, List.length_cons, List.length_nil, List.take_zero, List.take_succ_cons, List.drop_zero, List.drop_succ_cons, List.take_nil, List.drop_nil, Nat.reduceAdd, Nat.reduceSub, Nat.reduceLeDiff, Int.reduceLT, Int.reduceLE, Int.reduceEq, cast0, reduceIte, Nat.reduceEqDiff, ref23_May_w, c1, c2, e0]
    exact ⟨by simp [fineB, show ¬ x.kind ≤ 8 by omega], hf1⟩
  by_cases c3 : x.core < 0
  · simp (maxSteps := 4000000) (disch := first | (simp only [m_next_alloc, m_next_set]; done) | (simp only [m_next_alloc, m_next_set]; omega) | omega) only [↓JN_eq, CTL3, OPS3, MEM3, List.length_cons, List.length_nil, List.take_zero, List.take_succ_cons, List.drop_zero, List.drop_succ_cons, List.take_nil, List.drop_nil, Nat.reduceAdd, Nat.reduceSub, Nat.reduceLeDiff, Int.reduceLT, Int.reduceLE, Int.reduceEq, cast0, reduceIte, Nat.reduceEqDiff, ref23_May_w, c1, c2, c3, e0, e2]
    exact ⟨by simp [fineB, show ¬ 0 ≤ x.core by omega], hf1⟩
  by_cases c4 : 4 ≤ x.core
  · simp (maxSteps := 4000000) (disch := first | (simp only [m_next_alloc, m_next_set]; done) | (simp only [m_next_alloc, m_next_set]; omega) | omega) only [↓JN_eq, CTL3, OPS3, MEM3, List.length_cons, List.length_nil, List.take_zero, List.take_succ_cons, List.drop_zero, List.drop_succ_cons, List.take_nil, List.drop_nil, Nat.reduceAdd, Nat.reduceSub, Nat.reduceLeDiff, Int.reduceLT, Int.reduceLE, Int.reduceEq, cast0, reduceIte, Nat.reduceEqDiff, ref23_May_w, c1, c2, c3, c4, e0, e2]
    exact ⟨by simp [fineB, show ¬ x.core < 4 by omega], hf1⟩
  by_cases c5 : x.time < 0
  · simp (maxSteps := 4000000) (disch := first | (simp only [m_next_alloc, m_next_set]; done) | (simp only [m_next_alloc, m_next_set]; omega) | omega) only [↓JN_eq, CTL3, OPS3, MEM3, List.length_cons, List.length_nil, List.take_zero, List.take_succ_cons, List.drop_zero, List.drop_succ_cons, List.take_nil, List.drop_nil, Nat.reduceAdd, Nat.reduceSub, Nat.reduceLeDiff, Int.reduceLT, Int.reduceLE, Int.reduceEq, cast0, reduceIte, Nat.reduceEqDiff, ref23_May_w, c1, c2, c3, c4, c5, e0, e1, e2]
    exact ⟨by simp [fineB, show ¬ 0 ≤ x.time by omega], hf1⟩
  simp (maxSteps := 4000000) (disch := first | (simp only [m_next_alloc, m_next_set]; done) | (simp only [m_next_alloc, m_next_set]; omega) | omega) only [↓JN_eq, CTL3, OPS3, MEM3, List.length_cons, List.length_nil, List.take_zero, List.take_succ_cons, List.drop_zero, List.drop_succ_cons, List.take_nil, List.drop_nil, Nat.reduceAdd, Nat.reduceSub, Nat.reduceLeDiff, Int.reduceLT, Int.reduceLE, Int.reduceEq, cast0, reduceIte, Nat.reduceEqDiff, ref23_May_w, c1, c2, c3, c4, c5, e0, e1, e2]
  refine C3.q (rFresh_spec (M := M)) fun v H2 ⟨hv, hf2⟩ => ?_
  subst hv
  have hg : H2.get H.next = some (OR x.enc T_api_Event) := by rw [hf2.keep _ (by rw [alloc_next]; omega) (fun h => h), get_alloc_new]
  have hn2 := hf2.next
  rw [alloc_next] at hn2
  have hf3 : Fr Em H (H2.alloc (OR (fresh x.kind x.core x.time).enc T_api_Event)) := (hf1.em hf2).alloc _
  simp (maxSteps := 4000000) (disch := first | (simp only [m_next_alloc, m_next_set]; done) | (simp only [m_next_alloc, m_next_set]; omega) | omega) only [↓JN_eq, CTL3, OPS3, MEM3, List.length_cons, List.length_nil, List.take_zero, List.take_succ_cons, List.drop_zero, List.drop_succ_cons, List.take_nil, List.drop_nil, Nat.reduceAdd, Nat.reduceSub, Nat.reduceLeDiff, Int.reduceLT, Int.reduceLE, Int.reduceEq, cast0, reduceIte, Nat.reduceEqDiff, ref23_May_w, hg, e0, e1, e2, ev9, Evt.one', List.append_nil, alloc_set, set_set]
  refine C3.q (rNamed_spec (M := M) (k := x.kind) (by omega) (by omega)) fun v H4 ⟨hv, hf4⟩ => ?_
  subst hv
  have hn4 := hf4.next
  rw [alloc_next] at hn4
  have hg4 : H4.get H.next = some (OR x.enc T_api_Event) := by rw [hf4.keep _ (by rw [alloc_next]; omega) (fun h => h), get_alloc_lt (by omega), hg]
  have hy4 : H4.get H2.next = some (OR (fresh x.kind x.core x.time).enc T_api_Event) := by rw [hf4.keep _ (by rw [alloc_next]; omega) (fun h => h), get_alloc_new]
  obtain ⟨s, hs⟩ : ∃ s, s = named x.kind := ⟨_, rfl⟩
  rw [← hs]
  have hsl : s.length ≤ 4 := by rw [hs]; unfold named; (repeat' split) <;> decide
  simp only [↓JN_eq, CTL3, OPS3, cast0, reduceIte, Nat.reduceEqDiff, ref23_May_w]
  refine LOOP3.intro (fun n E Hc => ∃ p y, E = [(4, .str s), (5, .int .i64 (p : Nat)), (3, .ptr H2.next 0), (1, .ptr H.next 0)] ∧ n = s.length - p ∧ p ≤ s.length ∧ Hc.get H.next = some (OR x.enc T_api_Event) ∧ Hc.get H2.next = some (OR y.enc T_api_Event) ∧ H2.next < Hc.next ∧ Fr Em H Hc ∧ goSet x (s.drop p) y = goSet x s (fresh x.kind x.core x.time)) ?_ ?_
  · exact ⟨_, _, ⟨0, fresh x.kind x.core x.time, rfl, rfl, by omega, hg4, hy4, by omega, hf3.em hf4, rfl⟩, by simp only [↓JN_eq, CTL3, OPS3, cast0, reduceIte, Nat.reduceEqDiff]⟩
  rintro n E Hc ⟨p, y, rfl, rfl, hp, g1, g3, hnx, hfc, hgo⟩
  have hfail : goSet x s (fresh x.kind x.core x.time) = none → fineB x = false := fun q => by simp [fineB, ← hs, q]
  rcases Nat.lt_or_ge p s.length with hlp | hlp
  · obtain ⟨l, hl⟩ : ∃ l, s[p]? = some l := ⟨s[p], by simp [hlp]⟩
    have hil := (named_128 (hs ▸ List.mem_of_getElem? hl : l ∈ named x.kind)).1
    have hd : s.drop p = l :: s.drop (p + 1) := by rw [List.drop_eq_getElem_cons hlp]; congr 1; simpa [hlp] using hl
    have e5 : (p : Int) < (s.length : Nat) := by omega
    have ex : Op.indexStr [.str s, .int .i64 (p : Int)] = some (cB l) := o_indexStr rfl hl
    simp (maxSteps := 4000000) (disch := first | (simp only [m_next_alloc, m_next_set]; done) | (simp only [m_next_alloc, m_next_set]; omega) | omega) only [↓JN_eq, CTL3, OPS3, MEM3, List.length_cons, List.length_nil, List.take_zero, List.take_succ_cons, List.drop_zero, List.drop_succ_cons, List.take_nil, List.drop_nil, Nat.reduceAdd, Nat.reduceSub, Nat.reduceLeDiff, Int.reduceLT, Int.reduceLE, Int.reduceEq, cast0, reduceIte, Nat.reduceEqDiff, ref23_May_w, e5, ex, g1, ev9, evt9]
    refine C3.q (rGet_spec (M := M) hil) fun v H5 ⟨hv, hf5⟩ => ?_
    subst hv
    have hn5 := hf5.next
    have k1 : H5.get H.next = some (OR x.enc T_api_Event) := by rw [hf5.keep _ (by omega) (fun h => h), g1]
    have k3 : H5.get H2.next = some (OR y.enc T_api_Event) := by rw [hf5.keep _ (by omega) (fun h => h), g3]
    obtain ⟨u0, u1⟩ := gU_rng hx l
    simp (maxSteps := 4000000) (disch := first | (simp only [m_next_alloc, m_next_set]; done) | (simp only [m_next_alloc, m_next_set]; omega) | omega) only [↓JN_eq, CTL3, OPS3, MEM3, List.length_cons, List.length_nil, List.take_zero, List.take_succ_cons, List.drop_zero, List.drop_succ_cons, List.take_nil, List.drop_nil, Nat.reduceAdd, Nat.reduceSub, Nat.reduceLeDiff, Int.reduceLT, Int.reduceLE, Int.reduceEq, cast0, reduceIte, Nat.reduceEqDiff, ref23_May_w, ex, k3, ev9, evt9]
    refine C3.q (rSet_spec (M := M) (y := y) hil u0 u1) fun v H6 ⟨⟨z, q, hv, hq, hz⟩, hf6⟩ => ?_
    subst hv
    have hn6 := hf6.next
    have m1 : H6.get H.next = some (OR x.enc T_api_Event) := by rw [hf6.keep _ (by omega) (fun h => h), k1]
    have m3 : H6.get H2.next = some (OR y.enc T_api_Event) := by rw [hf6.keep _ (by omega) (fun h => h), k3]
    rw [hd, goSet] at hgo
    have hf06 : Fr Em H (H6.alloc (OR z.enc T_api_Event)) := ((hfc.em hf5).em hf6).alloc _
    cases hm : mayN l (getN x l) with
    | false =>
      rw [hm] at hgo
      simp (maxSteps := 4000000) (disch := first | (simp only [m_next_alloc, m_next_set]; done) | (simp only [m_next_alloc, m_next_set]; omega) | omega) only [↓JN_eq, CTL3, OPS3, MEM3, List.length_cons, List.length_nil, List.take_zero, List.take_succ_cons, List.drop_zero, List.drop_succ_cons, List.take_nil, List.drop_nil, Nat.reduceAdd, Nat.reduceSub, Nat.reduceLeDiff, Int.reduceLT, Int.reduceLE, Int.reduceEq, cast0, reduceIte, Nat.reduceEqDiff, ref23_May_w, hm, ev9, evt9, Evt.one', List.append_nil, alloc_set]
      exact ⟨by rw [hfail hgo.symm], hf06⟩
    | true =>
      rw [hm, if_pos rfl] at hgo
      obtain ⟨gu, w0, w1, w2⟩ := gU_may hx hil hm
      have hqt : q = true := hq.2 (w2.imp id fun r => by rw [gu]; exact ⟨by omega, hm⟩)
      subst hqt
      have hz := hz rfl
      rw [gu] at hz
      have ek : wrapI .i64 ((p : Int) + 1) = ((p + 1 : Nat) : Int) := by rw [wrap_i64 (by omega) (by omega)]; omega
      simp (maxSteps := 4000000) (disch := first | (simp only [m_next_alloc, m_next_set]; done) | (simp only [m_next_alloc, m_next_set]; omega) | omega) only [↓JN_eq, CTL3, OPS3, MEM3, List.length_cons, List.length_nil, List.take_zero, List.take_succ_cons, List.drop_zero, List.drop_succ_cons, List.take_nil, List.drop_nil, Nat.reduceAdd, Nat.reduceSub, Nat.reduceLeDiff, Int.reduceLT, Int.reduceLE, Int.reduceEq, cast0, reduceIte, Nat.reduceEqDiff, ref23_May_w, hm, ev9, evt9, Evt.one', List.append_nil, List.nil_append, alloc_set, m3, ek, evd9]
      refine ⟨_, _, ⟨p + 1, z, rfl, rfl, by omega, by first | exact m1 | (rw [get_set_ne (by omega), get_alloc_lt (by omega), m1]), by first | rfl | exact get_set_same .., by first | omega | (rw [set_next, alloc_next]; omega), ?_, by rw [hz]; exact hgo⟩, by simp only [↓JN_eq, CTL3, OPS3, cast0, reduceIte, Nat.reduceEqDiff], by omega⟩
      · exact hf06.set (.inr (by omega)) _
  · have hp : p = s.length := by omega
    subst hp
    rw [List.drop_length, goSet] at hgo
    have e5 : ¬ ((s.length : Nat) : Int) < (s.length : Nat) := by omega
    simp (maxSteps := 4000000) (disch := first | (simp only [m_next_alloc, m_next_set]; done) | (simp only [m_next_alloc, m_next_set]; omega) | omega) only [↓JN_eq, CTL3, OPS3, MEM3, List.length_cons, List.length_nil, List.take_zero, List.take_succ_cons, List.drop_zero, List.drop_succ_cons, List.take_nil, List.drop_nil, Nat.reduceAdd, Nat.reduceSub, Nat.reduceLeDiff, Int.reduceLT, Int.reduceLE, Int.reduceEq, cast0, reduceIte, Nat.reduceEqDiff, ref23_May_w, e5, g1, g3, ev9, evt9, ev_q]
    refine ⟨?_, hfc⟩
    simp only [fineB, ← hs, ← hgo]
    rw [decide_eq_true (show 1 ≤ x.kind ∧ x.kind ≤ 8 ∧ 0 ≤ x.core ∧ x.core < 4 ∧ 0 ≤ x.time by omega)]
    simp [eq_comm]
end Go.Am
namespace Go.Am
set_option linter.unusedVariables false
set_option linter.unusedSimpArgs false
set_option linter.unusedSectionVars false
set_option maxRecDepth 100000
open Tr
open Lang (dec)
variable {M : Mac} [MK M]
theorem rEncode_spec {H : AHeap} {a : AV} {h : List Evt} (ha : SlT Evt.enc 9 H a h) (hx : ∀ x ∈ h, EvR x) (hl : h.length ≤ 5000) :
    CALLQ M N_ref23_Encode [a] H fun v H' => ∃ w, v = .tuple [w, .int .i64 (eN h)] ∧ NewB H H' w (eB h) := by
  refine ref23_Encode_s ?_
  simp only [↓JN_eq, CTL3, OPS3, cast0, reduceIte, Nat.reduceEqDiff, ref23_Encode_w]
  refine LOOP3.intro (fun n E Hc => ∃ i w, E = [(0, a), (4, w), (5, .int .i64 (i : Nat))] ∧ n = h.length - i ∧ i ≤ h.length ∧ (h.take i).all fineB = true ∧ NewB H Hc w ((h.take i).flatMap encE)) ?_ ?_
  · exact ⟨_, _, ⟨0, .nils, rfl, rfl, by omega, by simp, New.nil H⟩, by simp only [↓JN_eq, CTL3, OPS3, cast0, reduceIte, Nat.reduceEqDiff]⟩
  rintro n E Hc ⟨i, w, rfl, rfl, hi, hfi, hw⟩
  simp only [↓JN_eq, CTL3, OPS3, cast0, reduceIte, Nat.reduceEqDiff, ref23_Encode_w, ha.len]
  refine IF3.dec (fun hlt => ?_) (fun hge => ?_)
  · have hlt : i < h.length := by omega
    obtain ⟨x, hxi⟩ : ∃ x, h[i]? = some x := ⟨h[i], by simp [hlt]⟩
    have hxm := List.mem_of_getElem? hxi
    have hxr := hx x hxm
    have ha1 := ha.em hw.fr
    have htk : h.take (i + 1) = h.take i ++ [x] := by rw [List.take_add_one, hxi]; rfl
    have ew : wrapI .i64 ((i : Nat) + 1 : Int) = ((i + 1 : Nat) : Int) := wrap_i64 (by omega) (by omega)
    have hbl : ((h.take i).flatMap encE).length ≤ 5000 * 61 := by
      refine Nat.le_trans (flat_le (k := 61) fun y hy => encE_le (hx y (List.mem_of_mem_take hy)) (List.all_eq_true.1 hfi y hy)) (Nat.mul_le_mul_right _ (by rw [List.length_take]; omega))
    simp only [↓JN_eq, CTL3, OPS3, cast0, reduceIte, Nat.reduceEqDiff, ref23_Encode_w, ha1.idx hxi rfl, ha1.loadN Evt.len (show 0 < 9 by omega) hxi]
    refine C3.q (rMay_spec (M := M) hxr) fun v H2 ⟨hv, hf2⟩ => ?_
    subst hv
    have hw2 := hw.em hf2
    have ha2 := ha1.em hf2
    cases hq : fineB x with
    | false =>
      simp only [↓JN_eq, CTL3, OPS3, cast0, reduceIte, Nat.reduceEqDiff, ref23_Encode_w, hq]
      have hnf : h.all fineB = false := by
        rw [Bool.eq_false_iff]; intro hall
        have := List.all_eq_true.1 hall x hxm
        rw [hq] at this; exact absurd this (by decide)
      exact ⟨.nils, by simp [eN, hnf], by simpa [eB, hnf] using (New.nil H).em hw2.fr⟩
    | true =>
      obtain ⟨⟨h1, h2, h3, h4, h5⟩, h6⟩ := fine_parts hq
      have e8 : (UInt8.ofNat x.kind.toNat).toNat = x.kind.toNat := ofNat_lt (by omega)
      have w8 : wrapI .u8 x.kind = ((x.kind.toNat : Nat) : Int) := by rw [wrapI_u8]; omega
      have wc : wrapI .u64 x.core = ((x.core.toNat : Nat) : Int) := by rw [wrap_u64 h3 (by omega)]; omega
      have wt : wrapI .u64 x.time = ((x.time.toNat : Nat) : Int) := by have := hxr.time; rw [wrap_u64 h5 (by omega)]; omega
      simp only [↓JN_eq, CTL3, OPS3, cast0, reduceIte, Nat.reduceEqDiff, ref23_Encode_w, hq, ha2.idx hxi rfl, ha2.load0 Evt.len hxi (by omega), Evt.enc, w8]
      refine hw2.app4 (bytes := 1) (a := UInt8.ofNat x.kind.toNat) (by rw [encB, e8]; rfl) rfl rfl rfl (by omega) (by omega) (by omega) fun v3 H3 hv3 hf3 => ?_
      have ha3 := ha.em hv3.fr
      simp only [↓JN_eq, CTL3, OPS3, cast0, reduceIte, Nat.reduceEqDiff, ref23_Encode_w, ha3.idx hxi rfl, ha3.load1 Evt.len hxi (j := 2) (by omega), Evt.enc, wc]
      refine C3.q (rput_spec (M := M) hv3 (by omega) (by rw [List.length_append, List.length_singleton]; omega)) fun v4 H4 ⟨hv4, hf4⟩ => ?_
      have hcl : (putB x.core.toNat).length ≤ 10 := putB_len 9 _ (Nat.lt_of_le_of_lt (show x.core.toNat ≤ 4 by omega) (by decide))
      have htl : (putB x.time.toNat).length ≤ 10 := putB_len 9 _ (Nat.lt_trans (show x.time.toNat < 9223372036854775808 by have := hxr.time; omega) (by decide))
      have ha4 := ha.em hv4.fr
      simp only [↓JN_eq, CTL3, OPS3, cast0, reduceIte, Nat.reduceEqDiff, ref23_Encode_w, ha4.idx hxi rfl, ha4.load1 Evt.len hxi (j := 1) (by omega), Evt.enc, wt]
      refine C3.q (rput_spec (M := M) hv4 (by have := hxr.time; omega) (by simp only [List.length_append, List.length_singleton]; omega)) fun v5 H5 ⟨hv5, hf5⟩ => ?_
      have ha5 := ha.em hv5.fr
      simp only [↓JN_eq, CTL3, OPS3, cast0, reduceIte, Nat.reduceEqDiff, ref23_Encode_w, ha5.idx hxi rfl, ha5.load0 Evt.len hxi (by omega), Evt.enc]
      refine C3.q (rNamed_spec (M := M) h1 h2) fun v H6 ⟨hv, hf6⟩ => ?_
      subst hv
      have hv6 := hv5.em hf6
      obtain ⟨s, hs⟩ : ∃ s, s = named x.kind := ⟨_, rfl⟩
      rw [← hs]
      have hsl : s.length ≤ 4 := by rw [hs]; unfold named; (repeat' split) <;> decide
      have hyl : ((h.take i).flatMap encE ++ [UInt8.ofNat x.kind.toNat] ++ putB x.core.toNat ++ putB x.time.toNat).length ≤ 5000 * 61 + 21 := by simp only [List.length_append, List.length_singleton]; omega
      generalize hys : (h.take i).flatMap encE ++ [UInt8.ofNat x.kind.toNat] ++ putB x.core.toNat ++ putB x.time.toNat = ys at hv6 hyl
      have hfld : ∀ l ∈ s, gU x l = ((numB x l : Nat) : Int) ∧ numB x l < 18446744073709551616 ∧ isL l := fun l hl => by
        have hil := (named_128 (hs ▸ hl : l ∈ named x.kind)).1
        obtain ⟨q1, q2, q3, _⟩ := gU_may hxr hil (goSet_may _ _ _ h6 l (hs ▸ hl))
        exact ⟨by rw [q1]; unfold numB; omega, by unfold numB; omega, hil⟩
      simp only [↓JN_eq, CTL3, OPS3, cast0, reduceIte, Nat.reduceEqDiff, ref23_Encode_w]
      refine LOOP3.intro (fun n E Hc => ∃ p w, E = [(7, .str s), (8, .int .i64 (p : Nat)), (4, w), (0, a), (5, .int .i64 (i : Nat))] ∧ n = s.length - p ∧ p ≤ s.length ∧ NewB H Hc w (ys ++ (s.take p).flatMap fun l => putB (numB x l))) ?_ ?_
      · exact ⟨_, _, ⟨0, v5, rfl, rfl, by omega, by simpa using hv6⟩, by simp only [↓JN_eq, CTL3, OPS3, cast0, reduceIte, Nat.reduceEqDiff]⟩
      rintro n E Hd ⟨p, wd, rfl, rfl, hp, hwd⟩
      have had := ha.em hwd.fr
      rcases Nat.lt_or_ge p s.length with hlp | hlp
      · obtain ⟨l, hl⟩ : ∃ l, s[p]? = some l := ⟨s[p], by simp [hlp]⟩
        obtain ⟨g1, g2, hil⟩ := hfld l (List.mem_of_getElem? hl)
        have e5 : (p : Int) < (s.length : Nat) := by omega
        have ex : Op.indexStr [.str s, .int .i64 (p : Int)] = some (cB l) := o_indexStr rfl hl
        have ek : wrapI .i64 ((p : Int) + 1) = ((p + 1 : Nat) : Int) := by rw [wrap_i64 (by omega) (by omega)]; omega
        have hpl : ((s.take p).flatMap fun l => putB (numB x l)).length ≤ 40 := by
          refine Nat.le_trans (flat_le (k := 10) fun l hl => ?_) (by rw [List.length_take]; omega)
          exact putB_len 9 _ (Nat.lt_of_lt_of_le (hfld l (List.mem_of_mem_take hl)).2.1 (by decide))
        simp only [↓JN_eq, CTL3, OPS3, cast0, reduceIte, Nat.reduceEqDiff, ref23_Encode_w, e5, ex, had.idx hxi rfl, had.loadN Evt.len (show 0 < 9 by omega) hxi]
        refine C3.q (rGet_spec (M := M) hil) fun v H7 ⟨hv, hf7⟩ => ?_
        subst hv
        simp only [↓JN_eq, CTL3, OPS3, cast0, reduceIte, Nat.reduceEqDiff, ref23_Encode_w, extract_tuple, g1]
        refine C3.q (rput_spec (M := M) (hwd.em hf7) g2 (by rw [List.length_append]; omega)) fun v8 H8 ⟨hv8, hf8⟩ => ?_
        simp only [↓JN_eq, CTL3, OPS3, cast0, reduceIte, Nat.reduceEqDiff, ref23_Encode_w, ek]
        refine ⟨_, _, ⟨p + 1, v8, rfl, rfl, by omega, ?_⟩, by simp only [↓JN_eq, CTL3, OPS3, cast0, reduceIte, Nat.reduceEqDiff], by omega⟩
        rw [List.take_add_one, hl, List.flatMap_append, ← List.append_assoc]
        simpa using hv8
      · have hp : p = s.length := by omega
        subst hp
        have e5 : ¬ ((s.length : Nat) : Int) < (s.length : Nat) := by omega
        simp only [↓JN_eq, CTL3, OPS3, cast0, reduceIte, Nat.reduceEqDiff, ref23_Encode_w, e5, ew]
        refine ⟨_, _, ⟨i + 1, wd, rfl, rfl, by omega, by rw [htk, List.all_append, hfi]; simp [hq], ?_⟩, by simp only [↓JN_eq, CTL3, OPS3, cast0, reduceIte, Nat.reduceEqDiff], by omega⟩
        rw [List.take_length, ← hys] at hwd
        rw [htk, List.flatMap_append]
        rw [hs] at hwd
        simpa [encE] using hwd
  · simp only [↓JN_eq, CTL3, OPS3, cast0, reduceIte, Nat.reduceEqDiff, ref23_Encode_w]
    rw [List.take_of_length_le (by omega)] at hfi hw
    exact ⟨w, by simp [eN, hfi], by simpa [eB, hfi] using hw⟩
end Go.Am
namespace Go.Am
set_option linter.unusedVariables false
set_option linter.unusedSimpArgs false
set_option linter.unusedSectionVars false
set_option maxRecDepth 100000
open Tr
open Lang (dec)
variable {M : Mac} [MK M]
theorem rdigitsI_spec {H : AHeap} {t : Int} (h0 : 0 ≤ t) (h1 : t < 18446744073709551616) : CALLQ M N_ref23_digits [.int .u64 t] H fun v H' => v = .str (dec t.toNat) ∧ Fr Em H H' := by
  have := rdigits_spec (M := M) (H := H) (n := t.toNat) (by omega)
  rwa [show ((t.toNat : Nat) : Int) = t by omega] at this
theorem rLine_spec {H : AHeap} {x : Evt} (hx : EvR x) (hfi : fineB x = true) : CALLQ M N_ref23_Line [.agg x.enc] H fun v H' => v = .str (lineB x) ∧ Fr Em H H' := by
  refine ref23_Line_s ?_
  obtain ⟨⟨h1, h2, h3, h4, h5⟩, h6⟩ := fine_parts hfi
  have e0 : x.enc[0]? = some (.int .i64 x.kind) := rfl
  have e1 : x.enc[1]? = some (.int .i64 x.time) := rfl
  have e2 : x.enc[2]? = some (.int .i64 x.core) := rfl
  have htm := hx.time
  have wc : wrapI .u64 x.core = x.core := wrap_u64 h3 (by omega)
  have wt : wrapI .u64 x.time = x.time := wrap_u64 h5 (by omega)
  have dt := Lang.dec_len20 (n := x.time.toNat) (by omega)
  have dc := Lang.dec_len20 (n := x.core.toNat) (by omega)
  have dk := kword_len x.kind
  have hf1 : Fr Em H (H.alloc (OR x.enc T_api_Event)) := (Fr.refl H).alloc _
  simp only [↓JN_eq, CTL3, OPS3, cast0, reduceIte, Nat.reduceEqDiff, ref23_Line_w, load1_new, e0, e1, e2, wc, wt]
  refine C3.q (rdigitsI_spec (M := M) h5 (by omega)) fun v H2 ⟨hv, hf2⟩ => ?_
  subst hv
  have hg2 : H2.get H.next = some (OR x.enc T_api_Event) := by rw [hf2.keep _ (by rw [alloc_next]; omega) (fun h => h), get_alloc_new]
  have hl2 : H.next < H2.next := by have := hf2.next; rw [alloc_next] at this; omega
  have l2 : ∀ o, Op.load1 [.ptr H.next o] H2 = x.enc[o]? := fun o => load1_of (cellsAt_row hg2) o
  simp only [↓JN_eq, CTL3, OPS3, cast0, reduceIte, Nat.reduceEqDiff, ref23_Line_w, l2, e0, e2, CK3_same, o_cat (dec x.time.toNat) [32] (by simp only [List.length_singleton]; omega)]
  refine C3.q (rdigitsI_spec (M := M) h3 (by omega)) fun v H3 ⟨hv, hf3⟩ => ?_
  subst hv
  have hg3 : H3.get H.next = some (OR x.enc T_api_Event) := by rw [hf3.keep _ hl2 (fun h => h), hg2]
  have hl3 : H.next < H3.next := Nat.lt_of_lt_of_le hl2 hf3.next
  have l3 : ∀ o, Op.load1 [.ptr H.next o] H3 = x.enc[o]? := fun o => load1_of (cellsAt_row hg3) o
  simp only [↓JN_eq, CTL3, OPS3, cast0, reduceIte, Nat.reduceEqDiff, ref23_Line_w, l3, e0, CK3_same, o_cat (dec x.time.toNat ++ [32]) (dec x.core.toNat) (by simp only [List.length_append, List.length_singleton]; omega), o_cat (dec x.time.toNat ++ [32] ++ dec x.core.toNat) [32] (by simp only [List.length_append, List.length_singleton]; omega)]
  refine C3.q (rWord_spec (M := M) h1 h2) fun v H4 ⟨hv, hf4⟩ => ?_
  subst hv
  have hg4 : H4.get H.next = some (OR x.enc T_api_Event) := by rw [hf4.keep _ hl3 (fun h => h), hg3]
  have hl4 : H.next < H4.next := Nat.lt_of_lt_of_le hl3 hf4.next
  have l4 : ∀ o, Op.load1 [.ptr H.next o] H4 = x.enc[o]? := fun o => load1_of (cellsAt_row hg4) o
  simp only [↓JN_eq, CTL3, OPS3, cast0, reduceIte, Nat.reduceEqDiff, ref23_Line_w, l4, e0, o_cat (dec x.time.toNat ++ [32] ++ dec x.core.toNat ++ [32]) (kword x.kind) (by simp only [List.length_append, List.length_singleton]; omega)]
  refine C3.q (rNamed_spec (M := M) h1 h2) fun v H5 ⟨hv, hf5⟩ => ?_
  subst hv
  have hg5 : H5.get H.next = some (OR x.enc T_api_Event) := by rw [hf5.keep _ hl4 (fun h => h), hg4]
  have hl5 : H.next < H5.next := Nat.lt_of_lt_of_le hl4 hf5.next
  have hf05 : Fr Em H H5 := (((hf1.em hf2).em hf3).em hf4).em hf5
  obtain ⟨s, hs⟩ : ∃ s, s = named x.kind := ⟨_, rfl⟩
  rw [← hs]
  have hsl : s.length ≤ 4 := by rw [hs]; unfold named; (repeat' split) <;> decide
  have hfld : ∀ l ∈ s, gU x l = getN x l ∧ 0 ≤ getN x l ∧ getN x l < 18446744073709551616 ∧ isL l ∧ mayN l (getN x l) = true := fun l hl => by
    have hil := (named_128 (hs ▸ hl : l ∈ named x.kind)).1
    have hm := goSet_may _ _ _ h6 l (hs ▸ hl)
    obtain ⟨q1, q2, q3, _⟩ := gU_may hx hil hm
    exact ⟨q1, q2, q3, hil, hm⟩
  have hpl : (dec x.time.toNat ++ [32] ++ dec x.core.toNat ++ [32] ++ kword x.kind).length ≤ 100 := by simp only [List.length_append, List.length_singleton]; omega
  have hlb : lineB x = (dec x.time.toNat ++ [32] ++ dec x.core.toNat ++ [32] ++ kword x.kind) ++ s.flatMap fun l => 32 :: wordB x l := by rw [hs, lineB]; simp
  generalize dec x.time.toNat ++ [32] ++ dec x.core.toNat ++ [32] ++ kword x.kind = pre at hpl hlb
  simp only [↓JN_eq, CTL3, OPS3, cast0, reduceIte, Nat.reduceEqDiff, ref23_Line_w]
  refine LOOP3.intro (fun n E Hc => ∃ p, E = [(4, .str s), (5, .int .i64 (p : Nat)), (3, .str (pre ++ (s.take p).flatMap fun l => 32 :: wordB x l)), (1, .ptr H.next 0)] ∧ n = s.length - p ∧ p ≤ s.length ∧ Hc.get H.next = some (OR x.enc T_api_Event) ∧ H.next < Hc.next ∧ Fr Em H Hc) ?_ ?_
  · exact ⟨_, _, ⟨0, rfl, rfl, by omega, hg5, hl5, hf05⟩, by simp only [↓JN_eq, CTL3, OPS3, cast0, reduceIte, Nat.reduceEqDiff]; simp⟩
  rintro n E Hc ⟨p, rfl, rfl, hp, g1, g2, hfc⟩
  rcases Nat.lt_or_ge p s.length with hlp | hlp
  · obtain ⟨l, hl⟩ : ∃ l, s[p]? = some l := ⟨s[p], by simp [hlp]⟩
    obtain ⟨gu, r0, r1, hil, hm⟩ := hfld l (List.mem_of_getElem? hl)
    have e5 : (p : Int) < (s.length : Nat) := by omega
    have ex : Op.indexStr [.str s, .int .i64 (p : Int)] = some (cB l) := o_indexStr rfl hl
    have ek : wrapI .i64 ((p : Int) + 1) = ((p + 1 : Nat) : Int) := by rw [wrap_i64 (by omega) (by omega)]; omega
    have lN : Op.loadN 9 [.ptr H.next 0] Hc = some (.agg x.enc) := by rw [loadN_of (c := x.enc) (cellsAt_row g1) (by rw [ev9]; omega)]; rfl
    have htk : s.take (p + 1) = s.take p ++ [l] := by rw [List.take_add_one, hl]; rfl
    have hbl : (pre ++ (s.take p).flatMap fun l => 32 :: wordB x l).length ≤ 100 + 84 := by
      have := flat_le (l := s.take p) (f := fun l => 32 :: wordB x l) (k := 21) fun l hl => by
        obtain ⟨_, q2, q3, _⟩ := hfld l (List.mem_of_mem_take hl)
        have := word_len (x := x) (l := l) (by unfold numB; omega)
        rw [List.length_cons]; omega
      rw [List.length_take] at this
      rw [List.length_append]; omega
    have hnx : pre ++ (s.take (p + 1)).flatMap (fun l => 32 :: wordB x l) = (pre ++ (s.take p).flatMap fun l => 32 :: wordB x l) ++ [32] ++ wordB x l := by rw [htk, List.flatMap_append]; simp
    generalize hacc : pre ++ (s.take p).flatMap (fun l => 32 :: wordB x l) = acc at hbl hnx
    have hwl := word_len (x := x) (l := l) (by unfold numB; omega)
    have c1 := o_cat acc [32] (by simp only [List.length_singleton]; omega)
    have c2 := o_cat (acc ++ [32]) (wordB x l) (by simp only [List.length_append, List.length_singleton]; omega)
    simp only [↓JN_eq, CTL3, OPS3, cast0, reduceIte, Nat.reduceEqDiff, ref23_Line_w, e5, ex, lN]
    refine C3.q (rGet_spec (M := M) hil) fun v H7 ⟨hv, hf7⟩ => ?_
    subst hv
    simp only [↓JN_eq, CTL3, OPS3, cast0, reduceIte, Nat.reduceEqDiff, ref23_Line_w, extract_tuple, gu, ex]
    refine C3.q (rWords_spec (M := M) hil) fun w2 H8 ⟨hf8, hw2⟩ => ?_
    have hn7 := hf7.next
    have hn8 := hf8.next
    have m1 : H8.get H.next = some (OR x.enc T_api_Event) := by rw [hf8.keep _ (by omega) (fun h => h), hf7.keep _ g2 (fun h => h), g1]
    have hf08 := (hfc.em hf7).em hf8
    by_cases hz : (wordsOf l).length = 0
    · have e10 : ¬ (0 : Int) < (((wordsOf l).length : Nat) : Int) := by omega
      have hwd : wordB x l = dec (getN x l).toNat := by unfold wordB; rw [List.getElem?_eq_none (by omega)]; rfl
      simp only [↓JN_eq, CTL3, OPS3, cast0, reduceIte, Nat.reduceEqDiff, ref23_Line_w, hw2.len, e10]
      refine C3.q (rdigitsI_spec (M := M) r0 r1) fun v H9 ⟨hv, hf9⟩ => ?_
      subst hv
      rw [← hwd]
      have hn9 := hf9.next
      simp only [↓JN_eq, CTL3, OPS3, cast0, reduceIte, Nat.reduceEqDiff, ref23_Line_w, c1, c2, ek]
      exact ⟨_, _, ⟨p + 1, rfl, rfl, by omega, by rw [hf9.keep _ (by omega) (fun h => h), m1], by omega, hf08.em hf9⟩, by simp only [↓JN_eq, CTL3, OPS3, cast0, reduceIte, Nat.reduceEqDiff, hnx], by omega⟩
    · have e10 : (0 : Int) < (((wordsOf l).length : Nat) : Int) := by omega
      have hm2 : 1 ≤ getN x l ∧ getN x l < (wordsOf l).length := by
        unfold mayN at hm
        split at hm
        · rename_i h118; subst h118; exact absurd rfl hz
        · have := (of_decide_eq_true hm).2; omega
      obtain ⟨word, hwd⟩ : ∃ word, (wordsOf l)[numB x l]? = some word := ⟨(wordsOf l)[numB x l]'(by unfold numB; omega), by rw [List.getElem?_eq_getElem]⟩
      have hwe : wordB x l = word := by unfold wordB; rw [hwd]
      rw [hwe] at c2 hnx
      simp only [↓JN_eq, CTL3, OPS3, cast0, reduceIte, Nat.reduceEqDiff, ref23_Line_w, hw2.len, e10, hw2.idx hwd (z := getN x l) (by unfold numB; omega), hw2.load0 encS_len hwd (by omega), encS, c1, c2, ek]
      exact ⟨_, _, ⟨p + 1, rfl, rfl, by omega, m1, by omega, hf08⟩, by simp only [↓JN_eq, CTL3, OPS3, cast0, reduceIte, Nat.reduceEqDiff, hnx], by omega⟩
  · have hp : p = s.length := by omega
    subst hp
    have e5 : ¬ ((s.length : Nat) : Int) < (s.length : Nat) := by omega
    simp only [↓JN_eq, CTL3, OPS3, cast0, reduceIte, Nat.reduceEqDiff, ref23_Line_w, e5]
    rw [List.take_length, hlb]
    exact ⟨rfl, hfc⟩
theorem rText_spec {H : AHeap} {a : AV} {h : List Evt} (ha : SlT Evt.enc 9 H a h) (hx : ∀ x ∈ h, EvR x) (hl : h.length ≤ 5000) :
    CALLQ M N_ref23_Text [a] H fun v H' => v = .tuple [.str (tB h), .int .i64 (eN h)] ∧ Fr Em H H' := by
  refine ref23_Text_s ?_
  simp only [↓JN_eq, CTL3, OPS3, cast0, reduceIte, Nat.reduceEqDiff, ref23_Text_w]
  refine LOOP3.intro (fun n E Hc => ∃ i, E = [(0, a), (4, .str (textB (h.take i))), (5, .int .i64 (i : Nat))] ∧ n = h.length - i ∧ i ≤ h.length ∧ (h.take i).all fineB = true ∧ Fr Em H Hc) ?_ ?_
  · exact ⟨_, _, ⟨0, rfl, rfl, by omega, by simp, Fr.refl _⟩, by simp only [↓JN_eq, CTL3, OPS3, cast0, reduceIte, Nat.reduceEqDiff]; rfl⟩
  rintro n E Hc ⟨i, rfl, rfl, hi, hfi, hfc⟩
  have ha1 := ha.em hfc
  simp only [↓JN_eq, CTL3, OPS3, cast0, reduceIte, Nat.reduceEqDiff, ref23_Text_w, ha1.len]
  refine IF3.dec (fun hlt => ?_) (fun hge => ?_)
  · have hlt : i < h.length := by omega
    obtain ⟨x, hxi⟩ : ∃ x, h[i]? = some x := ⟨h[i], by simp [hlt]⟩
    have hxm := List.mem_of_getElem? hxi
    have hxr := hx x hxm
    have htk : h.take (i + 1) = h.take i ++ [x] := by rw [List.take_add_one, hxi]; rfl
    have ew : wrapI .i64 ((i : Nat) + 1 : Int) = ((i + 1 : Nat) : Int) := wrap_i64 (by omega) (by omega)
    simp only [↓JN_eq, CTL3, OPS3, cast0, reduceIte, Nat.reduceEqDiff, ref23_Text_w, ha1.idx hxi rfl, ha1.loadN Evt.len (show 0 < 9 by omega) hxi]
    refine C3.q (rMay_spec (M := M) hxr) fun v H2 ⟨hv, hf2⟩ => ?_
    subst hv
    have hf02 := hfc.em hf2
    have ha2 := ha.em hf02
    cases hq : fineB x with
    | false =>
      simp only [↓JN_eq, CTL3, OPS3, cast0, reduceIte, Nat.reduceEqDiff, ref23_Text_w, hq]
      have hnf : h.all fineB = false := by
        rw [Bool.eq_false_iff]; intro hall
        have := List.all_eq_true.1 hall x hxm
        rw [hq] at this; exact absurd this (by decide)
      exact ⟨by simp [tB, eN, hnf], hf02⟩
    | true =>
      simp only [↓JN_eq, CTL3, OPS3, cast0, reduceIte, Nat.reduceEqDiff, ref23_Text_w, hq, ha2.idx hxi rfl, ha2.loadN Evt.len (show 0 < 9 by omega) hxi]
      refine C3.q (rLine_spec (M := M) hxr hq) fun v H3 ⟨hv, hf3⟩ => ?_
      subst hv
      have hbl : (textB (h.take i)).length ≤ 5000 * 201 := Nat.le_trans (textB_le (fun y hy => hx y (List.mem_of_mem_take hy)) hfi) (Nat.mul_le_mul_right _ (by rw [List.length_take]; omega))
      have hll := line_len hxr hq
      have hnx : textB (h.take (i + 1)) = textB (h.take i) ++ lineB x ++ [10] := by rw [htk]; simp [textB, List.flatMap_append]
      have c1 := o_cat (textB (h.take i)) (lineB x) (by omega)
      have c2 := o_cat (textB (h.take i) ++ lineB x) [10] (by simp only [List.length_append, List.length_singleton]; omega)
      simp only [↓JN_eq, CTL3, OPS3, cast0, reduceIte, Nat.reduceEqDiff, ref23_Text_w, c1, c2, ew]
      exact ⟨_, _, ⟨i + 1, rfl, rfl, by omega, by rw [htk, List.all_append, hfi]; simp [hq], hf02.em hf3⟩, by simp only [↓JN_eq, CTL3, OPS3, cast0, reduceIte, Nat.reduceEqDiff, hnx], by omega⟩
  · simp only [↓JN_eq, CTL3, OPS3, cast0, reduceIte, Nat.reduceEqDiff, ref23_Text_w]
    rw [List.take_of_length_le (by omega)] at hfi ⊢
    exact ⟨by simp [tB, eN, hfi], hfc⟩
end Go.Am
namespace Go.Am
set_option linter.unusedVariables false
set_option linter.unusedSimpArgs false
set_option linter.unusedSectionVars false
set_option maxRecDepth 100000
open Tr
open Lang (dec)
variable {M : Mac} [MK M]
def ev77 : Evt := ⟨77, 0, 0, 0, 0, 0, 0, 0, 0⟩
theorem twin_spec {H : AHeap} {a : AV} {xs : List Evt} (ha : SlT Evt.enc 9 H a xs) (hl : xs.length < 900000) : CALLQ M N_law23_twin [a] H fun v H' => NewE H H' v (xs ++ [ev77]) := by
  refine law23_twin_s ?_
  simp only [↓JN_eq, CTL3, OPS3, cast0, reduceIte, Nat.reduceEqDiff, law23_twin_w]
  refine app_s3 (New.nil H) ha (by simp; omega) fun v2 H2 hv2 hf2 => ?_
  rw [List.nil_append] at hv2
  have e7 : (Op.build [(.int .i64 0), (.int .i64 0), (.int .i64 0), (.int .i64 0), (.int .i64 0), (.int .i64 0), (.int .i64 0), (.int .u64 0), (.int .i64 0)] [(0, 1)]) [(.int .i64 77)] = some (.agg ev77.enc) := rfl
  simp only [↓JN_eq, CTL3, OPS3, cast0, reduceIte, Nat.reduceEqDiff, e7]
  refine hv2.app4 (bytes := 72) (a := ev77) rfl rfl rfl rfl (by omega) (by omega) (by omega) fun v3 H3 hv3 hf3 => ?_
  simp only [↓JN_eq, CTL3, OPS3, cast0, reduceIte, Nat.reduceEqDiff, law23_twin_w]
  exact hv3
theorem TraceWrites_law {H : AHeap} (ht : Tab H) {a : AV} {xs : List Evt} (ha : SlT Evt.enc 9 H a xs) (hx : ∀ x ∈ xs, EvR x) :
    CALLQ M N_law23_TraceWrites [a] H fun v _ => v = .bool true := by
  refine law23_TraceWrites_s ?_
  by_cases hl1 : (300 : Int) < (xs.length : Nat)
  · simp only [↓JN_eq, CTL3, OPS3, cast0, reduceIte, Nat.reduceEqDiff, law23_TraceWrites_w, ha.len, hl1]
  simp only [↓JN_eq, CTL3, OPS3, cast0, reduceIte, Nat.reduceEqDiff, law23_TraceWrites_w, ha.len, hl1]
  refine C3.q (twin_spec (M := M) ha (by omega)) fun t H1 hv1 => ?_
  obtain ⟨c, hc, hs1, _⟩ := hv1.sl.upto Evt.len (k := xs.length) (by simp) (z := (xs.length : Nat)) rfl .i64
  rw [List.take_left] at hs1
  have ha1 := ha.em hv1.fr
  simp only [↓JN_eq, CTL3, OPS3, cast0, reduceIte, Nat.reduceEqDiff, law23_TraceWrites_w, ha.len, hc]
  refine C3.q (Enc_spec (M := M) hs1 (ht.em hv1.fr) hx (by omega)) fun v H2 ⟨w2, hv, hw2⟩ => ?_
  subst hv
  have f2 := hv1.fr.em hw2.fr
  simp (maxSteps := 4000000) (disch := first | (simp only [m_next_alloc, m_next_set]; done) | (simp only [m_next_alloc, m_next_set]; omega) | omega) only [↓JN_eq, CTL3, OPS3, MEM3, List.length_cons, List.length_nil, List.take_zero, List.take_succ_cons, List.drop_zero, List.drop_succ_cons, List.take_nil, List.drop_nil, Nat.reduceAdd, Nat.reduceSub, Nat.reduceLeDiff, Int.reduceLT, Int.reduceLE, Int.reduceEq, cast0, reduceIte, Nat.reduceEqDiff, law23_TraceWrites_w]
  refine C3.q (rEncode_spec (M := M) (ha.em f2) hx (by omega)) fun v H3 ⟨w3, hv, hw3⟩ => ?_
  subst hv
  have f3 := f2.em hw3.fr
  have hs3 := (hs1.em hw2.fr).em hw3.fr
  simp (maxSteps := 4000000) (disch := first | (simp only [m_next_alloc, m_next_set]; done) | (simp only [m_next_alloc, m_next_set]; omega) | omega) only [↓JN_eq, CTL3, OPS3, MEM3, List.length_cons, List.length_nil, List.take_zero, List.take_succ_cons, List.drop_zero, List.drop_succ_cons, List.take_nil, List.drop_nil, Nat.reduceAdd, Nat.reduceSub, Nat.reduceLeDiff, Int.reduceLT, Int.reduceLE, Int.reduceEq, cast0, reduceIte, Nat.reduceEqDiff, law23_TraceWrites_w, (ha.em f2).len, ha.len, hc]
  refine C3.q (Txt_spec (M := M) hs3 (ht.em f3) hx (by omega)) fun v H4 ⟨hv, hf4⟩ => ?_
  subst hv
  have f4 := f3.em hf4
  simp (maxSteps := 4000000) (disch := first | (simp only [m_next_alloc, m_next_set]; done) | (simp only [m_next_alloc, m_next_set]; omega) | omega) only [↓JN_eq, CTL3, OPS3, MEM3, List.length_cons, List.length_nil, List.take_zero, List.take_succ_cons, List.drop_zero, List.drop_succ_cons, List.take_nil, List.drop_nil, Nat.reduceAdd, Nat.reduceSub, Nat.reduceLeDiff, Int.reduceLT, Int.reduceLE, Int.reduceEq, cast0, reduceIte, Nat.reduceEqDiff, law23_TraceWrites_w]
  refine C3.q (rText_spec (M := M) (ha.em f4) hx (by omega)) fun v H5 ⟨hv, hf5⟩ => ?_
  subst hv
  have f5 := f4.em hf5
  have s2 := str_of_new (((hw2.em hw3.fr).em hf4).em hf5)
  have s3 := str_of_new ((hw3.em hf4).em hf5)
  have hs5 := (hs3.em hf4).em hf5
  have hv5 := ((hv1.em hw2.fr).em hw3.fr).em hf4 |>.em hf5
  have h77 : (xs ++ [ev77])[xs.length]? = some ev77 := by simp
  have i77 := hv5.sl.idx h77 (z := (xs.length : Nat)) rfl
  have l77 := hv5.sl.load0 Evt.len h77 (by omega)
  have e77 : ev77.enc[0]? = some (.int .i64 77) := rfl
  simp only [↓JN_eq, CTL3, OPS3, cast0, reduceIte, Nat.reduceEqDiff, law23_TraceWrites_w, extract_tuple, s2, s3, ha.len, hc]
  refine C3.q (Same_spec (M := M) hs5 (ha.em f5) (by omega)) fun v H6 ⟨hv, hH⟩ => ?_
  subst hv; subst hH
  simp only [↓JN_eq, CTL3, OPS3, cast0, reduceIte, Nat.reduceEqDiff, law23_TraceWrites_w, ha.len, i77, l77, e77]
end Go.Am
