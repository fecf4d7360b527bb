/- CmZ: CmD CmE CmF. -/
import Derived.Test.YtkfheegmlgfdoaaAmCmY
namespace Go.Am
set_option linter.unusedVariables false
set_option linter.unusedSimpArgs false
set_option linter.unusedSectionVars false
set_option maxRecDepth 100000
variable {M : Mac} [MK M]
def refCells (id ln : Int) (a : AV) (x y z : Int) : List AV := [.int .i64 id, .int .i64 ln, a, .int .u64 0, .int .u64 0, .int .u64 0, .int .u64 0, .int .u64 0, .int .u64 0, .int .u64 0, .int .u64 0, .int .i64 0, .bool false, .int .u64 0, .int .u64 0, .int .u64 0, .int .u64 0, .int .u64 0, .int .u64 0, .int .u64 0, .int .u64 0, .int .i64 0, .int .i64 x, .int .i64 y, .int .i64 z, .int .i64 0, .nils, .int .i64 0, .int .u64 0, .int .i64 0, .int .u64 0, .int .u64 0, .int .i64 0, .int .i64 0, .int .i64 0, .int .u64 0, .int .u64 0, .nils, .nils, .bool false, .bool false, .int .i64 0, .int .i64 0, .int .i64 0, .int .i64 0, .int .i64 0, .int .i64 0, .int .u64 0, .int .u64 0, .int .u64 0, .nils, .int .i64 0, .bool false, .bool false, .bool false, .int .i64 0, .int .i64 0, .bool false, .bool false, .nils]
abbrev zRef : List AV := [.int .i64 0, .int .i64 0, .nils, .int .u64 0, .int .u64 0, .int .u64 0, .int .u64 0, .int .u64 0, .int .u64 0, .int .u64 0, .int .u64 0, .int .i64 0, .bool false, .int .u64 0, .int .u64 0, .int .u64 0, .int .u64 0, .int .u64 0, .int .u64 0, .int .u64 0, .int .u64 0, .int .i64 0, .int .i64 0, .int .i64 0, .int .i64 0, .int .i64 0, .nils, .int .i64 0, .int .u64 0, .int .i64 0, .int .u64 0, .int .u64 0, .int .i64 0, .int .i64 0, .int .i64 0, .int .u64 0, .int .u64 0, .nils, .nils, .bool false, .bool false, .int .i64 0, .int .i64 0, .int .i64 0, .int .i64 0, .int .i64 0, .int .i64 0, .int .u64 0, .int .u64 0, .int .u64 0, .nils, .int .i64 0, .bool false, .bool false, .bool false, .int .i64 0, .int .i64 0, .bool false, .bool false, .nils]
theorem ref_len (id ln : Int) (a : AV) (x y z : Int) : (refCells id ln a x y z).length = 60 := rfl
theorem ref_one {id ln : Int} {a : AV} {x y z : Int} (ha : oneCell a = true) : allOne (refCells id ln a x y z) = true := by
  cases a <;> first | rfl | cases ha
theorem build_ref {id ln : Int} {a : AV} {x y z : Int} (ha : oneCell a = true) : Op.build zRef [(0, 1), (1, 1), (2, 1), (22, 5)] [.int .i64 id, .int .i64 ln, a, .agg [.int .i64 x, .int .i64 y, .int .i64 z, .int .i64 0, .nils]] = some (.agg (refCells id ln a x y z)) := by
  cases a <;> first | rfl | cases ha
theorem st60 {H : AHeap} {r e : Nat} {c L : List AV} (h : H.get r = some (OR c e)) (hc : c.length = 60) (hL : L.length = 60) (h1 : allOne L = true) : Op.store 60 [.ptr r 0, .agg L] H = some (.undef, H.set r (OR L e)) := by
  rw [store_row (o := 0) (n := 60) (v := .agg L) h hL (by omega) h1]
  simp only [List.take_zero, List.nil_append, Nat.zero_add, List.drop_eq_nil_of_le (Nat.le_of_eq hc), List.append_nil, AV.cells]
theorem ld60 {H : AHeap} {r e : Nat} {c : List AV} (h : H.get r = some (OR c e)) (hc : c.length = 60) : Op.loadN 60 [.ptr r 0] H = some (.agg c) := by
  rw [loadN_of (cellsAt_row h) (by omega)]
  rw [List.drop_zero, List.take_of_length_le (by omega)]
theorem b5 (x y z : Int) : (Op.build [(.int .i64 0), (.int .i64 0), (.int .i64 0), (.int .i64 0), .nils] [(0, 3)]) [.agg [.int .i64 x, .int .i64 y, .int .i64 z]] = some (.agg [.int .i64 x, .int .i64 y, .int .i64 z, .int .i64 0, .nils]) := rfl
theorem b00 : Op.build zRef [] [] = some (.agg zRef) := rfl
def RefQ (ok : Prop) (id ln : Int) (a : AV) (x y z : Int) (v : AV) : Prop := (ok ∧ v = .tuple [.agg (refCells id ln a x y z), .int .i64 0]) ∨ (¬ ok ∧ v = .tuple [.agg zRef, .int .i64 2])
theorem refNew_spec {H : AHeap} {id ln f s o : Int} {a : AV} {n : Nat} {cells : List AV} (ha : Sl H 5 a n cells) :
    CALLQ M N_ref11_New [.int .i64 id, a, .agg [.int .i64 f, .int .i64 s, .int .i64 o], .int .i64 ln] H fun v H' => RefQ (okC id n f s o ln) id ln a f s o v ∧ Fr Em H H' := by
  refine ref11_New_s ?_
  have hone := Sl.one ha
  obtain ⟨H2, hH2⟩ : ∃ H2, H2 = (H.alloc (OR [.int .i64 f, .int .i64 s, .int .i64 o] T_api_Budget)).alloc (OR zRef T_shuntref11_Core) := ⟨_, rfl⟩
  have hf2 : Fr Em H H2 := by rw [hH2]; exact ((Fr.refl H).alloc _).alloc _
  have hb2 : H2.get H.next = some (OR [.int .i64 f, .int .i64 s, .int .i64 o] T_api_Budget) := by rw [hH2, get_alloc_lt (by rw [alloc_next]; omega)]; exact get_alloc_new ..
  have hr2 : H2.get (H.next + 1) = some (OR zRef T_shuntref11_Core) := by rw [hH2]; exact get_alloc_new ..
  have hn2 : H2.next = H.next + 1 + 1 := by rw [hH2]; rfl
  have lB : ∀ {G : AHeap}, G.get H.next = some (OR [.int .i64 f, .int .i64 s, .int .i64 o] T_api_Budget) → Op.loadN 3 [.ptr H.next 0] G = some (.agg [.int .i64 f, .int .i64 s, .int .i64 o]) := fun h => by rw [loadN_of (cellsAt_row h) (Nat.le_refl 3)]; rfl
  simp only [↓JN_eq, CTL3, OPS3, cast0, reduceIte, Nat.reduceEqDiff, ref11_New_w, alloc_next, ← hH2, lB hb2]
  refine C3.q (May_spec (M := M)) fun v H3 ⟨hv, hf3⟩ => ?_
  subst hv
  have hb3 : H3.get H.next = some (OR [.int .i64 f, .int .i64 s, .int .i64 o] T_api_Budget) := by rw [hf3.keep _ (by omega) (fun q => q), hb2]
  have hr3 : H3.get (H.next + 1) = some (OR zRef T_shuntref11_Core) := by rw [hf3.keep _ (by omega) (fun q => q), hr2]
  have hf03 := hf2.em hf3
  have szr := st60 hr3 (L := zRef) rfl rfl rfl
  have lzr : Op.loadN 60 [.ptr (H.next + 1) 0] (H3.set (H.next + 1) (OR zRef T_shuntref11_Core)) = some (.agg zRef) := ld60 (get_set_same ..) rfl
  have hfz : Fr Em H (H3.set (H.next + 1) (OR zRef T_shuntref11_Core)) := hf03.set (.inr (by omega)) _
  have eN1 : ∀ q : Bool, Op.un .not [.bool q] = some (.bool (!q)) := fun _ => rfl
  by_cases hk : okB f s o
  · have ed : decide ((0 ≤ f ∧ f ≤ 16) ∧ (0 ≤ s ∧ s ≤ 16) ∧ 0 ≤ o ∧ o ≤ 16) = true := decide_eq_true hk
    rw [ed]
    by_cases c1 : id < 0
    · simp only [↓JN_eq, CTL3, OPS3, cast0, reduceIte, Nat.reduceEqDiff, ref11_New_w, c1, b00, szr, lzr]
      exact ⟨.inr ⟨fun ⟨_, q, _⟩ => by omega, rfl⟩, hfz⟩
    by_cases c2 : 4 ≤ id
    · simp only [↓JN_eq, CTL3, OPS3, cast0, reduceIte, Nat.reduceEqDiff, ref11_New_w, c1, c2, b00, szr, lzr]
      exact ⟨.inr ⟨fun ⟨_, _, q, _⟩ => by omega, rfl⟩, hfz⟩
    by_cases c3 : (1024 : Int) < (n : Nat)
    · simp only [↓JN_eq, CTL3, OPS3, cast0, reduceIte, Nat.reduceEqDiff, ref11_New_w, c1, c2, ha.len, c3, b00, szr, lzr]
      exact ⟨.inr ⟨fun ⟨_, _, _, q, _⟩ => by omega, rfl⟩, hfz⟩
    by_cases c4 : ln < 2
    · simp only [↓JN_eq, CTL3, OPS3, cast0, reduceIte, Nat.reduceEqDiff, ref11_New_w, c1, c2, ha.len, c3, c4, b00, szr, lzr]
      exact ⟨.inr ⟨fun ⟨_, _, _, _, q, _⟩ => by omega, rfl⟩, hfz⟩
    by_cases c5 : 64 < ln
    · simp only [↓JN_eq, CTL3, OPS3, cast0, reduceIte, Nat.reduceEqDiff, ref11_New_w, c1, c2, ha.len, c3, c4, c5, b00, szr, lzr]
      exact ⟨.inr ⟨fun ⟨_, _, _, _, _, q⟩ => by omega, rfl⟩, hfz⟩
    have sr := st60 hr3 (L := refCells id ln a f s o) rfl rfl (ref_one hone)
    have lr : Op.loadN 60 [.ptr (H.next + 1) 0] (H3.set (H.next + 1) (OR (refCells id ln a f s o) T_shuntref11_Core)) = some (.agg (refCells id ln a f s o)) := ld60 (get_set_same ..) rfl
    simp only [↓JN_eq, CTL3, OPS3, cast0, reduceIte, Nat.reduceEqDiff, ref11_New_w, c1, c2, ha.len, c3, c4, c5, lB hb3, b5, build_ref hone, sr, lr]
    exact ⟨.inl ⟨⟨hk, by omega, by omega, by omega, by omega, by omega⟩, rfl⟩, hf03.set (.inr (by omega)) _⟩
  · have ed : decide ((0 ≤ f ∧ f ≤ 16) ∧ (0 ≤ s ∧ s ≤ 16) ∧ 0 ≤ o ∧ o ≤ 16) = false := decide_eq_false hk
    rw [ed]
    simp only [↓JN_eq, CTL3, OPS3, cast0, reduceIte, Nat.reduceEqDiff, ref11_New_w, b00, szr, lzr]
    exact ⟨.inr ⟨fun q => hk q.1, rfl⟩, hfz⟩
end Go.Am
namespace Go.Am
set_option linter.unusedVariables false
set_option linter.unusedSimpArgs false
set_option linter.unusedSectionVars false
set_option maxRecDepth 100000
variable {M : Mac} [MK M]
structure RefI (H : AHeap) (r : Nat) : Prop where
  lt : r < H.next
  row : ∃ id ln a x y z, H.get r = some (OR (refCells id ln a x y z) T_shuntref11_Core)
theorem RefI.em {H H' : AHeap} {r : Nat} (h : RefI H r) (f : Fr Em H H') : RefI H' r := by
  obtain ⟨h1, id, ln, a, x, y, z, h2⟩ := h
  exact ⟨Nat.lt_of_lt_of_le h1 f.next, id, ln, a, x, y, z, by rw [f.keep r h1 (fun q => q), h2]⟩
theorem count_spec {H : AHeap} {r : Nat} {k : Int} (h : RefI H r) : CALLQ M N_ref09_Control_Count [.ptr r 22, .int .i64 k] H fun v H' => v = .int .i64 0 ∧ H' = H := by
  refine ref09_Control_Count_s ?_
  obtain ⟨id, ln, a, x, y, z, hr⟩ := h.row
  have l26 : Op.load1 [.ptr r 26] H = some .nils := by rw [load1_of (cellsAt_row hr)]; rfl
  have len0 : Op.lenSl [.nils] = some (.int .i64 0) := rfl
  simp only [↓JN_eq, CTL3, OPS3, cast0, reduceIte, Nat.reduceEqDiff, ref09_Control_Count_w]
  refine LOOP3.intro (fun n E H' => H' = H ∧ E = [(0, .ptr r 22), (5, .int .i64 0), (6, .int .i64 0)] ∧ n = 0) ?_ ?_
  · exact ⟨_, _, ⟨rfl, rfl, rfl⟩, by simp only [↓JN_eq, CTL3, OPS3, cast0, reduceIte, Nat.reduceEqDiff]⟩
  rintro n E H' ⟨rfl, rfl, rfl⟩
  simp (maxSteps := 4000000) (disch := first | (simp only [m_next_alloc, m_next_set]; done) | (simp only [m_next_alloc, m_next_set]; omega) | omega) only [↓JN_eq, CTL3, OPS3, MEM3, List.length_cons, List.length_nil, List.take_zero, List.take_succ_cons, List.drop_zero, List.drop_succ_cons, List.take_nil, List.drop_nil, Nat.reduceAdd, Nat.reduceSub, Nat.reduceLeDiff, Int.reduceLT, Int.reduceLE, Int.reduceEq, cast0, reduceIte, Nat.reduceEqDiff, ref09_Control_Count_w, l26, len0]
theorem counts_spec {H : AHeap} {r : Nat} (h : RefI H r) : CALLQ M N_ref09_Control_Counts [.ptr r 22] H fun v H' => v = z5 ∧ Fr Em H H' := by
  refine ref09_Control_Counts_s ?_
  obtain ⟨H2, hH2⟩ : ∃ H2, H2 = (H.alloc (OR [.int .i64 0, .int .i64 0, .int .i64 0, .int .i64 0, .int .i64 0] T__60)).alloc (OR [.int .i64 0, .int .i64 0, .int .i64 0, .int .i64 0, .int .i64 0] T__60) := ⟨_, rfl⟩
  have hf2 : Fr Em H H2 := by rw [hH2]; exact ((Fr.refl H).alloc _).alloc _
  have ha2 : H2.get H.next = some (OR [.int .i64 0, .int .i64 0, .int .i64 0, .int .i64 0, .int .i64 0] T__60) := by rw [hH2, get_alloc_lt (by rw [alloc_next]; omega)]; exact get_alloc_new ..
  have hb2 : H2.get (H.next + 1) = some (OR [.int .i64 0, .int .i64 0, .int .i64 0, .int .i64 0, .int .i64 0] T__60) := by rw [hH2]; exact get_alloc_new ..
  have hn2 : H2.next = H.next + 1 + 1 := by rw [hH2]; rfl
  simp only [↓JN_eq, CTL3, OPS3, cast0, reduceIte, Nat.reduceEqDiff, ref09_Control_Counts_w, alloc_next, ← hH2]
  refine LOOP3.intro (fun n E H' => ∃ i : Nat, E = [(0, .ptr r 22), (4, .int .i64 (i : Nat)), (3, .ptr (H.next + 1) 0), (2, .ptr H.next 0)] ∧ n = 5 - i ∧ 1 ≤ i ∧ i ≤ 5 ∧ Fr Em H H' ∧ H2.next ≤ H'.next ∧ H'.get H.next = some (OR [.int .i64 0, .int .i64 0, .int .i64 0, .int .i64 0, .int .i64 0] T__60) ∧ H'.get (H.next + 1) = some (OR [.int .i64 0, .int .i64 0, .int .i64 0, .int .i64 0, .int .i64 0] T__60)) ?_ ?_
  · exact ⟨_, _, ⟨1, rfl, rfl, by omega, by omega, hf2, by omega, ha2, hb2⟩, by simp only [↓JN_eq, CTL3, OPS3, cast0, reduceIte, Nat.reduceEqDiff]; rfl⟩
  rintro n E H' ⟨i, rfl, rfl, h1, h5, hf, hn, ga, gb⟩
  by_cases hlt : i < 5
  · have e1 : (i : Int) < 5 := by omega
    have ek : wrapI .i64 ((i : Int) + 1) = ((i + 1 : Nat) : Int) := by rw [wrap_i64 (by omega) (by omega)]; omega
    have ix : Op.indexArr 5 1 [.ptr (H.next + 1) 0, .int .i64 (i : Int)] = some (.ptr (H.next + 1) i) := by rw [o_indexArr (i := i) rfl hlt, Nat.zero_add, Nat.mul_one]
    have hset : ([.int .i64 0, .int .i64 0, .int .i64 0, .int .i64 0, .int .i64 0] : List AV).take i ++ [.int .i64 0] ++ ([.int .i64 0, .int .i64 0, .int .i64 0, .int .i64 0, .int .i64 0] : List AV).drop (i + 1) = [.int .i64 0, .int .i64 0, .int .i64 0, .int .i64 0, .int .i64 0] := by
      have : i = 1 ∨ i = 2 ∨ i = 3 ∨ i = 4 := by omega
      rcases this with rfl | rfl | rfl | rfl <;> rfl
    have st : Op.store 1 [.ptr (H.next + 1) i, .int .i64 0] H' = some (.undef, H'.set (H.next + 1) (OR [.int .i64 0, .int .i64 0, .int .i64 0, .int .i64 0, .int .i64 0] T__60)) := by
      rw [store_row (o := i) (n := 1) (v := .int .i64 0) gb rfl (by show i + 1 ≤ 5; omega) rfl]
      show some (AV.undef, H'.set (H.next + 1) (OR (_ ++ [AV.int .i64 0] ++ _) T__60)) = _
      rw [hset]
    simp only [↓JN_eq, CTL3, OPS3, cast0, reduceIte, Nat.reduceEqDiff, ref09_Control_Counts_w, e1]
    refine C3.q (count_spec (M := M) (h.em hf)) fun v H3 ⟨hv, hH⟩ => ?_
    subst hv; subst hH
    simp only [↓JN_eq, CTL3, OPS3, cast0, reduceIte, Nat.reduceEqDiff, ref09_Control_Counts_w, ix, st, ek]
    exact ⟨_, _, ⟨i + 1, rfl, rfl, by omega, by omega, hf.set (.inr (by omega)) _, hn, by rw [get_set_ne (by omega), ga], get_set_same ..⟩, by simp only [↓JN_eq, CTL3, OPS3, cast0, reduceIte, Nat.reduceEqDiff], by omega⟩
  · have e1 : ¬ (i : Int) < 5 := by omega
    simp (maxSteps := 4000000) (disch := first | (simp only [m_next_alloc, m_next_set]; done) | (simp only [m_next_alloc, m_next_set]; omega) | omega) only [↓JN_eq, CTL3, OPS3, MEM3, List.length_cons, List.length_nil, List.take_zero, List.take_succ_cons, List.drop_zero, List.drop_succ_cons, List.take_nil, List.drop_nil, Nat.reduceAdd, Nat.reduceSub, Nat.reduceLeDiff, Int.reduceLT, Int.reduceLE, Int.reduceEq, cast0, reduceIte, Nat.reduceEqDiff, ref09_Control_Counts_w, e1, ga, gb]
    exact hf.set (.inr (Nat.le_refl _)) _
theorem rAlone_spec {H : AHeap} {r : Nat} (h : RefI H r) : CALLQ M N_ref11_Core_Alone [.ptr r 0] H fun v H' => v = .bool false ∧ H' = H := by
  refine ref11_Core_Alone_s ?_
  obtain ⟨id, ln, a, x, y, z, hr⟩ := h.row
  have l53 : Op.load1 [.ptr r 53] H = some (.bool false) := by rw [load1_of (cellsAt_row hr)]; rfl
  simp only [↓JN_eq, CTL3, OPS3, cast0, reduceIte, Nat.reduceEqDiff, ref11_Core_Alone_w, nilCheck_ptr, l53]
  all_goals rfl
theorem ne8 (H : AHeap) : Op.eq (.agg (.part 0 none .int (.part 1 none .int (.part 2 none .int (.part 3 none .int (.part 4 none .int (.part 5 none .int (.part 6 none .int (.part 7 none .int .nil))))))))) true [z8, z8] H = some (.bool false) := rfl
theorem eq5 (H : AHeap) : Op.eq (.agg (.part 0 none .int (.part 1 none .int (.part 2 none .int (.part 3 none .int (.part 4 none .int .nil)))))) false [z5, z5] H = some (.bool true) := rfl
theorem b8 : (Op.build [(.int .u64 0), (.int .u64 0), (.int .u64 0), (.int .u64 0), (.int .u64 0), (.int .u64 0), (.int .u64 0), (.int .u64 0)] []) [] = some z8 := rfl
theorem nff (H : AHeap) : Op.eq .bool true [.bool false, .bool false] H = some (.bool false) := rfl
theorem eff' (H : AHeap) : Op.eq .bool false [.bool false, .bool false] H = some (.bool true) := rfl
end Go.Am
namespace Go.Am
set_option linter.unusedVariables false
set_option linter.unusedSimpArgs false
set_option linter.unusedSectionVars false
set_option maxRecDepth 100000
variable {M : Mac} [MK M]
theorem RefI.ld {H : AHeap} {r : Nat} (h : RefI H r) : Op.load1 [.ptr r 57] H = some (.bool false) ∧ Op.load1 [.ptr r 58] H = some (.bool false) ∧ Op.load1 [.ptr r 25] H = some (.int .i64 0) ∧ Op.load1 [.ptr r 55] H = some (.int .i64 0) ∧ Op.load1 [.ptr r 56] H = some (.int .i64 0) ∧ Op.load1 [.ptr r 11] H = some (.int .i64 0) ∧ Op.load1 [.ptr r 12] H = some (.bool false) ∧ Op.loadN 8 [.ptr r 3] H = some z8 := by
  obtain ⟨id, ln, a, x, y, z, hr⟩ := h.row
  refine ⟨?_, ?_, ?_, ?_, ?_, ?_, ?_, ?_⟩
  · rw [load1_of (cellsAt_row hr)]; rfl
  · rw [load1_of (cellsAt_row hr)]; rfl
  · rw [load1_of (cellsAt_row hr)]; rfl
  · rw [load1_of (cellsAt_row hr)]; rfl
  · rw [load1_of (cellsAt_row hr)]; rfl
  · rw [load1_of (cellsAt_row hr)]; rfl
  · rw [load1_of (cellsAt_row hr)]; rfl
  · rw [loadN_of (cellsAt_row hr) (by rw [ref_len]; decide)]; rfl
theorem same_b {H : AHeap} {lo b f l r : Nat} {E : Env} (K : CoreI H lo b f l) (R : RefI H r) (e0 : lk E 0 = some (.ptr b 0)) (e1 : lk E 1 = some (.ptr r 0)) (e8 : lk E 8 = some (.bool false)) (e9 : lk E 9 = some (.bool false)) :
    W M ⟨none, N_law11_same⟩ (law11_same_p 14) true (FIN3 M [.tmp 4] (RT3 fun v _ => v = .bool true)) E [] H := by
  obtain ⟨r57, r58, r25, r55, r56, _⟩ := R.ld
  simp only [↓JN_eq, CTL3, OPS3, cast0, reduceIte, Nat.reduceEqDiff, law11_same_w, e0, e1, e8, e9, nilCheck_ptr, r57, r58, eff', r25]
  refine C3.q (cLane_spec (M := M) K) fun v H' ⟨hv, hH⟩ => ?_
  subst hv; subst hH
  have q0 : Op.bin .eql [.int .i64 0, .int .i64 0] = some (.bool true) := rfl
  simp only [↓JN_eq, CTL3, OPS3, cast0, reduceIte, Nat.reduceEqDiff, r25, CK3_same, q0, nilCheck_ptr, e0, e1, r55]
  refine C3.q (cBlock_spec (M := M) K) fun v H' ⟨hv, hH⟩ => ?_
  subst hv; subst hH
  simp only [↓JN_eq, CTL3, OPS3, cast0, reduceIte, Nat.reduceEqDiff, r55, CK3_same, nilCheck_ptr, e0, e1]
  refine C3.q (cCounts_spec (M := M) K) fun v H2 ⟨hv, hf2⟩ => ?_
  subst hv
  refine C3.q (counts_spec (M := M) (R.em hf2)) fun v H3 ⟨hv, hf3⟩ => ?_
  subst hv
  have K3 := (K.em hf2).em hf3
  have R3 := (R.em hf2).em hf3
  obtain ⟨_, _, _, _, s56, _⟩ := R3.ld
  simp only [↓JN_eq, CTL3, OPS3, cast0, reduceIte, Nat.reduceEqDiff, eq5, nilCheck_ptr, e0, e1, s56]
  refine C3.q (cInstrs_spec (M := M) K3) fun v H' ⟨hv, hH⟩ => ?_
  subst hv; subst hH
  simp only [↓JN_eq, CTL3, OPS3, cast0, reduceIte, Nat.reduceEqDiff, s56, CK3_same, q0, nilCheck_ptr, e0, e1]
  refine C3.q (cAlone_spec (M := M) K3) fun v H' ⟨hv, hH⟩ => ?_
  subst hv; subst hH
  refine C3.q (rAlone_spec (M := M) R3) fun v H' ⟨hv, hH⟩ => ?_
  subst hv; subst hH
  simp only [↓JN_eq, CTL3, OPS3, cast0, reduceIte, Nat.reduceEqDiff, eff']
theorem same_spec {H : AHeap} {lo b f l r : Nat} (K : CoreI H lo b f l) (R : RefI H r) : CALLQ M N_law11_same [.ptr b 0, .ptr r 0] H fun v _ => v = .bool true := by
  refine law11_same_s ?_
  obtain ⟨w0, w4, w6, -⟩ := law11_same_w M ⟨none, N_law11_same⟩
  simp only [↓JN_eq, CTL3, OPS3, cast0, reduceIte, Nat.reduceEqDiff, w0]
  refine C3.q (cPoint_spec (M := M) K) fun v H2 ⟨hv, hf2⟩ => ?_
  subst hv
  have hf3 : Fr Em H (H2.alloc (OR [.int .u64 0, .int .u64 0, .int .u64 0, .int .u64 0, .int .u64 0, .int .u64 0, .int .u64 0, .int .u64 0] T__26)) := hf2.alloc _
  have hg3 : (H2.alloc (OR [.int .u64 0, .int .u64 0, .int .u64 0, .int .u64 0, .int .u64 0, .int .u64 0, .int .u64 0, .int .u64 0] T__26)).get H2.next = some (OR [.int .u64 0, .int .u64 0, .int .u64 0, .int .u64 0, .int .u64 0, .int .u64 0, .int .u64 0, .int .u64 0] T__26) := get_alloc_new ..
  have hn3 : H2.next < (H2.alloc (OR [.int .u64 0, .int .u64 0, .int .u64 0, .int .u64 0, .int .u64 0, .int .u64 0, .int .u64 0, .int .u64 0] T__26)).next := by rw [alloc_next]; omega
  simp (maxSteps := 4000000) (disch := first | (simp only [m_next_alloc, m_next_set]; done) | (simp only [m_next_alloc, m_next_set]; omega) | omega) only [↓JN_eq, CTL3, OPS3, MEM3, List.length_cons, List.length_nil, List.take_zero, List.take_succ_cons, List.drop_zero, List.drop_succ_cons, List.take_nil, List.drop_nil, Nat.reduceAdd, Nat.reduceSub, Nat.reduceLeDiff, Int.reduceLT, Int.reduceLE, Int.reduceEq, cast0, reduceIte, Nat.reduceEqDiff, alloc_set, w4]
  generalize H2.alloc (OR [.int .u64 0, .int .u64 0, .int .u64 0, .int .u64 0, .int .u64 0, .int .u64 0, .int .u64 0, .int .u64 0] T__26) = H3 at *
  have K3 := K.em hf3
  have R3 := R.em hf3
  refine C3.q (cHalted_spec (M := M) K3) fun v H' ⟨hv, hH⟩ => ?_
  subst hv; subst hH
  obtain ⟨_, _, _, _, _, r11, r12, r3⟩ := R3.ld
  simp only [↓JN_eq, CTL3, OPS3, cast0, reduceIte, Nat.reduceEqDiff, extract_tuple, w6, nilCheck_ptr, r3]
  refine C3.q (cRegs_spec (M := M) K3) fun v H4 ⟨hv, hf4⟩ => ?_
  subst hv
  have K4 := K3.em hf4
  have R4 := R3.em hf4
  obtain ⟨_, _, _, _, _, s11, s12, s3⟩ := R4.ld
  have q0 : Op.bin .neq [.int .i64 0, .int .i64 0] = some (.bool false) := rfl
  simp only [↓JN_eq, CTL3, OPS3, cast0, reduceIte, Nat.reduceEqDiff, s3, CK3_same, ne8, nilCheck_ptr, s11]
  refine C3.q (cPC_spec (M := M) K4) fun v H' ⟨hv, hH⟩ => ?_
  subst hv; subst hH
  have hg4 : H'.get H2.next = some (OR [.int .u64 0, .int .u64 0, .int .u64 0, .int .u64 0, .int .u64 0, .int .u64 0, .int .u64 0, .int .u64 0] T__26) := by rw [hf4.keep _ hn3 (fun q => q), hg3]
  have l8 : Op.loadN 8 [.ptr H2.next 0] H' = some z8 := by rw [loadN_of (cellsAt_row hg4) (Nat.le_refl 8)]; rfl
  simp only [↓JN_eq, CTL3, OPS3, cast0, reduceIte, Nat.reduceEqDiff, s11, CK3_same, q0, nilCheck_ptr, s12, nff, l8, b8, ne8]
  exact same_b K4 R4 rfl rfl rfl rfl
structure Ins where
  a : Int
  b : Int
  c : Int
  d : Int
  e : Int
def Ins.enc (x : Ins) : List AV := [.int .i64 x.a, .int .i64 x.b, .int .i64 x.c, .int .i64 x.d, .int .i64 x.e]
theorem Ins.len (x : Ins) : x.enc.length = 5 := rfl
theorem ins_one (xs : List Ins) : allOne (xs.flatMap Ins.enc) = true := by
  rw [allOne_eq, List.all_flatMap]; simp [Ins.enc, oneCell]
theorem CoreMade_law {H : AHeap} {a : AV} {xs : List Ins} {id f s o ln : Int} (ha : SlT Ins.enc 5 H a xs) (hl : xs.length * 40 ≤ 140737488355328) :
    CALLQ M N_law11_CoreMade [.int .i64 id, a, .agg [.int .i64 f, .int .i64 s, .int .i64 o, .int .i64 ln]] H fun v _ => v = .bool true := by
  refine law11_CoreMade_s ?_
  have hf1 : Fr Em H (H.alloc (OR [.int .i64 f, .int .i64 s, .int .i64 o, .int .i64 ln] T_shuntlaw11_Made)) := (Fr.refl H).alloc _
  have hg1 : (H.alloc (OR [.int .i64 f, .int .i64 s, .int .i64 o, .int .i64 ln] T_shuntlaw11_Made)).get H.next = some (OR [.int .i64 f, .int .i64 s, .int .i64 o, .int .i64 ln] T_shuntlaw11_Made) := get_alloc_new ..
  have hn1 : H.next < (H.alloc (OR [.int .i64 f, .int .i64 s, .int .i64 o, .int .i64 ln] T_shuntlaw11_Made)).next := by rw [alloc_next]; omega
  simp only [↓JN_eq, CTL3, OPS3, cast0, reduceIte, Nat.reduceEqDiff, law11_CoreMade_w, bs0]
  generalize H.alloc (OR [.int .i64 f, .int .i64 s, .int .i64 o, .int .i64 ln] T_shuntlaw11_Made) = H1 at *
  have ha1 := ha.em hf1
  refine copy0 ha1 (ins_one xs) hl fun v H2 hv hf2 hfr => ?_
  have ld : ∀ {G : AHeap}, Fr Em H1 G → Op.loadN 3 [.ptr H.next 0] G = some (.agg [.int .i64 f, .int .i64 s, .int .i64 o]) ∧ Op.load1 [.ptr H.next 3] G = some (.int .i64 ln) := fun {G} fr => by
    have hg := (fr.keep _ hn1 (fun q => q)).trans hg1
    exact ⟨by rw [loadN_of (cellsAt_row hg) (by show 3 ≤ 4; decide)]; rfl, by rw [load1_of (cellsAt_row hg)]; rfl⟩
  obtain ⟨d1, d2⟩ := ld hf2
  simp only [↓JN_eq, CTL3, OPS3, cast0, reduceIte, Nat.reduceEqDiff, law11_CoreMade_w, d1, d2]
  refine C3.q (coreNew_spec (M := M) (Own.sl hv) (ins_one xs)) fun w H3 ⟨hq, hf3⟩ => ?_
  have hf13 := hf2.em hf3
  obtain ⟨d3, d4⟩ := ld hf13
  have ha3 := ha1.em hf13
  have ref := refNew_spec (M := M) (H := H3) (id := id) (ln := ln) (f := f) (s := s) (o := o) ha3
  rcases hq with ⟨hk, b, fb, lb, rfl, K⟩ | ⟨hk, rfl⟩
  · simp only [↓JN_eq, CTL3, OPS3, cast0, reduceIte, Nat.reduceEqDiff, law11_CoreMade_w, extract_tuple, d3, d4]
    refine C3.q ref fun w H4 ⟨hq, hf4⟩ => ?_
    rcases hq with ⟨_, rfl⟩ | ⟨hk', _⟩
    · have hr : Op.store 60 [.ptr H4.next 0, .agg (refCells id ln a f s o)] (H4.alloc (.row zRef T_shuntref11_Core (0, 0) true)) = some (.undef, H4.alloc (OR (refCells id ln a f s o) T_shuntref11_Core)) := by
        rw [st60 (get_alloc_new ..) rfl rfl (ref_one (Sl.one ha)), alloc_set]
      have R5 : RefI (H4.alloc (OR (refCells id ln a f s o) T_shuntref11_Core)) H4.next := ⟨by rw [alloc_next]; omega, id, ln, a, f, s, o, get_alloc_new ..⟩
      have f5 : Fr Em H3 (H4.alloc (OR (refCells id ln a f s o) T_shuntref11_Core)) := hf4.alloc _
      have K5 := K.em f5
      have hv5 : OwnT Ins.enc T_api_Instr 5 (H4.alloc (OR (refCells id ln a f s o) T_shuntref11_Core)) v xs := Own.em (Own.em hv hf3) f5
      have hlo : ∀ x, OnS v x → x < H2.next := fun x hx => Own.lt hv x hx
      have hn24 : H2.next ≤ H4.next := Nat.le_trans hf3.next hf4.next
      have q0 : Op.bin .neq [.int .i64 0, .int .i64 0] = some (.bool false) := rfl
      simp only [↓JN_eq, CTL3, OPS3, cast0, reduceIte, Nat.reduceEqDiff, law11_CoreMade_w, extract_tuple, hr, q0]
      generalize H4.alloc (OR (refCells id ln a f s o) T_shuntref11_Core) = H5 at *
      refine LOOP3.intro (fun n E Hc => ∃ i ys, E = [(7, v), (12, .int .i64 (i : Nat)), (8, .ptr b 0), (10, .ptr H4.next 0)] ∧ n = ys.length - i ∧ i ≤ ys.length ∧ ys.length = xs.length ∧ OwnT Ins.enc T_api_Instr 5 Hc v ys ∧ CoreI Hc H2.next b fb lb ∧ RefI Hc H4.next) ?_ ?_
      · exact ⟨_, _, ⟨0, xs, rfl, rfl, by omega, rfl, hv5, K5, R5⟩, by simp only [↓JN_eq, CTL3, OPS3, cast0, reduceIte, Nat.reduceEqDiff]⟩
      rintro n E Hc ⟨i, ys, rfl, rfl, hi, hlen, hvc, Kc, Rc⟩
      simp only [↓JN_eq, CTL3, OPS3, cast0, reduceIte, Nat.reduceEqDiff, law11_CoreMade_w, hvc.sl.len]
      refine IF3.dec (fun hlt => ?_) (fun hge => ?_)
      · have hlt : i < ys.length := by omega
        obtain ⟨x, hx⟩ : ∃ x, ys[i]? = some x := ⟨ys[i], by simp [hlt]⟩
        have ek : wrapI .i64 ((i : Int) + 1) = ((i + 1 : Nat) : Int) := by rw [wrap_i64 (by omega) (by omega)]; omega
        obtain ⟨H6, hst, hown, hf6⟩ := OwnT.set1 Ins.len hvc hx (j := 0) (by omega) (u := .int .i64 77) rfl (y := { x with a := 77 }) rfl
        rw [Nat.add_zero] at hst
        simp only [↓JN_eq, CTL3, OPS3, cast0, reduceIte, Nat.reduceEqDiff, law11_CoreMade_w, hvc.sl.idx hx rfl, hst, ek]
        refine ⟨_, _, ⟨i + 1, ys.set i { x with a := 77 }, rfl, rfl, by rw [List.length_set]; omega, by rw [List.length_set]; exact hlen, hown, Kc.fr hf6 hlo, ?_⟩, by simp only [↓JN_eq, CTL3, OPS3, cast0, reduceIte, Nat.reduceEqDiff], by rw [List.length_set]; omega⟩
        obtain ⟨r1, i1, i2, i3, i4, i5, i6, r2⟩ := Rc
        exact ⟨Nat.lt_of_lt_of_le r1 hf6.next, i1, i2, i3, i4, i5, i6, by rw [hf6.keep _ r1 fun q => by have := hlo _ q; omega, r2]⟩
      · simp only [↓JN_eq, CTL3, OPS3, cast0, reduceIte, Nat.reduceEqDiff, law11_CoreMade_w]
        refine C3.q (same_spec (M := M) Kc Rc) fun w H6 hw => ?_
        subst hw
        simp only [↓JN_eq, CTL3, OPS3, cast0, reduceIte, Nat.reduceEqDiff, law11_CoreMade_w]
    · exact absurd hk hk'
  · simp only [↓JN_eq, CTL3, OPS3, cast0, reduceIte, Nat.reduceEqDiff, law11_CoreMade_w, extract_tuple, d3, d4]
    refine C3.q ref fun w H4 ⟨hq, hf4⟩ => ?_
    rcases hq with ⟨hk', _⟩ | ⟨_, rfl⟩
    · exact absurd hk' hk
    · have hr : Op.store 60 [.ptr H4.next 0, .agg zRef] (H4.alloc (.row zRef T_shuntref11_Core (0, 0) true)) = some (.undef, H4.alloc (OR zRef T_shuntref11_Core)) := by
        rw [st60 (get_alloc_new ..) rfl rfl rfl, alloc_set]
      have q2 : Op.bin .eql [.int .i64 2, .int .i64 2] = some (.bool true) := rfl
      simp only [↓JN_eq, CTL3, OPS3, cast0, reduceIte, Nat.reduceEqDiff, law11_CoreMade_w, extract_tuple, hr, Int.reduceEq, enn]
end Go.Am
