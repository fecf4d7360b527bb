/- CmY: CmA CmB CmC. -/
import Derived.Test.YtkfheegmlgfdoaaAmCodeC
import Derived.Test.YtkfheegmlgfdoaaAmCmX
namespace Go.Am
set_option linter.unusedVariables false
set_option linter.unusedSimpArgs false
set_option maxRecDepth 100000
set_option linter.unusedSectionVars false
variable {M : Mac} [MK M]
theorem regsNew_spec {H : AHeap} : CALLQ M N_regs_New [] H fun v H' => v = .ptr H.next 0 ∧ H' = H.alloc (OR [.int .u64 0, .int .u64 0, .int .u64 0, .int .u64 0, .int .u64 0, .int .u64 0, .int .u64 0, .int .u64 0, .int .i64 0, .nilp, .bool true] T_regs_File) := by
  refine regs_New_s (H0 := H) ?_
  simp (maxSteps := 4000000) (disch := first | (simp only [m_next_alloc, m_next_set]; done) | (simp only [m_next_alloc, m_next_set]; omega) | omega) only [↓JN_eq, CTL3, OPS3, MEM3, List.length_cons, List.length_nil, List.take_zero, List.take_succ_cons, List.drop_zero, List.drop_succ_cons, List.take_nil, List.drop_nil, Nat.reduceAdd, Nat.reduceSub, Nat.reduceLeDiff, Int.reduceLT, Int.reduceLE, Int.reduceEq, cast0, reduceIte, Nat.reduceEqDiff, regs_New_w]
theorem May_spec {H : AHeap} {f s o : Int} : CALLQ M N_ref09_May [.agg [.int .i64 f, .int .i64 s, .int .i64 o]] H fun v H' => v = .bool (decide ((0 ≤ f ∧ f ≤ 16) ∧ (0 ≤ s ∧ s ≤ 16) ∧ 0 ≤ o ∧ o ≤ 16)) ∧ Fr Em H H' := by
  refine ref09_May_s ?_
  have hf : Fr Em H (H.alloc (OR [.int .i64 f, .int .i64 s, .int .i64 o] T_api_Budget)) := (Fr.refl H).alloc _
  by_cases h1 : 0 ≤ f
  · by_cases h2 : f ≤ 16
    · by_cases h3 : 0 ≤ s
      · by_cases h4 : s ≤ 16
        · by_cases h5 : 0 ≤ o
          · by_cases h6 : o ≤ 16
            · simp only [↓JN_eq, CTL3, OPS3, cast0, reduceIte, Nat.reduceEqDiff, ref09_May_w, load1_new, h1, h2, h3, h4, h5, h6]; exact hf
            · simp only [↓JN_eq, CTL3, OPS3, cast0, reduceIte, Nat.reduceEqDiff, ref09_May_w, load1_new, h1, h2, h3, h4, h5, h6]; exact hf
          · simp only [↓JN_eq, CTL3, OPS3, cast0, reduceIte, Nat.reduceEqDiff, ref09_May_w, load1_new, h1, h2, h3, h4, h5]; exact hf
        · simp only [↓JN_eq, CTL3, OPS3, cast0, reduceIte, Nat.reduceEqDiff, ref09_May_w, load1_new, h1, h2, h3, h4]; exact hf
      · simp only [↓JN_eq, CTL3, OPS3, cast0, reduceIte, Nat.reduceEqDiff, ref09_May_w, load1_new, h1, h2, h3]; exact hf
    · simp only [↓JN_eq, CTL3, OPS3, cast0, reduceIte, Nat.reduceEqDiff, ref09_May_w, load1_new, h1, h2]; exact hf
  · simp only [↓JN_eq, CTL3, OPS3, cast0, reduceIte, Nat.reduceEqDiff, ref09_May_w, load1_new, h1]; exact hf
theorem mkMap_eq : Op.mkMap [] = some (.map [] 0, .map) := rfl
theorem logNew_spec {H : AHeap} : CALLQ M N_log_New [] H fun v H' => (∃ b, v = .ptr b 0) ∧ Fr Em H H' := by
  refine log_New_s (H0 := H) ?_
  simp (maxSteps := 4000000) (disch := first | (simp only [m_next_alloc, m_next_set]; done) | (simp only [m_next_alloc, m_next_set]; omega) | omega) only [↓JN_eq, CTL3, OPS3, MEM3, List.length_cons, List.length_nil, List.take_zero, List.take_succ_cons, List.drop_zero, List.drop_succ_cons, List.take_nil, List.drop_nil, Nat.reduceAdd, Nat.reduceSub, Nat.reduceLeDiff, Int.reduceLT, Int.reduceLE, Int.reduceEq, cast0, reduceIte, Nat.reduceEqDiff, log_New_w, mkMap_eq]
  exact ⟨⟨_, rfl⟩, ((((((Fr.refl H).alloc _).alloc _).alloc _).alloc _).alloc _)⟩
theorem softNew_spec {H : AHeap} : CALLQ M N_soft_New [] H fun v H' => (∃ b, v = .ptr b 0) ∧ Fr Em H H' := by
  refine soft_New_s (H0 := H) ?_
  simp (maxSteps := 4000000) (disch := first | (simp only [m_next_alloc, m_next_set]; done) | (simp only [m_next_alloc, m_next_set]; omega) | omega) only [↓JN_eq, CTL3, OPS3, MEM3, List.length_cons, List.length_nil, List.take_zero, List.take_succ_cons, List.drop_zero, List.drop_succ_cons, List.take_nil, List.drop_nil, Nat.reduceAdd, Nat.reduceSub, Nat.reduceLeDiff, Int.reduceLT, Int.reduceLE, Int.reduceEq, cast0, reduceIte, Nat.reduceEqDiff, soft_New_w]
  refine C3.q (logNew_spec (M := M)) fun v H' ⟨⟨b, hv⟩, hf⟩ => ?_
  subst hv
  simp (maxSteps := 4000000) (disch := first | (simp only [m_next_alloc, m_next_set]; done) | (simp only [m_next_alloc, m_next_set]; omega) | omega) only [↓JN_eq, CTL3, OPS3, MEM3, List.length_cons, List.length_nil, List.take_zero, List.take_succ_cons, List.drop_zero, List.drop_succ_cons, List.take_nil, List.drop_nil, Nat.reduceAdd, Nat.reduceSub, Nat.reduceLeDiff, Int.reduceLT, Int.reduceLE, Int.reduceEq, cast0, reduceIte, Nat.reduceEqDiff, soft_New_w]
  exact ⟨⟨_, rfl⟩, hf.alloc _⟩
def okB (f s o : Int) : Prop := (0 ≤ f ∧ f ≤ 16) ∧ (0 ≤ s ∧ s ≤ 16) ∧ 0 ≤ o ∧ o ≤ 16
instance (f s o : Int) : Decidable (okB f s o) := by unfold okB; infer_instance
theorem sliceArr_eq (b o : Nat) : Op.sliceArr 5 1 [(some 0), (some 1), none] [.ptr b o, .int .i64 1, .int .i64 4] = some (.slice b (o + 1) 3 4) := by
  rfl
theorem ixS {b o n c i : Nat} {k : IntKind} (h : i < n) : Op.indexSl 1 [.slice b o n c, .int k (i : Int)] = some (.ptr b (o + i)) := by
  have h1 := blt_true h
  simp [Op.indexSl, lenV, within_nat (z := (i : Int)) rfl h, elemAt, h1]
theorem budgets_spec {H : AHeap} {f s o : Int} : CALLQ M N_lanes_budgets [.agg [.int .i64 f, .int .i64 s, .int .i64 o]] H fun v H' => v = .tuple [.agg [.int .i64 0, .int .i64 f, .int .i64 s, .int .i64 o, .int .i64 (-1)], .bool (decide (okB f s o))] ∧ Fr Em H H' := by
  refine lanes_budgets_s ?_
  have l1 : ∀ b, Op.lenSl [.slice b 1 3 4] = some (.int .i64 3) := fun _ => rfl
  obtain ⟨H2, hH2⟩ : ∃ H2, H2 = (H.alloc (OR [.int .i64 f, .int .i64 s, .int .i64 o] T_api_Budget)).alloc (OR [.int .i64 0, .int .i64 0, .int .i64 0, .int .i64 0, .int .i64 0] T__60) := ⟨_, rfl⟩
  have hn2 : H2.next = H.next + 1 + 1 := by rw [hH2]; rfl
  have as2 : ∀ ob ob', (H2.alloc ob).set H2.next ob' = H2.alloc ob' := fun ob ob' => alloc_set ..
  have hf2 : Fr Em H H2 := by rw [hH2]; exact ((Fr.refl H).alloc _).alloc _
  have hz2 : H2.get (H.next + 1) = some (OR [.int .i64 0, .int .i64 0, .int .i64 0, .int .i64 0, .int .i64 0] T__60) := by rw [hH2]; exact get_alloc_new ..
  have hb2 : H2.get H.next = some (OR [.int .i64 f, .int .i64 s, .int .i64 o] T_api_Budget) := by rw [hH2, get_alloc_lt (by rw [alloc_next]; omega)]; exact get_alloc_new ..
  have hg3 : (H2.alloc (OR [.int .i64 0, .int .i64 f, .int .i64 s, .int .i64 o, .int .i64 (-1)] T__60)).get H2.next = some (OR [.int .i64 0, .int .i64 f, .int .i64 s, .int .i64 o, .int .i64 (-1)] T__60) := get_alloc_new ..
  have hz3 : (H2.alloc (OR [.int .i64 0, .int .i64 f, .int .i64 s, .int .i64 o, .int .i64 (-1)] T__60)).get (H.next + 1) = some (OR [.int .i64 0, .int .i64 0, .int .i64 0, .int .i64 0, .int .i64 0] T__60) := by rw [get_alloc_lt (by omega)]; exact hz2
  have hf3 : Fr Em H (H2.alloc (OR [.int .i64 0, .int .i64 f, .int .i64 s, .int .i64 o, .int .i64 (-1)] T__60)) := hf2.alloc _
  simp (maxSteps := 4000000) (disch := first | (simp only [m_next_alloc, m_next_set]; done) | (simp only [m_next_alloc, m_next_set]; omega) | omega) only [↓JN_eq, CTL3, OPS3, MEM3, List.length_cons, List.length_nil, List.take_zero, List.take_succ_cons, List.drop_zero, List.drop_succ_cons, List.take_nil, List.drop_nil, Nat.reduceAdd, Nat.reduceSub, Nat.reduceLeDiff, Int.reduceLT, Int.reduceLE, Int.reduceEq, cast0, reduceIte, Nat.reduceEqDiff, lanes_budgets_w, sliceArr_eq, l1, ← hH2, as2, hb2]
  generalize H2.alloc (OR [.int .i64 0, .int .i64 f, .int .i64 s, .int .i64 o, .int .i64 (-1)] T__60) = H3 at *
  let g : Nat → Int := fun i => if i = 0 then f else if i = 1 then s else o
  have hcell : ∀ i, i < 3 → Op.load1 [.ptr H2.next (1 + i)] H3 = some (.int .i64 (g i)) := fun i hi => by
    rw [load1_of (cellsAt_row hg3)]
    have : i = 0 ∨ i = 1 ∨ i = 2 := by omega
    rcases this with rfl | rfl | rfl <;> rfl
  refine LOOP3.intro (fun n E Hc => ∃ i, Hc = H3 ∧ E = [(14, .slice H2.next 1 3 4), (15, .int .i64 3), (16, .int .i64 (i : Nat)), (4, .ptr H2.next 0), (2, .ptr (H.next + 1) 0)] ∧ n = 3 - i ∧ i ≤ 3 ∧ ∀ j, j < i → 0 ≤ g j ∧ g j ≤ 16) ?_ ?_
  · exact ⟨_, _, ⟨0, rfl, rfl, rfl, by omega, fun j hj => by omega⟩, by simp only [↓JN_eq, CTL3, OPS3, cast0, reduceIte, Nat.reduceEqDiff]⟩
  rintro n E Hc ⟨i, rfl, rfl, rfl, hi, hok⟩
  by_cases hlt : i < 3
  · have e1 : (i : Int) < 3 := by omega
    have ek : wrapI .i64 ((i : Int) + 1) = ((i + 1 : Nat) : Int) := by rw [wrap_i64 (by omega) (by omega)]; omega
    have bad : ¬ (0 ≤ g i ∧ g i ≤ 16) → decide (okB f s o) = false := fun h => by
      refine decide_eq_false fun ⟨h1, h2, h3⟩ => h ?_
      have : i = 0 ∨ i = 1 ∨ i = 2 := by omega
      rcases this with rfl | rfl | rfl
      · exact h1
      · exact h2
      · exact h3
    by_cases h1 : g i < 0
    · simp (maxSteps := 4000000) (disch := first | (simp only [m_next_alloc, m_next_set]; done) | (simp only [m_next_alloc, m_next_set]; omega) | omega) only [↓JN_eq, CTL3, OPS3, MEM3, List.length_cons, List.length_nil, List.take_zero, List.take_succ_cons, List.drop_zero, List.drop_succ_cons, List.take_nil, List.drop_nil, Nat.reduceAdd, Nat.reduceSub, Nat.reduceLeDiff, Int.reduceLT, Int.reduceLE, Int.reduceEq, cast0, reduceIte, Nat.reduceEqDiff, lanes_budgets_w, e1, ixS hlt, hcell i hlt, h1, hg3, hz3]
      exact ⟨by rw [bad (by omega)], hf3.set (.inr (by omega)) _⟩
    · by_cases h2 : 16 < g i
      · simp (maxSteps := 4000000) (disch := first | (simp only [m_next_alloc, m_next_set]; done) | (simp only [m_next_alloc, m_next_set]; omega) | omega) only [↓JN_eq, CTL3, OPS3, MEM3, List.length_cons, List.length_nil, List.take_zero, List.take_succ_cons, List.drop_zero, List.drop_succ_cons, List.take_nil, List.drop_nil, Nat.reduceAdd, Nat.reduceSub, Nat.reduceLeDiff, Int.reduceLT, Int.reduceLE, Int.reduceEq, cast0, reduceIte, Nat.reduceEqDiff, lanes_budgets_w, e1, ixS hlt, hcell i hlt, h1, h2, hg3, hz3]
        exact ⟨by rw [bad (by omega)], hf3.set (.inr (by omega)) _⟩
      · simp (maxSteps := 4000000) (disch := first | (simp only [m_next_alloc, m_next_set]; done) | (simp only [m_next_alloc, m_next_set]; omega) | omega) only [↓JN_eq, CTL3, OPS3, MEM3, List.length_cons, List.length_nil, List.take_zero, List.take_succ_cons, List.drop_zero, List.drop_succ_cons, List.take_nil, List.drop_nil, Nat.reduceAdd, Nat.reduceSub, Nat.reduceLeDiff, Int.reduceLT, Int.reduceLE, Int.reduceEq, cast0, reduceIte, Nat.reduceEqDiff, lanes_budgets_w, e1, ixS hlt, hcell i hlt, h1, h2, ek]
        refine ⟨_, _, ⟨i + 1, rfl, rfl, by omega, fun j hj => ?_⟩, by simp only [↓JN_eq, CTL3, OPS3, cast0, reduceIte, Nat.reduceEqDiff], by omega⟩
        rcases Nat.lt_succ_iff_lt_or_eq.1 hj with q | rfl
        · exact hok j q
        · omega
  · have hi3 : i = 3 := by omega
    subst hi3
    have e1 : ¬ ((3 : Nat) : Int) < 3 := by omega
    have hk : decide (okB f s o) = true := decide_eq_true ⟨hok 0 (by omega), hok 1 (by omega), hok 2 (by omega)⟩
    simp (maxSteps := 4000000) (disch := first | (simp only [m_next_alloc, m_next_set]; done) | (simp only [m_next_alloc, m_next_set]; omega) | omega) only [↓JN_eq, CTL3, OPS3, MEM3, List.length_cons, List.length_nil, List.take_zero, List.take_succ_cons, List.drop_zero, List.drop_succ_cons, List.take_nil, List.drop_nil, Nat.reduceAdd, Nat.reduceSub, Nat.reduceLeDiff, Int.reduceLT, Int.reduceLE, Int.reduceEq, cast0, reduceIte, Nat.reduceEqDiff, lanes_budgets_w, e1, hg3, hz3]
    exact ⟨by rw [hk], hf3.set (.inr (by omega)) _⟩
end Go.Am
namespace Go.Am
set_option linter.unusedVariables false
set_option linter.unusedSimpArgs false
set_option linter.unusedSectionVars false
set_option maxRecDepth 100000
variable {M : Mac} [MK M]
theorem epn (H : AHeap) (b o : Nat) : Op.eq .ptr false [.ptr b o, .nilp] H = some (.bool false) := rfl
theorem enn (H : AHeap) : Op.eq .ptr false [.nilp, .nilp] H = some (.bool true) := rfl
def laneCells (f s o : Int) : List AV := [.int .i64 0, .int .i64 f, .int .i64 s, .int .i64 o, .int .i64 (-1), .int .i64 0, .int .i64 0, .int .i64 0, .int .i64 0, .int .i64 0, .int .i64 0, .bool true]
def regCells : List AV := [.int .u64 0, .int .u64 0, .int .u64 0, .int .u64 0, .int .u64 0, .int .u64 0, .int .u64 0, .int .u64 0, .int .i64 0, .nilp, .bool true]
def coreCells (id ln : Int) (cv : AV) (f l s : Nat) : List AV := [.int .i64 id, .int .i64 ln, cv, .ptr f 0, .ptr l 0, .ptr s 0, .int .i64 0, .int .i64 0, .int .i64 0, .int .i64 0, .int .u64 0, .int .u64 0, .int .u64 0, .nils, .int .i64 0, .bool false, .bool false, .bool false, .int .i64 0, .int .i64 0, .bool false, .bool false, .nils, .nili]
def LaneQ (H : AHeap) (f s o : Int) (v : AV) (H' : AHeap) : Prop := (okB f s o ∧ ∃ b, v = .tuple [.ptr b 0, .int .i64 0] ∧ H.next ≤ b ∧ b < H'.next ∧ H'.get b = some (OR (laneCells f s o) T_lanes_Control)) ∨ (¬ okB f s o ∧ v = .tuple [.nilp, .int .i64 2])
theorem lanesNew_spec {H : AHeap} {f s o : Int} : CALLQ M N_lanes_New [.agg [.int .i64 f, .int .i64 s, .int .i64 o]] H fun v H' => LaneQ H f s o v H' ∧ Fr Em H H' := by
  refine lanes_New_s ?_
  have hf1 : Fr Em H (H.alloc (OR [.int .i64 f, .int .i64 s, .int .i64 o] T_api_Budget)) := (Fr.refl H).alloc _
  simp only [↓JN_eq, CTL3, OPS3, cast0, reduceIte, Nat.reduceEqDiff, lanes_New_w, loadN_new H [.int .i64 f, .int .i64 s, .int .i64 o] _ _ _ 3 rfl]
  refine C3.q (budgets_spec (M := M)) fun v H2 ⟨hv, hf2⟩ => ?_
  subst hv
  have hn2 := hf2.next
  rw [alloc_next] at hn2
  by_cases hk : okB f s o
  · have ed : decide (okB f s o) = true := decide_eq_true hk
    simp (maxSteps := 4000000) (disch := first | (simp only [m_next_alloc, m_next_set]; done) | (simp only [m_next_alloc, m_next_set]; omega) | omega) only [↓JN_eq, CTL3, OPS3, MEM3, List.length_cons, List.length_nil, List.take_zero, List.take_succ_cons, List.drop_zero, List.drop_succ_cons, List.take_nil, List.drop_nil, Nat.reduceAdd, Nat.reduceSub, Nat.reduceLeDiff, Int.reduceLT, Int.reduceLE, Int.reduceEq, cast0, reduceIte, Nat.reduceEqDiff, lanes_New_w, ed, alloc_set]
    refine ⟨.inl ⟨hk, _, rfl, ?_, ?_, get_alloc_new ..⟩, ((hf1.em hf2).alloc _).alloc _⟩
    · first | omega | (rw [alloc_next]; omega)
    · rw [alloc_next, alloc_next]; omega
  · have ed : decide (okB f s o) = false := decide_eq_false hk
    simp (maxSteps := 4000000) (disch := first | (simp only [m_next_alloc, m_next_set]; done) | (simp only [m_next_alloc, m_next_set]; omega) | omega) only [↓JN_eq, CTL3, OPS3, MEM3, List.length_cons, List.length_nil, List.take_zero, List.take_succ_cons, List.drop_zero, List.drop_succ_cons, List.take_nil, List.drop_nil, Nat.reduceAdd, Nat.reduceSub, Nat.reduceLeDiff, Int.reduceLT, Int.reduceLE, Int.reduceEq, cast0, reduceIte, Nat.reduceEqDiff, lanes_New_w, ed, alloc_set]
    exact ⟨.inr ⟨hk, rfl⟩, (hf1.em hf2).alloc _⟩
theorem bs0 (e : Nat) (zero : List AV) : Op.buildSlice e 0 zero [] [] = some (.row [] e (0, 0) true, Op.sliceTo 0 0) := rfl
theorem enils_nil (H : AHeap) : Op.eq .slice false [.nils, .nils] H = some (.bool true) := rfl
theorem enils_of {H : AHeap} {size : Nat} {v : AV} {n : Nat} {cells : List AV} (h : Sl H size v n cells) (hv : v ≠ .nils) (H' : AHeap) : Op.eq .slice false [v, .nils] H' = some (.bool false) := by
  obtain ⟨_, h⟩ := h
  cases v <;> first | exact (hv rfl).elim | rfl | exact h.elim
theorem copy0 {H : AHeap} {a : AV} {n : Nat} {cells : List AV} (ha : Sl H 5 a n cells) (hone : allOne cells = true) (hl : n * 40 ≤ 140737488355328) {K : Bool → AV → AHeap → Prop} {m : Bool}
    (hk : ∀ v' H', Own H' T_api_Instr 5 v' n cells → Fr Em H H' → (∀ b, OnS v' b → H.next ≤ b) → K m v' H') : B32 m (Op.append T_api_Instr 5 40 [Op.sliceTo 0 0 H.next, a] (H.alloc (.row [] T_api_Instr (0, 0) true))) K := by
  have hf1 : Fr Em H (H.alloc (.row [] T_api_Instr (0, 0) true)) := (Fr.refl H).alloc _
  refine append3s (e := T_api_Instr) (n := 0) (cells := []) ⟨rfl, .inl ⟨rfl, .inr ⟨H.next, rfl, by rw [alloc_next]; omega⟩⟩⟩ (ha.em hf1) hone (by omega) (by omega) (by omega) fun v' H2 hv' hf hfr => hk v' H2 ?_ ?_ fun b hb => ?_
  · rw [Nat.zero_add, List.nil_append] at hv'; exact hv'
  · exact hf1.trans hf fun x hx => .inr (by rw [hx.2]; exact Nat.le_refl _)
  · exact (hfr b hb).elim (fun q => by rw [q.2]; exact Nat.le_refl _) fun q => Nat.le_trans hf1.next q
theorem cloneI_spec {H : AHeap} {a : AV} {n : Nat} {cells : List AV} (ha : Sl H 5 a n cells) (hone : allOne cells = true) (hl : n ≤ 1000000) : CALLQ M N_slices_Clone_api_Instr [a] H fun v H' => oneCell v = true ∧ Fr Em H H' := by
  refine slices_Clone_api_Instr_s ?_
  by_cases hn : a = .nils
  · subst hn
    simp only [↓JN_eq, CTL3, OPS3, cast0, reduceIte, Nat.reduceEqDiff, slices_Clone_api_Instr_w, enils_nil]
    exact ⟨rfl, Fr.refl _⟩
  · simp only [↓JN_eq, CTL3, OPS3, cast0, reduceIte, Nat.reduceEqDiff, slices_Clone_api_Instr_w, enils_of ha hn, bs0]
    refine copy0 ha hone (by omega) fun v' H2 hv' hf hfr => ?_
    simp only [↓JN_eq, CTL3, OPS3, cast0, reduceIte, Nat.reduceEqDiff, slices_Clone_api_Instr_w]
    exact ⟨Sl.one hv'.sl, hf⟩
structure CoreI (H : AHeap) (lo : Nat) (b f l : Nat) : Prop where
  bl : lo ≤ b ∧ b < H.next
  fl : lo ≤ f ∧ f < H.next
  ll : lo ≤ l ∧ l < H.next
  b : ∃ id ln cv s, H.get b = some (OR (coreCells id ln cv f l s) T_core_Core)
  f : H.get f = some (OR regCells T_regs_File)
  l : ∃ x y z, H.get l = some (OR (laneCells x y z) T_lanes_Control)
theorem CoreI.fr {H H' : AHeap} {lo b f l : Nat} {W : Nat → Prop} (h : CoreI H lo b f l) (fr : Fr W H H') (hw : ∀ x, W x → x < lo) : CoreI H' lo b f l := by
  obtain ⟨h1, h2, h3, ⟨id, ln, cv, s, h4⟩, h5, ⟨x, y, z, h6⟩⟩ := h
  have hn := fr.next
  exact ⟨⟨h1.1, by omega⟩, ⟨h2.1, by omega⟩, ⟨h3.1, by omega⟩, ⟨id, ln, cv, s, by rw [fr.keep _ h1.2 fun q => by have := hw _ q; omega, h4]⟩, by rw [fr.keep _ h2.2 fun q => by have := hw _ q; omega, h5], ⟨x, y, z, by rw [fr.keep _ h3.2 fun q => by have := hw _ q; omega, h6]⟩⟩
theorem CoreI.em {H H' : AHeap} {lo b f l : Nat} (h : CoreI H lo b f l) (fr : Fr Em H H') : CoreI H' lo b f l := h.fr fr fun _ q => q.elim
theorem nq0 : Op.bin .neq [.int .i64 0, .int .i64 0] = some (.bool false) := rfl
theorem nq2 : Op.bin .neq [.int .i64 2, .int .i64 0] = some (.bool true) := rfl
def okC (id : Int) (n : Nat) (f s o ln : Int) : Prop := okB f s o ∧ 0 ≤ id ∧ id < 4 ∧ n ≤ 1024 ∧ 2 ≤ ln ∧ ln ≤ 64
instance (id : Int) (n : Nat) (f s o ln : Int) : Decidable (okC id n f s o ln) := by unfold okC; infer_instance
def CoreQ (H : AHeap) (ok : Prop) (v : AV) (H' : AHeap) : Prop := (ok ∧ ∃ b f l, v = .tuple [.ptr b 0, .int .i64 0] ∧ CoreI H' H.next b f l) ∨ (¬ ok ∧ v = .tuple [.nilp, .int .i64 2])
theorem coreNew_spec {H : AHeap} {id ln f s o : Int} {a : AV} {n : Nat} {cells : List AV} (ha : Sl H 5 a n cells) (hone : allOne cells = true) :
    CALLQ M N_core_New [.int .i64 id, a, .agg [.int .i64 f, .int .i64 s, .int .i64 o], .int .i64 ln] H fun v H' => CoreQ H (okC id n f s o ln) v H' ∧ Fr Em H H' := by
  refine core_New_s ?_
  have hf1 : Fr Em H (H.alloc (OR [.int .i64 f, .int .i64 s, .int .i64 o] T_api_Budget)) := (Fr.refl H).alloc _
  simp only [↓JN_eq, CTL3, OPS3, cast0, reduceIte, Nat.reduceEqDiff, core_New_w, loadN_new H [.int .i64 f, .int .i64 s, .int .i64 o] _ _ _ 3 rfl]
  refine C3.q (lanesNew_spec (M := M)) fun v H2 ⟨hq, hf2⟩ => ?_
  have hf02 := hf1.em hf2
  rcases hq with ⟨hk, l, rfl, l1, l2, l3⟩ | ⟨hk, rfl⟩
  · by_cases c1 : id < 0
    · simp only [↓JN_eq, CTL3, OPS3, cast0, reduceIte, Nat.reduceEqDiff, core_New_w, extract_tuple, nq0, c1]
      exact ⟨.inr ⟨fun ⟨_, q, _⟩ => by omega, rfl⟩, hf02⟩
    by_cases c2 : 4 ≤ id
    · simp only [↓JN_eq, CTL3, OPS3, cast0, reduceIte, Nat.reduceEqDiff, core_New_w, extract_tuple, nq0, c1, c2]
      exact ⟨.inr ⟨fun ⟨_, _, q, _⟩ => by omega, rfl⟩, hf02⟩
    by_cases c3 : (1024 : Int) < (n : Nat)
    · simp only [↓JN_eq, CTL3, OPS3, cast0, reduceIte, Nat.reduceEqDiff, core_New_w, extract_tuple, nq0, c1, c2, ha.len, c3]
      exact ⟨.inr ⟨fun ⟨_, _, _, q, _⟩ => by omega, rfl⟩, hf02⟩
    by_cases c4 : ln < 2
    · simp only [↓JN_eq, CTL3, OPS3, cast0, reduceIte, Nat.reduceEqDiff, core_New_w, extract_tuple, nq0, c1, c2, ha.len, c3, c4]
      exact ⟨.inr ⟨fun ⟨_, _, _, _, q, _⟩ => by omega, rfl⟩, hf02⟩
    by_cases c5 : 64 < ln
    · simp only [↓JN_eq, CTL3, OPS3, cast0, reduceIte, Nat.reduceEqDiff, core_New_w, extract_tuple, nq0, c1, c2, ha.len, c3, c4, c5]
      exact ⟨.inr ⟨fun ⟨_, _, _, _, _, q⟩ => by omega, rfl⟩, hf02⟩
    simp only [↓JN_eq, CTL3, OPS3, cast0, reduceIte, Nat.reduceEqDiff, core_New_w, extract_tuple, nq0, c1, c2, ha.len, c3, c4, c5]
    refine C3.q (cloneI_spec (M := M) (ha.em hf02) hone (by omega)) fun cv H3 ⟨hone3, hf3⟩ => ?_
    refine C3.q (regsNew_spec (M := M)) fun v H4 ⟨hv, hH4⟩ => ?_
    subst hv
    have hf4 : Fr Em H3 H4 := by rw [hH4]; exact (Fr.refl H3).alloc _
    have hg4 : H4.get H3.next = some (OR regCells T_regs_File) := by rw [hH4]; exact get_alloc_new ..
    have hn4 : H4.next = H3.next + 1 := by rw [hH4]; rfl
    simp only [↓JN_eq, CTL3, OPS3, cast0, reduceIte, Nat.reduceEqDiff, core_New_w]
    refine C3.q (softNew_spec (M := M)) fun v H5 ⟨⟨sb, hv⟩, hf5⟩ => ?_
    subst hv
    have hcl : AV.cells cv = [cv] := by cases cv <;> first | rfl | cases hone3
    have hf25 := (hf3.em hf4).em hf5
    have hn2 := hf2.next
    rw [alloc_next] at hn2 l1
    have hn3 := hf3.next
    have hn5 := hf5.next
    simp (maxSteps := 4000000) (disch := first | (simp only [m_next_alloc, m_next_set]; done) | (simp only [m_next_alloc, m_next_set]; omega) | omega) only [↓JN_eq, CTL3, OPS3, MEM3, List.length_cons, List.length_nil, List.take_zero, List.take_succ_cons, List.drop_zero, List.drop_succ_cons, List.take_nil, List.drop_nil, Nat.reduceAdd, Nat.reduceSub, Nat.reduceLeDiff, Int.reduceLT, Int.reduceLE, Int.reduceEq, cast0, reduceIte, Nat.reduceEqDiff, core_New_w, hcl]
    refine ⟨.inl ⟨⟨hk, by omega, by omega, by omega, by omega, by omega⟩, H5.next, H3.next, l, rfl, ⟨⟨by omega, by rw [alloc_next]; omega⟩, ⟨by omega, by rw [alloc_next]; omega⟩, ⟨by omega, by rw [alloc_next]; omega⟩, ⟨id, ln, cv, sb, get_alloc_new ..⟩, ?_, ⟨f, s, o, ?_⟩⟩⟩, ((hf02.em hf3).em hf4).em hf5 |>.alloc _⟩
    · rw [get_alloc_lt (by omega), hf5.keep _ (by omega) (fun q => q), hg4]
    · rw [get_alloc_lt (by omega), hf25.keep _ l2 (fun q => q), l3]
  · simp only [↓JN_eq, CTL3, OPS3, cast0, reduceIte, Nat.reduceEqDiff, core_New_w, extract_tuple, nq2]
    exact ⟨.inr ⟨fun q => hk q.1, rfl⟩, hf02⟩
end Go.Am
namespace Go.Am
set_option linter.unusedVariables false
set_option linter.unusedSimpArgs false
set_option linter.unusedSectionVars false
set_option maxRecDepth 100000
variable {M : Mac} [MK M] {H : AHeap} {lo b f l : Nat}
abbrev z8 : AV := .agg [.int .u64 0, .int .u64 0, .int .u64 0, .int .u64 0, .int .u64 0, .int .u64 0, .int .u64 0, .int .u64 0]
abbrev z5 : AV := .agg [.int .i64 0, .int .i64 0, .int .i64 0, .int .i64 0, .int .i64 0]
theorem CoreI.lb (K : CoreI H lo b f l) : ∃ id ln cv s, ∀ o, Op.load1 [.ptr b o] H = (coreCells id ln cv f l s)[o]? := by
  obtain ⟨id, ln, cv, s, hb⟩ := K.b
  exact ⟨id, ln, cv, s, fun o => load1_of (cellsAt_row hb) o⟩
theorem CoreI.lf (K : CoreI H lo b f l) : ∀ o, Op.load1 [.ptr f o] H = regCells[o]? := fun o => load1_of (cellsAt_row K.f) o
theorem CoreI.llx (K : CoreI H lo b f l) : ∃ x y z, ∀ o, Op.load1 [.ptr l o] H = (laneCells x y z)[o]? := by
  obtain ⟨x, y, z, hb⟩ := K.l
  exact ⟨x, y, z, fun o => load1_of (cellsAt_row hb) o⟩
theorem cnone_spec (K : CoreI H lo b f l) : CALLQ M N_core_Core_none [.ptr b 0] H fun v H' => v = .bool false ∧ H' = H := by
  obtain ⟨id, ln, cv, s, lb⟩ := K.lb
  refine core_Core_none_s ?_
  simp only [↓JN_eq, CTL3, OPS3, cast0, reduceIte, Nat.reduceEqDiff, core_Core_none_w, epn, nilCheck_ptr, lb, coreCells]
  all_goals rfl
theorem rnone_spec (K : CoreI H lo b f l) : CALLQ M N_regs_File_none [.ptr f 0] H fun v H' => v = .bool false ∧ H' = H := by
  refine regs_File_none_s ?_
  simp only [↓JN_eq, CTL3, OPS3, cast0, reduceIte, Nat.reduceEqDiff, regs_File_none_w, epn, nilCheck_ptr, K.lf, regCells]
  all_goals rfl
theorem lnone_spec (K : CoreI H lo b f l) : CALLQ M N_lanes_Control_none [.ptr l 0] H fun v H' => v = .bool false ∧ H' = H := by
  obtain ⟨x, y, z, ll⟩ := K.llx
  refine lanes_Control_none_s ?_
  simp only [↓JN_eq, CTL3, OPS3, cast0, reduceIte, Nat.reduceEqDiff, lanes_Control_none_w, epn, nilCheck_ptr, ll, laneCells]
  all_goals rfl
theorem marked_spec (K : CoreI H lo b f l) : CALLQ M N_regs_File_marked [.ptr f 0] H fun v H' => v = .int .i64 60 ∧ H' = H := by
  refine regs_File_marked_s ?_
  simp only [↓JN_eq, CTL3, OPS3, cast0, reduceIte, Nat.reduceEqDiff, regs_File_marked_w]
  refine C3.q (rnone_spec (M := M) K) fun v H' ⟨hv, hH⟩ => ?_
  subst hv; subst hH
  simp only [↓JN_eq, CTL3, OPS3, cast0, reduceIte, Nat.reduceEqDiff, regs_File_marked_w, nilCheck_ptr, K.lf, regCells, enn]
  all_goals rfl
theorem alloc8 (H : AHeap) : Fr Em H (H.alloc (OR [.int .u64 0, .int .u64 0, .int .u64 0, .int .u64 0, .int .u64 0, .int .u64 0, .int .u64 0, .int .u64 0] T__26)) := (Fr.refl H).alloc _
theorem fPoint_spec (K : CoreI H lo b f l) : CALLQ M N_regs_File_Point [.ptr f 0] H fun v H' => v = .tuple [z8, .int .i64 0, .bool false] ∧ Fr Em H H' := by
  refine regs_File_Point_s ?_
  have f1 := alloc8 H
  simp only [↓JN_eq, CTL3, OPS3, cast0, reduceIte, Nat.reduceEqDiff, regs_File_Point_w]
  refine C3.q (marked_spec (M := M) (K.em f1)) fun v H' ⟨hv, hH⟩ => ?_
  subst hv; subst hH
  simp (maxSteps := 4000000) (disch := first | (simp only [m_next_alloc, m_next_set]; done) | (simp only [m_next_alloc, m_next_set]; omega) | omega) only [↓JN_eq, CTL3, OPS3, MEM3, List.length_cons, List.length_nil, List.take_zero, List.take_succ_cons, List.drop_zero, List.drop_succ_cons, List.take_nil, List.drop_nil, Nat.reduceAdd, Nat.reduceSub, Nat.reduceLeDiff, Int.reduceLT, Int.reduceLE, Int.reduceEq, cast0, reduceIte, Nat.reduceEqDiff, regs_File_Point_w, alloc_set]
  exact f1
theorem fAll_spec (K : CoreI H lo b f l) : CALLQ M N_regs_File_All [.ptr f 0] H fun v H' => v = z8 ∧ Fr Em H H' := by
  refine regs_File_All_s ?_
  have f1 := alloc8 H
  have K1 := K.em f1
  simp only [↓JN_eq, CTL3, OPS3, cast0, reduceIte, Nat.reduceEqDiff, regs_File_All_w]
  refine C3.q (rnone_spec (M := M) K1) fun v H' ⟨hv, hH⟩ => ?_
  subst hv; subst hH
  have lN : Op.loadN 8 [.ptr f 0] (H.alloc (OR [.int .u64 0, .int .u64 0, .int .u64 0, .int .u64 0, .int .u64 0, .int .u64 0, .int .u64 0, .int .u64 0] T__26)) = some z8 := by rw [loadN_of (cellsAt_row K1.f) (by decide)]; rfl
  simp only [↓JN_eq, CTL3, OPS3, cast0, reduceIte, Nat.reduceEqDiff, regs_File_All_w, nilCheck_ptr, lN]
  simp (maxSteps := 4000000) (disch := first | (simp only [m_next_alloc, m_next_set]; done) | (simp only [m_next_alloc, m_next_set]; omega) | omega) only [↓JN_eq, CTL3, OPS3, MEM3, List.length_cons, List.length_nil, List.take_zero, List.take_succ_cons, List.drop_zero, List.drop_succ_cons, List.take_nil, List.drop_nil, Nat.reduceAdd, Nat.reduceSub, Nat.reduceLeDiff, Int.reduceLT, Int.reduceLE, Int.reduceEq, cast0, reduceIte, Nat.reduceEqDiff, regs_File_All_w, alloc_set]
  exact f1
theorem fPC_spec (K : CoreI H lo b f l) : CALLQ M N_regs_File_PC [.ptr f 0] H fun v H' => v = .int .i64 0 ∧ H' = H := by
  refine regs_File_PC_s ?_
  simp only [↓JN_eq, CTL3, OPS3, cast0, reduceIte, Nat.reduceEqDiff, regs_File_PC_w]
  refine C3.q (rnone_spec (M := M) K) fun v H' ⟨hv, hH⟩ => ?_
  subst hv; subst hH
  simp only [↓JN_eq, CTL3, OPS3, cast0, reduceIte, Nat.reduceEqDiff, regs_File_PC_w, nilCheck_ptr, K.lf, regCells]
  all_goals rfl
theorem lLane_spec (K : CoreI H lo b f l) : CALLQ M N_lanes_Control_Lane [.ptr l 0] H fun v H' => v = .int .i64 0 ∧ H' = H := by
  obtain ⟨x, y, z, ll⟩ := K.llx
  refine lanes_Control_Lane_s ?_
  simp only [↓JN_eq, CTL3, OPS3, cast0, reduceIte, Nat.reduceEqDiff, lanes_Control_Lane_w]
  refine C3.q (lnone_spec (M := M) K) fun v H' ⟨hv, hH⟩ => ?_
  subst hv; subst hH
  simp only [↓JN_eq, CTL3, OPS3, cast0, reduceIte, Nat.reduceEqDiff, lanes_Control_Lane_w, nilCheck_ptr, ll, laneCells]
  all_goals rfl
theorem alloc5 (H : AHeap) : Fr Em H (H.alloc (OR [.int .i64 0, .int .i64 0, .int .i64 0, .int .i64 0, .int .i64 0] T__60)) := (Fr.refl H).alloc _
theorem lCounts_spec (K : CoreI H lo b f l) : CALLQ M N_lanes_Control_Counts [.ptr l 0] H fun v H' => v = z5 ∧ Fr Em H H' := by
  refine lanes_Control_Counts_s ?_
  have f1 := alloc5 H
  have K1 := K.em f1
  simp only [↓JN_eq, CTL3, OPS3, cast0, reduceIte, Nat.reduceEqDiff, lanes_Control_Counts_w]
  refine C3.q (lnone_spec (M := M) K1) fun v H' ⟨hv, hH⟩ => ?_
  subst hv; subst hH
  obtain ⟨x, y, z, hl⟩ := K1.l
  have lN : Op.loadN 5 [.ptr l 6] (H.alloc (OR [.int .i64 0, .int .i64 0, .int .i64 0, .int .i64 0, .int .i64 0] T__60)) = some z5 := by rw [loadN_of (cellsAt_row hl) (by show 11 ≤ 12; decide)]; rfl
  simp only [↓JN_eq, CTL3, OPS3, cast0, reduceIte, Nat.reduceEqDiff, lanes_Control_Counts_w, nilCheck_ptr, lN]
  simp (maxSteps := 4000000) (disch := first | (simp only [m_next_alloc, m_next_set]; done) | (simp only [m_next_alloc, m_next_set]; omega) | omega) only [↓JN_eq, CTL3, OPS3, MEM3, List.length_cons, List.length_nil, List.take_zero, List.take_succ_cons, List.drop_zero, List.drop_succ_cons, List.take_nil, List.drop_nil, Nat.reduceAdd, Nat.reduceSub, Nat.reduceLeDiff, Int.reduceLT, Int.reduceLE, Int.reduceEq, cast0, reduceIte, Nat.reduceEqDiff, lanes_Control_Counts_w, alloc_set]
  exact f1
theorem cPoint_spec (K : CoreI H lo b f l) : CALLQ M N_core_Core_Point [.ptr b 0] H fun v H' => v = .tuple [z8, .int .i64 0, .bool false] ∧ Fr Em H H' := by
  refine core_Core_Point_s ?_
  have f1 := alloc8 H
  have K1 := K.em f1
  simp only [↓JN_eq, CTL3, OPS3, cast0, reduceIte, Nat.reduceEqDiff, core_Core_Point_w]
  refine C3.q (cnone_spec (M := M) K1) fun v H' ⟨hv, hH⟩ => ?_
  subst hv; subst hH
  obtain ⟨id, ln, cv, s, lb⟩ := K1.lb
  simp only [↓JN_eq, CTL3, OPS3, cast0, reduceIte, Nat.reduceEqDiff, core_Core_Point_w, nilCheck_ptr, lb, coreCells]
  refine C3.q (fPoint_spec (M := M) K1) fun v H2 ⟨hv, hf2⟩ => ?_
  subst hv
  have hg : H2.get H.next = some (OR [.int .u64 0, .int .u64 0, .int .u64 0, .int .u64 0, .int .u64 0, .int .u64 0, .int .u64 0, .int .u64 0] T__26) := by rw [hf2.keep _ (by rw [alloc_next]; omega) (fun q => q), get_alloc_new]
  simp (maxSteps := 4000000) (disch := first | (simp only [m_next_alloc, m_next_set]; done) | (simp only [m_next_alloc, m_next_set]; omega) | omega) only [↓JN_eq, CTL3, OPS3, MEM3, List.length_cons, List.length_nil, List.take_zero, List.take_succ_cons, List.drop_zero, List.drop_succ_cons, List.take_nil, List.drop_nil, Nat.reduceAdd, Nat.reduceSub, Nat.reduceLeDiff, Int.reduceLT, Int.reduceLE, Int.reduceEq, cast0, reduceIte, Nat.reduceEqDiff, core_Core_Point_w, hg]
  exact (f1.em hf2).set (.inr (Nat.le_refl _)) _
theorem cHalted_spec (K : CoreI H lo b f l) : CALLQ M N_core_Core_Halted [.ptr b 0] H fun v H' => v = .tuple [.bool false, .bool false] ∧ H' = H := by
  refine core_Core_Halted_s ?_
  obtain ⟨id, ln, cv, s, lb⟩ := K.lb
  simp only [↓JN_eq, CTL3, OPS3, cast0, reduceIte, Nat.reduceEqDiff, core_Core_Halted_w]
  refine C3.q (cnone_spec (M := M) K) fun v H' ⟨hv, hH⟩ => ?_
  subst hv; subst hH
  simp only [↓JN_eq, CTL3, OPS3, cast0, reduceIte, Nat.reduceEqDiff, core_Core_Halted_w, nilCheck_ptr, lb, coreCells]
  refine C3.q (cnone_spec (M := M) K) fun v H' ⟨hv, hH⟩ => ?_
  subst hv; subst hH
  simp only [↓JN_eq, CTL3, OPS3, cast0, reduceIte, Nat.reduceEqDiff, core_Core_Halted_w, nilCheck_ptr, lb, coreCells, CK3_same]
  all_goals rfl
theorem cRegs_spec (K : CoreI H lo b f l) : CALLQ M N_core_Core_Regs [.ptr b 0] H fun v H' => v = z8 ∧ Fr Em H H' := by
  refine core_Core_Regs_s ?_
  have f1 := alloc8 H
  have K1 := K.em f1
  simp only [↓JN_eq, CTL3, OPS3, cast0, reduceIte, Nat.reduceEqDiff, core_Core_Regs_w]
  refine C3.q (cnone_spec (M := M) K1) fun v H' ⟨hv, hH⟩ => ?_
  subst hv; subst hH
  obtain ⟨id, ln, cv, s, lb⟩ := K1.lb
  simp only [↓JN_eq, CTL3, OPS3, cast0, reduceIte, Nat.reduceEqDiff, core_Core_Regs_w, nilCheck_ptr, lb, coreCells]
  refine C3.q (fAll_spec (M := M) K1) fun v H2 ⟨hv, hf2⟩ => ?_
  subst hv
  have hg : H2.get H.next = some (OR [.int .u64 0, .int .u64 0, .int .u64 0, .int .u64 0, .int .u64 0, .int .u64 0, .int .u64 0, .int .u64 0] T__26) := by rw [hf2.keep _ (by rw [alloc_next]; omega) (fun q => q), get_alloc_new]
  simp (maxSteps := 4000000) (disch := first | (simp only [m_next_alloc, m_next_set]; done) | (simp only [m_next_alloc, m_next_set]; omega) | omega) only [↓JN_eq, CTL3, OPS3, MEM3, List.length_cons, List.length_nil, List.take_zero, List.take_succ_cons, List.drop_zero, List.drop_succ_cons, List.take_nil, List.drop_nil, Nat.reduceAdd, Nat.reduceSub, Nat.reduceLeDiff, Int.reduceLT, Int.reduceLE, Int.reduceEq, cast0, reduceIte, Nat.reduceEqDiff, core_Core_Regs_w, hg]
  exact (f1.em hf2).set (.inr (Nat.le_refl _)) _
theorem cPC_spec (K : CoreI H lo b f l) : CALLQ M N_core_Core_PC [.ptr b 0] H fun v H' => v = .int .i64 0 ∧ H' = H := by
  refine core_Core_PC_s ?_
  obtain ⟨id, ln, cv, s, lb⟩ := K.lb
  simp only [↓JN_eq, CTL3, OPS3, cast0, reduceIte, Nat.reduceEqDiff, core_Core_PC_w]
  refine C3.q (cnone_spec (M := M) K) fun v H' ⟨hv, hH⟩ => ?_
  subst hv; subst hH
  simp only [↓JN_eq, CTL3, OPS3, cast0, reduceIte, Nat.reduceEqDiff, core_Core_PC_w, nilCheck_ptr, lb, coreCells]
  refine C3.q (fPC_spec (M := M) K) fun v H' ⟨hv, hH⟩ => ?_
  subst hv; subst hH
  simp only [↓JN_eq, CTL3, OPS3, cast0, reduceIte, Nat.reduceEqDiff, core_Core_PC_w]
  all_goals rfl
theorem cLane_spec (K : CoreI H lo b f l) : CALLQ M N_core_Core_Lane [.ptr b 0] H fun v H' => v = .int .i64 0 ∧ H' = H := by
  refine core_Core_Lane_s ?_
  obtain ⟨id, ln, cv, s, lb⟩ := K.lb
  simp only [↓JN_eq, CTL3, OPS3, cast0, reduceIte, Nat.reduceEqDiff, core_Core_Lane_w]
  refine C3.q (cnone_spec (M := M) K) fun v H' ⟨hv, hH⟩ => ?_
  subst hv; subst hH
  simp only [↓JN_eq, CTL3, OPS3, cast0, reduceIte, Nat.reduceEqDiff, core_Core_Lane_w, nilCheck_ptr, lb, coreCells]
  refine C3.q (lLane_spec (M := M) K) fun v H' ⟨hv, hH⟩ => ?_
  subst hv; subst hH
  simp only [↓JN_eq, CTL3, OPS3, cast0, reduceIte, Nat.reduceEqDiff, core_Core_Lane_w]
  all_goals rfl
theorem cBlock_spec (K : CoreI H lo b f l) : CALLQ M N_core_Core_Block [.ptr b 0] H fun v H' => v = .int .i64 (wrapI .i64 (0 - 1)) ∧ H' = H := by
  refine core_Core_Block_s ?_
  obtain ⟨id, ln, cv, s, lb⟩ := K.lb
  simp only [↓JN_eq, CTL3, OPS3, cast0, reduceIte, Nat.reduceEqDiff, core_Core_Block_w]
  refine C3.q (cnone_spec (M := M) K) fun v H' ⟨hv, hH⟩ => ?_
  subst hv; subst hH
  simp only [↓JN_eq, CTL3, OPS3, cast0, reduceIte, Nat.reduceEqDiff, core_Core_Block_w, nilCheck_ptr, lb, coreCells]
  all_goals rfl
theorem cCounts_spec (K : CoreI H lo b f l) : CALLQ M N_core_Core_Counts [.ptr b 0] H fun v H' => v = z5 ∧ Fr Em H H' := by
  refine core_Core_Counts_s ?_
  have f1 := alloc5 H
  have K1 := K.em f1
  simp only [↓JN_eq, CTL3, OPS3, cast0, reduceIte, Nat.reduceEqDiff, core_Core_Counts_w]
  refine C3.q (cnone_spec (M := M) K1) fun v H' ⟨hv, hH⟩ => ?_
  subst hv; subst hH
  obtain ⟨id, ln, cv, s, lb⟩ := K1.lb
  simp only [↓JN_eq, CTL3, OPS3, cast0, reduceIte, Nat.reduceEqDiff, core_Core_Counts_w, nilCheck_ptr, lb, coreCells]
  refine C3.q (lCounts_spec (M := M) K1) fun v H2 ⟨hv, hf2⟩ => ?_
  subst hv
  have hg : H2.get H.next = some (OR [.int .i64 0, .int .i64 0, .int .i64 0, .int .i64 0, .int .i64 0] T__60) := by rw [hf2.keep _ (by rw [alloc_next]; omega) (fun q => q), get_alloc_new]
  simp (maxSteps := 4000000) (disch := first | (simp only [m_next_alloc, m_next_set]; done) | (simp only [m_next_alloc, m_next_set]; omega) | omega) only [↓JN_eq, CTL3, OPS3, MEM3, List.length_cons, List.length_nil, List.take_zero, List.take_succ_cons, List.drop_zero, List.drop_succ_cons, List.take_nil, List.drop_nil, Nat.reduceAdd, Nat.reduceSub, Nat.reduceLeDiff, Int.reduceLT, Int.reduceLE, Int.reduceEq, cast0, reduceIte, Nat.reduceEqDiff, core_Core_Counts_w, hg]
  exact (f1.em hf2).set (.inr (Nat.le_refl _)) _
theorem cInstrs_spec (K : CoreI H lo b f l) : CALLQ M N_core_Core_Instrs [.ptr b 0] H fun v H' => v = .int .i64 0 ∧ H' = H := by
  refine core_Core_Instrs_s ?_
  obtain ⟨id, ln, cv, s, lb⟩ := K.lb
  simp only [↓JN_eq, CTL3, OPS3, cast0, reduceIte, Nat.reduceEqDiff, core_Core_Instrs_w]
  refine C3.q (cnone_spec (M := M) K) fun v H' ⟨hv, hH⟩ => ?_
  subst hv; subst hH
  simp only [↓JN_eq, CTL3, OPS3, cast0, reduceIte, Nat.reduceEqDiff, core_Core_Instrs_w, nilCheck_ptr, lb, coreCells]
  all_goals rfl
theorem cAlone_spec (K : CoreI H lo b f l) : CALLQ M N_core_Core_Alone [.ptr b 0] H fun v H' => v = .bool false ∧ H' = H := by
  refine core_Core_Alone_s ?_
  obtain ⟨id, ln, cv, s, lb⟩ := K.lb
  simp only [↓JN_eq, CTL3, OPS3, cast0, reduceIte, Nat.reduceEqDiff, core_Core_Alone_w]
  refine C3.q (cnone_spec (M := M) K) fun v H' ⟨hv, hH⟩ => ?_
  subst hv; subst hH
  simp only [↓JN_eq, CTL3, OPS3, cast0, reduceIte, Nat.reduceEqDiff, core_Core_Alone_w, nilCheck_ptr, lb, coreCells]
  all_goals rfl
end Go.Am
