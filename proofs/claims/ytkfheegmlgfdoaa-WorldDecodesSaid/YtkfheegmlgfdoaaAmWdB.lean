/- WORLD: a script's acts, gone through and gathered. -/
import Derived.Test.YtkfheegmlgfdoaaAmWdA
namespace Go.Am
set_option linter.unusedVariables false
set_option linter.unusedSimpArgs false
set_option maxRecDepth 100000
variable {AP : AProg}
structure Act where
  kind : Int
  core : Int
  n : Int
deriving DecidableEq
def Act.enc (a : Act) : List AV := [.int .i64 a.kind, .int .i64 a.core, .int .i64 a.n]
theorem Act.len (a : Act) : a.enc.length = 3 := rfl
def actOf (b0 b1 b2 : Int) : Act := ⟨b0 % 4 + 1, b1 % 4, b2⟩
/-- a script's acts -/
def actsOf : List Int → List Act
  | b0 :: b1 :: b2 :: r => actOf b0 b1 b2 :: actsOf r
  | _ => []
def Bytes (bs : List Int) : Prop := ∀ b ∈ bs, 0 ≤ b ∧ b < 256
theorem actsOf_len : ∀ (bs : List Int), (actsOf bs).length = bs.length / 3
  | b0 :: b1 :: b2 :: r => by rw [actsOf, List.length_cons, actsOf_len r]; simp only [List.length_cons]; omega
  | [] => rfl
  | [_] => by simp [actsOf]
  | [_, _] => by simp [actsOf]
theorem actsOf_get : ∀ (bs : List Int) (i : Nat), 3 * i + 2 < bs.length → ∃ b0 b1 b2, bs[3 * i]? = some b0 ∧ bs[3 * i + 1]? = some b1 ∧ bs[3 * i + 2]? = some b2 ∧ (actsOf bs)[i]? = some (actOf b0 b1 b2)
  | b0 :: b1 :: b2 :: r, 0, h => ⟨b0, b1, b2, rfl, rfl, rfl, rfl⟩
  | b0 :: b1 :: b2 :: r, i + 1, h => by
    obtain ⟨c0, c1, c2, h0, h1, h2, h3⟩ := actsOf_get r i (by simp only [List.length_cons] at h; omega)
    exact ⟨c0, c1, c2, h0, h1, h2, h3⟩
  | [], i, h => by simp at h
  | [_], i, h => by simp at h
  | [_, _], i, h => by simp at h; omega
theorem Bytes.get {bs : List Int} (h : Bytes bs) {i : Nat} {b : Int} (hb : bs[i]? = some b) : 0 ≤ b ∧ b < 256 := h b (List.mem_of_getElem? hb)
theorem tmod4 {b : Int} (h : 0 ≤ b) : b.tmod 4 = b % 4 := Int.tmod_eq_emod_of_nonneg h

/-- slices.Chunk: a closure over the slice and the size -/
theorem Chunk_spec (hAP : AP.func N_slices_Chunk_byte = some slices_Chunk_byte_F) {H : AHeap} (sv : AV) (hsv : sv.cells = [sv]) : ∃ H' b1 b2 e1 e2, CALL AP N_slices_Chunk_byte [sv, .int .i64 3] H (.ret (.fn (.func N_slices_Chunk_byte_1) [] [.ptr b1 0, .ptr b2 0])) H' ∧ Fr Em H H' ∧
    H.next ≤ b1 ∧ H.next ≤ b2 ∧ b1 < H'.next ∧ b2 < H'.next ∧ H'.get b1 = some (.row [sv] e1 (0, 0) true) ∧ H'.get b2 = some (.row [.int .i64 3] e2 (0, 0) true) := by
  suffices h : ∃ e H', CALL AP N_slices_Chunk_byte [sv, .int .i64 3] H e H' ∧ e = .ret (.fn (.func N_slices_Chunk_byte_1) [] [.ptr H.next 0, .ptr (H.next + 1) 0]) ∧ H' = (H.alloc (.row sv.cells T__6 (0, 0) true)).alloc (.row (AV.int .i64 3).cells T_int (0, 0) true) by
    obtain ⟨e, H', h, rfl, rfl⟩ := h
    refine ⟨_, H.next, H.next + 1, T__6, T_int, h, ((Fr.refl H).alloc _).alloc _, by omega, by omega, by simp only [alloc_next]; omega, by simp only [alloc_next]; omega, ?_, ?_⟩
    · rw [get_alloc_lt (by rw [alloc_next]; omega), get_alloc_new, hsv]
    · exact get_alloc_new _ _
  refine call_of_wp hAP ?_
  have l3 : Op.load1 [.ptr (H.next + 1) 0] ((H.alloc (.row sv.cells T__6 (0, 0) true)).alloc (.row (AV.int .i64 3).cells T_int (0, 0) true)) = some (.int .i64 3) := load1_new (H.alloc _) _ _ _ _ 0
  have e3 : ¬ ((3 : Int) < 1) := by omega
  simp only [LK_some, BI_some, BI2_some, IG_true, IG_false, GO_true, GW_true, VI_func, VI_yield, RC_none, RC_nil, RC_cons, DF_fn, asBool_bool, WP_skip, WP_ret, WP_exit, WP_goto, SEQ_normal, SEQ_ret, SEQ_exit, SEQ_goto, SEQ_panic, BLK_normal, BLK_ret, BLK_exit', BLK_goto, BLK_panic, st_tm, st_dfs, st_up, st_H, T.get_set, get_setsE, look_cons, lookE_nil, FIN_ret, FIN_normal, FIN_panic, res_nil, res_tmp, res_cell1, res_cellN, tup0, tup1, tup2, keep_none, mkptr, Option.bind_some, w_true, w_false, w_undef, cond_true, cond_false, reduceIte, Nat.reduceEqDiff, dirty_eq, o_move, o_pick, o_add, o_sub, o_mul, o_eql, o_neq, o_lss, o_leq, o_gtr, o_geq, o_wrap, o_not, o_seql, o_sneq, o_lenStr, o_mkFunc, o_mkIface, o_fieldAddr, o_field1, o_alloc, o_box, AFunc.body, AFunc.results, AFunc.loops, ALoop.params, ALoop.assign, ALoop.body, List.take_zero, List.drop_zero, Nat.add_zero, Nat.zero_add, ne_eq, true_and, and_true, false_and, and_false, decide_true, decide_false, Bool.not_true, Bool.not_false, not_true_eq_false, not_false_eq_true, slices_Chunk_byte_c5_w, slices_Chunk_byte_c5_r0_w, slices_Chunk_byte_c4_w, slices_Chunk_byte_c3_w, slices_Chunk_byte_c3_r0_w, slices_Chunk_byte_c6_w, slices_Chunk_byte_c6_r0_w, slices_Chunk_byte_c2_w, slices_Chunk_byte_c1_w, slices_Chunk_byte_c1_r0_w, slices_Chunk_byte_F, args2, alloc_next, l3, e3]
theorem acts_spec (hAP : AP.func N_world_acts = some world_acts_F) {H : AHeap} (sv : AV) : CALL AP N_world_acts [sv] H (.ret (.fn (.func N_world_acts_1) [] [.ptr H.next 0])) (H.alloc (.row sv.cells T__6 (0, 0) true)) := by
  suffices h : ∃ e H', CALL AP N_world_acts [sv] H e H' ∧ e = .ret (.fn (.func N_world_acts_1) [] [.ptr H.next 0]) ∧ H' = H.alloc (.row sv.cells T__6 (0, 0) true) by
    obtain ⟨e, H', h, rfl, rfl⟩ := h; exact h
  refine call_of_wp hAP ?_
  simp only [LK_some, BI_some, BI2_some, IG_true, IG_false, GO_true, GW_true, VI_func, VI_yield, RC_none, RC_nil, RC_cons, DF_fn, asBool_bool, WP_skip, WP_ret, WP_exit, WP_goto, SEQ_normal, SEQ_ret, SEQ_exit, SEQ_goto, SEQ_panic, BLK_normal, BLK_ret, BLK_exit', BLK_goto, BLK_panic, st_tm, st_dfs, st_up, st_H, T.get_set, get_setsE, look_cons, lookE_nil, FIN_ret, FIN_normal, FIN_panic, res_nil, res_tmp, res_cell1, res_cellN, tup0, tup1, tup2, keep_none, mkptr, Option.bind_some, w_true, w_false, w_undef, cond_true, cond_false, reduceIte, Nat.reduceEqDiff, dirty_eq, o_move, o_pick, o_add, o_sub, o_mul, o_eql, o_neq, o_lss, o_leq, o_gtr, o_geq, o_wrap, o_not, o_seql, o_sneq, o_lenStr, o_mkFunc, o_mkIface, o_fieldAddr, o_field1, o_alloc, o_box, AFunc.body, AFunc.results, AFunc.loops, ALoop.params, ALoop.assign, ALoop.body, List.take_zero, List.drop_zero, Nat.add_zero, Nat.zero_add, ne_eq, true_and, and_true, false_and, and_false, decide_true, decide_false, Bool.not_true, Bool.not_false, not_true_eq_false, not_false_eq_true, world_acts_c2_w, world_acts_c2_r0_w, world_acts_c1_w, world_acts_c1_r0_w, world_acts_F, args1]
theorem SlT.cells1 {α : Type} {enc : α → List AV} {size : Nat} {H : AHeap} {v : AV} {xs : List α} (h : SlT enc size H v xs) : v.cells = [v] := by
  have := h.one
  cases v <;> first | rfl | cases this

theorem acts1_iter (hAP : AP.func N_world_acts_1 = some world_acts_1_F) (hch : AP.func N_slices_Chunk_byte = some slices_Chunk_byte_F) (hch1 : AP.func N_slices_Chunk_byte_1 = some slices_Chunk_byte_1_F)
    {H : AHeap} {bs : List Int} {sv : AV} (hs : SlT encB 1 H sv bs) (hl : bs.length < 1000000) (hby : Bytes bs) {b1 e1 : Nat} (h1 : H.get b1 = some (.row [sv] e1 (0, 0) true)) (hb1 : b1 < H.next) (hsb : slB sv < H.next ∨ sv = .nils) :
    ITER AP N_world_acts_1 [] [.ptr b1 0] (fun b => b = b1 ∨ (sv ≠ .nils ∧ b = slB sv)) H ((actsOf bs).map fun a => [.agg a.enc]) := by
  intro L R S W0 H1 hnx hN hR0 hW0 loc locS step
  suffices h : ∃ e H', CALL AP N_world_acts_1 ([] ++ (.fn (.yield L) [] [] :: [.ptr b1 0])) H1 e H' ∧ ∃ v W', e = .ret v ∧ Fr W0 H1 H' ∧ (∀ b, W' b → b < H'.next ∧ (W0 b ∨ H1.next ≤ b)) ∧ (R (actsOf bs).length W' H' ∨ S W' H') by
    obtain ⟨e, H', h, v, W', rfl, q⟩ := h; exact ⟨v, H', W', h, by rw [List.length_map]; exact q⟩
  refine call_of_wp hAP ?_
  obtain ⟨n1, g1, w1⟩ := hN b1 (.inl rfl)
  rw [h1] at g1
  have l1 : Op.load1 [.ptr b1 0] (H1.alloc (.row (AV.fn (.yield L) [] []).cells T__64 (0, 0) true)) = some sv := by rw [load1_of (cellsAt_row (by rw [get_alloc_lt (by omega)]; exact g1))]; rfl
  obtain ⟨Ha, hHa⟩ : ∃ Ha, Ha = H1.alloc (.row (AV.fn (.yield L) [] []).cells T__64 (0, 0) true) := ⟨_, rfl⟩
  have hfa : Fr Em H1 Ha := by rw [hHa]; exact (Fr.refl H1).alloc _
  have hga : Ha.get H1.next = some (.row [.fn (.yield L) [] []] T__64 (0, 0) true) := by rw [hHa]; exact get_alloc_new _ _
  have hna : Ha.next = H1.next + 1 := by rw [hHa]; rfl
  have hs1 : SlT encB 1 H1 sv bs := by
    by_cases hv : sv = .nils
    · subst hv; exact hs
    · exact Sl.fr hs (W := fun b => b ≠ slB sv) ⟨hnx, fun b hb hw => by have : b = slB sv := Classical.not_not.1 hw; exact (hN b (.inr ⟨hv, this⟩)).2.1⟩ (.inr fun q => q rfl)
  have hsa := hs1.em hfa
  obtain ⟨H3, c1, c2, e1', e2', hck, hf3, k1, k2, k1', k2', hc1, hc2⟩ := Chunk_spec hch (H := Ha) sv hs.cells1
  rw [← hHa] at l1
  simp only [LK_some, BI_some, BI2_some, IG_true, IG_false, GO_true, GW_true, VI_func, VI_yield, RC_none, RC_nil, RC_cons, DF_fn, asBool_bool, WP_skip, WP_ret, WP_exit, WP_goto, SEQ_normal, SEQ_ret, SEQ_exit, SEQ_goto, SEQ_panic, BLK_normal, BLK_ret, BLK_exit', BLK_goto, BLK_panic, st_tm, st_dfs, st_up, st_H, T.get_set, get_setsE, look_cons, lookE_nil, FIN_ret, FIN_normal, FIN_panic, res_nil, res_tmp, res_cell1, res_cellN, tup0, tup1, tup2, keep_none, mkptr, Option.bind_some, w_true, w_false, w_undef, cond_true, cond_false, reduceIte, Nat.reduceEqDiff, dirty_eq, o_move, o_pick, o_add, o_sub, o_mul, o_eql, o_neq, o_lss, o_leq, o_gtr, o_geq, o_wrap, o_not, o_seql, o_sneq, o_lenStr, o_mkFunc, o_mkIface, o_fieldAddr, o_field1, o_alloc, o_box, AFunc.body, AFunc.results, AFunc.loops, ALoop.params, ALoop.assign, ALoop.body, List.take_zero, List.drop_zero, Nat.add_zero, Nat.zero_add, ne_eq, true_and, and_true, false_and, and_false, decide_true, decide_false, Bool.not_true, Bool.not_false, not_true_eq_false, not_false_eq_true, world_acts_1_c4_w, world_acts_1_c3_w, world_acts_1_c2_w, world_acts_1_c2_r0_w, world_acts_1_c1_w, world_acts_1_c1_r0_w, world_acts_1_c5_w, world_acts_1_c5_r0_w, world_acts_1_c8_w, world_acts_1_c7_w, world_acts_1_c7_r0_w, world_acts_1_c7_r1_w, world_acts_1_c7_r2_w, world_acts_1_c7_r3_w, world_acts_1_c7_r4_w, world_acts_1_c7_r5_w, world_acts_1_c7_r6_w, world_acts_1_c7_r7_w, world_acts_1_c7_r8_w, world_acts_1_c7_r9_w, world_acts_1_c7_r10_w, world_acts_1_c7_r11_w, world_acts_1_c7_r12_w, world_acts_1_c7_r13_w, world_acts_1_c7_r14_w, world_acts_1_c7_r15_w, world_acts_1_c7_r16_w, world_acts_1_c7_r17_w, world_acts_1_c7_r18_w, world_acts_1_c7_r19_w, world_acts_1_c6_w, world_acts_1_F, args2, List.nil_append]
  rw [← hHa]
  simp only [LK_some, BI_some, BI2_some, IG_true, IG_false, GO_true, GW_true, VI_func, VI_yield, RC_none, RC_nil, RC_cons, DF_fn, asBool_bool, WP_skip, WP_ret, WP_exit, WP_goto, SEQ_normal, SEQ_ret, SEQ_exit, SEQ_goto, SEQ_panic, BLK_normal, BLK_ret, BLK_exit', BLK_goto, BLK_panic, st_tm, st_dfs, st_up, st_H, T.get_set, get_setsE, look_cons, lookE_nil, FIN_ret, FIN_normal, FIN_panic, res_nil, res_tmp, res_cell1, res_cellN, tup0, tup1, tup2, keep_none, mkptr, Option.bind_some, w_true, w_false, w_undef, cond_true, cond_false, reduceIte, Nat.reduceEqDiff, dirty_eq, o_move, o_pick, o_add, o_sub, o_mul, o_eql, o_neq, o_lss, o_leq, o_gtr, o_geq, o_wrap, o_not, o_seql, o_sneq, o_lenStr, o_mkFunc, o_mkIface, o_fieldAddr, o_field1, o_alloc, o_box, AFunc.body, AFunc.results, AFunc.loops, ALoop.params, ALoop.assign, ALoop.body, List.take_zero, List.drop_zero, Nat.add_zero, Nat.zero_add, ne_eq, true_and, and_true, false_and, and_false, decide_true, decide_false, Bool.not_true, Bool.not_false, not_true_eq_false, not_false_eq_true, world_acts_1_c4_w, world_acts_1_c3_w, world_acts_1_c2_w, world_acts_1_c2_r0_w, world_acts_1_c1_w, world_acts_1_c1_r0_w, world_acts_1_c5_w, world_acts_1_c5_r0_w, world_acts_1_c8_w, world_acts_1_c7_w, world_acts_1_c7_r0_w, world_acts_1_c7_r1_w, world_acts_1_c7_r2_w, world_acts_1_c7_r3_w, world_acts_1_c7_r4_w, world_acts_1_c7_r5_w, world_acts_1_c7_r6_w, world_acts_1_c7_r7_w, world_acts_1_c7_r8_w, world_acts_1_c7_r9_w, world_acts_1_c7_r10_w, world_acts_1_c7_r11_w, world_acts_1_c7_r12_w, world_acts_1_c7_r13_w, world_acts_1_c7_r14_w, world_acts_1_c7_r15_w, world_acts_1_c7_r16_w, world_acts_1_c7_r17_w, world_acts_1_c7_r18_w, world_acts_1_c7_r19_w, world_acts_1_c6_w, l1]
  refine CA.ret hck ?_
  simp only [LK_some, BI_some, BI2_some, IG_true, IG_false, GO_true, GW_true, VI_func, VI_yield, RC_none, RC_nil, RC_cons, DF_fn, asBool_bool, WP_skip, WP_ret, WP_exit, WP_goto, SEQ_normal, SEQ_ret, SEQ_exit, SEQ_goto, SEQ_panic, BLK_normal, BLK_ret, BLK_exit', BLK_goto, BLK_panic, st_tm, st_dfs, st_up, st_H, T.get_set, get_setsE, look_cons, lookE_nil, FIN_ret, FIN_normal, FIN_panic, res_nil, res_tmp, res_cell1, res_cellN, tup0, tup1, tup2, keep_none, mkptr, Option.bind_some, w_true, w_false, w_undef, cond_true, cond_false, reduceIte, Nat.reduceEqDiff, dirty_eq, o_move, o_pick, o_add, o_sub, o_mul, o_eql, o_neq, o_lss, o_leq, o_gtr, o_geq, o_wrap, o_not, o_seql, o_sneq, o_lenStr, o_mkFunc, o_mkIface, o_fieldAddr, o_field1, o_alloc, o_box, AFunc.body, AFunc.results, AFunc.loops, ALoop.params, ALoop.assign, ALoop.body, List.take_zero, List.drop_zero, Nat.add_zero, Nat.zero_add, ne_eq, true_and, and_true, false_and, and_false, decide_true, decide_false, Bool.not_true, Bool.not_false, not_true_eq_false, not_false_eq_true, world_acts_1_c4_w, world_acts_1_c3_w, world_acts_1_c2_w, world_acts_1_c2_r0_w, world_acts_1_c1_w, world_acts_1_c1_r0_w, world_acts_1_c5_w, world_acts_1_c5_r0_w, world_acts_1_c8_w, world_acts_1_c7_w, world_acts_1_c7_r0_w, world_acts_1_c7_r1_w, world_acts_1_c7_r2_w, world_acts_1_c7_r3_w, world_acts_1_c7_r4_w, world_acts_1_c7_r5_w, world_acts_1_c7_r6_w, world_acts_1_c7_r7_w, world_acts_1_c7_r8_w, world_acts_1_c7_r9_w, world_acts_1_c7_r10_w, world_acts_1_c7_r11_w, world_acts_1_c7_r12_w, world_acts_1_c7_r13_w, world_acts_1_c7_r14_w, world_acts_1_c7_r15_w, world_acts_1_c7_r16_w, world_acts_1_c7_r17_w, world_acts_1_c7_r18_w, world_acts_1_c7_r19_w, world_acts_1_c6_w]
  have hs3 := hsa.em hf3
  obtain ⟨cs, hcs⟩ := chunks_ex hs3
  have hfr13 : Fr Em H1 H3 := hfa.em hf3
  have hg3 : H3.get H1.next = some (.row [.fn (.yield L) [] []] T__64 (0, 0) true) := by rw [hf3.keep _ (by omega) (fun q => q)]; exact hga
  have hn3 : H1.next < H3.next := by have := hf3.next; omega
  refine rng_rule (fn := world_acts_1_F) (lp := world_acts_1_l0) hAP rfl (Chunk1_iter hch1 hs3 hl hc1 hc2 hcs) (fun i W H' => i ≤ (actsOf bs).length ∧ R i W H') (fun e W H' => e = .ret ∧ (R (actsOf bs).length W H' ∨ S W H')) W0 (Nat.le_refl _) ?_ ?_ ?_ ?_ ?_ ?_ ?_ ?_
  · rintro b (rfl | rfl)
    · exact ⟨k1', rfl, fun q => by have := hW0 _ q; omega⟩
    · exact ⟨k2', rfl, fun q => by have := hW0 _ q; omega⟩
  · exact fun b hb => Nat.lt_of_lt_of_le (hW0 b hb) hfr13.next
  · exact ⟨Nat.zero_le _, loc 0 W0 H1 H3 hR0 (fun b hb => hfr13.keep b (hW0 b hb) fun q => q) hfr13.next⟩
  · exact fun i W H' H'' h hs hn => ⟨h.1, loc i W H' H'' h.2 hs hn⟩
  · exact fun e W H' H'' h hs hn => ⟨h.1, h.2.imp (fun q => loc _ W H' H'' q hs hn) fun q => locS W H' H'' q hs hn⟩
  · intro L2 d i x hx hL2 W H4 hP hW hf4 hWL hL4 hgL
    obtain ⟨hi, hR⟩ := hP
    rw [List.getElem?_map, Option.map_eq_some_iff] at hx
    obtain ⟨c, hc, rfl⟩ := hx
    obtain ⟨hsc, hbc, _⟩ := hcs.2 i c hc
    have hil := lt_of_get hc
    rw [hcs.1] at hil
    have hil : 3 * i < bs.length := by unfold chunkN at hil; omega
    have hnn : sv ≠ .nils := by rintro rfl; have : bs.length = 0 := hs.2; omega
    -- what the round leans on
    obtain ⟨nb1, nb2, nb3⟩ := hN (slB sv) (.inr ⟨hnn, rfl⟩)
    have hsc4 : SlT encB 1 H4 c ((bs.drop (3 * i)).take (min 3 (bs.length - 3 * i))) := hsc.fr hf4 (by rw [hbc]; exact nb3)
    have hW0n : ¬ W0 H1.next := fun q => by have := hW0 _ q; omega
    have hg4 : H4.get H1.next = some (.row [.fn (.yield L) [] []] T__64 (0, 0) true) := by rw [hf4.keep _ hn3 hW0n]; exact hg3
    refine ⟨_, rfl, ?_⟩
    simp only [LK_some, BI_some, BI2_some, IG_true, IG_false, GO_true, GW_true, VI_func, VI_yield, RC_none, RC_nil, RC_cons, DF_fn, asBool_bool, WP_skip, WP_ret, WP_exit, WP_goto, SEQ_normal, SEQ_ret, SEQ_exit, SEQ_goto, SEQ_panic, BLK_normal, BLK_ret, BLK_exit', BLK_goto, BLK_panic, st_tm, st_dfs, st_up, st_H, T.get_set, get_setsE, look_cons, lookE_nil, FIN_ret, FIN_normal, FIN_panic, res_nil, res_tmp, res_cell1, res_cellN, tup0, tup1, tup2, keep_none, mkptr, Option.bind_some, w_true, w_false, w_undef, cond_true, cond_false, reduceIte, Nat.reduceEqDiff, dirty_eq, o_move, o_pick, o_add, o_sub, o_mul, o_eql, o_neq, o_lss, o_leq, o_gtr, o_geq, o_wrap, o_not, o_seql, o_sneq, o_lenStr, o_mkFunc, o_mkIface, o_fieldAddr, o_field1, o_alloc, o_box, AFunc.body, AFunc.results, AFunc.loops, ALoop.params, ALoop.assign, ALoop.body, List.take_zero, List.drop_zero, Nat.add_zero, Nat.zero_add, ne_eq, true_and, and_true, false_and, and_false, decide_true, decide_false, Bool.not_true, Bool.not_false, not_true_eq_false, not_false_eq_true, world_acts_1_c4_w, world_acts_1_c3_w, world_acts_1_c2_w, world_acts_1_c2_r0_w, world_acts_1_c1_w, world_acts_1_c1_r0_w, world_acts_1_c5_w, world_acts_1_c5_r0_w, world_acts_1_c8_w, world_acts_1_c7_w, world_acts_1_c7_r0_w, world_acts_1_c7_r1_w, world_acts_1_c7_r2_w, world_acts_1_c7_r3_w, world_acts_1_c7_r4_w, world_acts_1_c7_r5_w, world_acts_1_c7_r6_w, world_acts_1_c7_r7_w, world_acts_1_c7_r8_w, world_acts_1_c7_r9_w, world_acts_1_c7_r10_w, world_acts_1_c7_r11_w, world_acts_1_c7_r12_w, world_acts_1_c7_r13_w, world_acts_1_c7_r14_w, world_acts_1_c7_r15_w, world_acts_1_c7_r16_w, world_acts_1_c7_r17_w, world_acts_1_c7_r18_w, world_acts_1_c7_r19_w, world_acts_1_c6_w, world_acts_1_l0]
    refine ⟨hgL, ?_⟩
    have hgs : ∀ o, Fr (On L2) H4 (H4.set L2 o) := fun o => (Fr.refl H4).set (W := On L2) (.inl rfl) o
    generalize hob : (AObj.loop .busy none N_world_acts_1 0 _ d) = ob
    have hg5 : (H4.set L2 ob).get L2 = some ob := get_set_same _ _ _
    have hn5 : (H4.set L2 ob).next = H4.next := rfl
    have hf45 := hgs ob
    generalize H4.set L2 ob = H5 at hg5 hn5 hf45 ⊢
    have hcL : slB c ≠ L2 := by rw [hbc]; have := hfr13.next; omega
    have hsc5 := hsc4.fr hf45 hcL
    have l2 : Op.load1 [.ptr H1.next 0] H5 = some (.fn (.yield L) [] []) := by
      rw [load1_of (cellsAt_row (by rw [hf45.keep _ (by have := hf4.next; omega) (fun q => by have q : H1.next = L2 := q; omega)]; exact hg4))]; rfl
    have hR5 : R i W H5 := loc i W H4 H5 hR (fun b hb => hf45.keep b (hW b hb).1 (fun q => hWL (by rw [← show b = L2 from q]; exact hb))) (by omega)
    have hfr15 : Fr W0 H1 H5 := ((hfr13.mono (W' := W0) fun x _ q => q.elim).trans hf4 fun b hb => .inl hb).trans hf45 fun b hb => .inr (by have q : b = L2 := hb; have := hfr13.next; omega)
    have hWb : ∀ b, W b → b < H5.next ∧ (W0 b ∨ H1.next ≤ b) := fun b hb => ⟨by rw [hn5]; exact (hW b hb).1, (hW b hb).2.imp id fun q => Nat.le_trans hfr13.next q⟩
    by_cases hfull : 3 * i + 2 < bs.length
    · obtain ⟨x0, x1, x2, y0, y1, y2, ya⟩ := actsOf_get bs i hfull
      have em : min 3 (bs.length - 3 * i) = 3 := by omega
      rw [em] at hsc5
      have elen : ((bs.drop (3 * i)).take 3).length = 3 := by simp; omega
      have z0 : ((bs.drop (3 * i)).take 3)[0]? = some x0 := by simpa using y0
      have z1 : ((bs.drop (3 * i)).take 3)[1]? = some x1 := by simpa using y1
      have z2 : ((bs.drop (3 * i)).take 3)[2]? = some x2 := by simpa using y2
      have r0 := hby.get y0
      have r1 := hby.get y1
      have r2 := hby.get y2
      have v0 : wrapI .i64 x0 = x0 := wrap_i64 (by omega) (by omega)
      have v1 : wrapI .i64 x1 = x1 := wrap_i64 (by omega) (by omega)
      have v2 : wrapI .i64 x2 = x2 := wrap_i64 (by omega) (by omega)
      have v3 : wrapI .i64 (x0 % 4 + 1) = x0 % 4 + 1 := wrap_i64 (by omega) (by omega)
      have hrem : ∀ a : Int, Op.bin .rem [.int .i64 a, .int .i64 4] = some (.int .i64 (a.tmod 4)) := fun a => o_rem .i64 a 4 (by omega)
      have hln := hsc5.len
      rw [elen] at hln
      have e33 : ¬ (((3 : Nat) : Int) < 3) := by omega
      have hbd : Op.build [.int .i64 0, .int .i64 0, .int .i64 0] [(0, 1), (1, 1), (2, 1)] [.int .i64 (x0 % 4 + 1), .int .i64 (x1 % 4), .int .i64 x2] = some (.agg (actOf x0 x1 x2).enc) := rfl
      obtain ⟨bb, H6, W6, hr, hf6, hW6, hT, hF⟩ := step i [.agg (actOf x0 x1 x2).enc] (by rw [List.getElem?_map, ya]; rfl) W H5 hR5 hWb hfr15
      simp only [LK_some, BI_some, BI2_some, IG_true, IG_false, GO_true, GW_true, VI_func, VI_yield, RC_none, RC_nil, RC_cons, DF_fn, asBool_bool, WP_skip, WP_ret, WP_exit, WP_goto, SEQ_normal, SEQ_ret, SEQ_exit, SEQ_goto, SEQ_panic, BLK_normal, BLK_ret, BLK_exit', BLK_goto, BLK_panic, st_tm, st_dfs, st_up, st_H, T.get_set, get_setsE, look_cons, lookE_nil, FIN_ret, FIN_normal, FIN_panic, res_nil, res_tmp, res_cell1, res_cellN, tup0, tup1, tup2, keep_none, mkptr, Option.bind_some, w_true, w_false, w_undef, cond_true, cond_false, reduceIte, Nat.reduceEqDiff, dirty_eq, o_move, o_pick, o_add, o_sub, o_mul, o_eql, o_neq, o_lss, o_leq, o_gtr, o_geq, o_wrap, o_not, o_seql, o_sneq, o_lenStr, o_mkFunc, o_mkIface, o_fieldAddr, o_field1, o_alloc, o_box, AFunc.body, AFunc.results, AFunc.loops, ALoop.params, ALoop.assign, ALoop.body, List.take_zero, List.drop_zero, Nat.add_zero, Nat.zero_add, ne_eq, true_and, and_true, false_and, and_false, decide_true, decide_false, Bool.not_true, Bool.not_false, not_true_eq_false, not_false_eq_true, world_acts_1_c4_w, world_acts_1_c3_w, world_acts_1_c2_w, world_acts_1_c2_r0_w, world_acts_1_c1_w, world_acts_1_c1_r0_w, world_acts_1_c5_w, world_acts_1_c5_r0_w, world_acts_1_c8_w, world_acts_1_c7_w, world_acts_1_c7_r0_w, world_acts_1_c7_r1_w, world_acts_1_c7_r2_w, world_acts_1_c7_r3_w, world_acts_1_c7_r4_w, world_acts_1_c7_r5_w, world_acts_1_c7_r6_w, world_acts_1_c7_r7_w, world_acts_1_c7_r8_w, world_acts_1_c7_r9_w, world_acts_1_c7_r10_w, world_acts_1_c7_r11_w, world_acts_1_c7_r12_w, world_acts_1_c7_r13_w, world_acts_1_c7_r14_w, world_acts_1_c7_r15_w, world_acts_1_c7_r16_w, world_acts_1_c7_r17_w, world_acts_1_c7_r18_w, world_acts_1_c7_r19_w, world_acts_1_c6_w, hln, e33, l2, hsc5.idx z0 (z := 0) rfl, hsc5.idx z1 (z := 1) rfl, hsc5.idx z2 (z := 2) rfl, hsc5.load0 encB_len z0 (by omega), hsc5.load0 encB_len z1 (by omega), hsc5.load0 encB_len z2 (by omega), encB, List.getElem?_cons_zero, v0, v1, v2, hrem, tmod4 r0.1, tmod4 r1.1, v3, hbd, List.nil_append]
      refine CA.yret hr ?_
      have hg6 : H6.get L2 = some ob := by rw [hf6.keep L2 (by omega) hWL]; exact hg5
      have hW6' : ∀ b, W6 b → b < H6.next ∧ (W b ∨ H4.next ≤ b) := fun b hb => ⟨(hW6 b hb).1, (hW6 b hb).2.imp id fun q => by omega⟩
      have hf46 : Fr (fun b => W b ∨ b = L2) H4 H6 := (hf45.mono fun x _ q => .inr q).trans hf6 fun b hb => .inl (.inl hb)
      have hlen := lt_of_get ya
      cases bb with
      | true =>
        simp only [LK_some, BI_some, BI2_some, IG_true, IG_false, GO_true, GW_true, VI_func, VI_yield, RC_none, RC_nil, RC_cons, DF_fn, asBool_bool, WP_skip, WP_ret, WP_exit, WP_goto, SEQ_normal, SEQ_ret, SEQ_exit, SEQ_goto, SEQ_panic, BLK_normal, BLK_ret, BLK_exit', BLK_goto, BLK_panic, st_tm, st_dfs, st_up, st_H, T.get_set, get_setsE, look_cons, lookE_nil, FIN_ret, FIN_normal, FIN_panic, res_nil, res_tmp, res_cell1, res_cellN, tup0, tup1, tup2, keep_none, mkptr, Option.bind_some, w_true, w_false, w_undef, cond_true, cond_false, reduceIte, Nat.reduceEqDiff, dirty_eq, o_move, o_pick, o_add, o_sub, o_mul, o_eql, o_neq, o_lss, o_leq, o_gtr, o_geq, o_wrap, o_not, o_seql, o_sneq, o_lenStr, o_mkFunc, o_mkIface, o_fieldAddr, o_field1, o_alloc, o_box, AFunc.body, AFunc.results, AFunc.loops, ALoop.params, ALoop.assign, ALoop.body, List.take_zero, List.drop_zero, Nat.add_zero, Nat.zero_add, ne_eq, true_and, and_true, false_and, and_false, decide_true, decide_false, Bool.not_true, Bool.not_false, not_true_eq_false, not_false_eq_true, world_acts_1_c4_w, world_acts_1_c3_w, world_acts_1_c2_w, world_acts_1_c2_r0_w, world_acts_1_c1_w, world_acts_1_c1_r0_w, world_acts_1_c5_w, world_acts_1_c5_r0_w, world_acts_1_c8_w, world_acts_1_c7_w, world_acts_1_c7_r0_w, world_acts_1_c7_r1_w, world_acts_1_c7_r2_w, world_acts_1_c7_r3_w, world_acts_1_c7_r4_w, world_acts_1_c7_r5_w, world_acts_1_c7_r6_w, world_acts_1_c7_r7_w, world_acts_1_c7_r8_w, world_acts_1_c7_r9_w, world_acts_1_c7_r10_w, world_acts_1_c7_r11_w, world_acts_1_c7_r12_w, world_acts_1_c7_r13_w, world_acts_1_c7_r14_w, world_acts_1_c7_r15_w, world_acts_1_c7_r16_w, world_acts_1_c7_r17_w, world_acts_1_c7_r18_w, world_acts_1_c7_r19_w, world_acts_1_c6_w]
        exact ⟨hg6, W6, hW6', hf46, .inl ⟨by omega, hT rfl⟩⟩
      | false =>
        simp only [LK_some, BI_some, BI2_some, IG_true, IG_false, GO_true, GW_true, VI_func, VI_yield, RC_none, RC_nil, RC_cons, DF_fn, asBool_bool, WP_skip, WP_ret, WP_exit, WP_goto, SEQ_normal, SEQ_ret, SEQ_exit, SEQ_goto, SEQ_panic, BLK_normal, BLK_ret, BLK_exit', BLK_goto, BLK_panic, st_tm, st_dfs, st_up, st_H, T.get_set, get_setsE, look_cons, lookE_nil, FIN_ret, FIN_normal, FIN_panic, res_nil, res_tmp, res_cell1, res_cellN, tup0, tup1, tup2, keep_none, mkptr, Option.bind_some, w_true, w_false, w_undef, cond_true, cond_false, reduceIte, Nat.reduceEqDiff, dirty_eq, o_move, o_pick, o_add, o_sub, o_mul, o_eql, o_neq, o_lss, o_leq, o_gtr, o_geq, o_wrap, o_not, o_seql, o_sneq, o_lenStr, o_mkFunc, o_mkIface, o_fieldAddr, o_field1, o_alloc, o_box, AFunc.body, AFunc.results, AFunc.loops, ALoop.params, ALoop.assign, ALoop.body, List.take_zero, List.drop_zero, Nat.add_zero, Nat.zero_add, ne_eq, true_and, and_true, false_and, and_false, decide_true, decide_false, Bool.not_true, Bool.not_false, not_true_eq_false, not_false_eq_true, world_acts_1_c4_w, world_acts_1_c3_w, world_acts_1_c2_w, world_acts_1_c2_r0_w, world_acts_1_c1_w, world_acts_1_c1_r0_w, world_acts_1_c5_w, world_acts_1_c5_r0_w, world_acts_1_c8_w, world_acts_1_c7_w, world_acts_1_c7_r0_w, world_acts_1_c7_r1_w, world_acts_1_c7_r2_w, world_acts_1_c7_r3_w, world_acts_1_c7_r4_w, world_acts_1_c7_r5_w, world_acts_1_c7_r6_w, world_acts_1_c7_r7_w, world_acts_1_c7_r8_w, world_acts_1_c7_r9_w, world_acts_1_c7_r10_w, world_acts_1_c7_r11_w, world_acts_1_c7_r12_w, world_acts_1_c7_r13_w, world_acts_1_c7_r14_w, world_acts_1_c7_r15_w, world_acts_1_c7_r16_w, world_acts_1_c7_r17_w, world_acts_1_c7_r18_w, world_acts_1_c7_r19_w, world_acts_1_c6_w]
        exact ⟨hg6, W6, hW6', hf46, .inr ⟨trivial, .inr (hF rfl)⟩⟩
    · have hln := hsc5.len
      have elt : ((((bs.drop (3 * i)).take (min 3 (bs.length - 3 * i))).length : Nat) : Int) < 3 := by simp; omega
      simp only [LK_some, BI_some, BI2_some, IG_true, IG_false, GO_true, GW_true, VI_func, VI_yield, RC_none, RC_nil, RC_cons, DF_fn, asBool_bool, WP_skip, WP_ret, WP_exit, WP_goto, SEQ_normal, SEQ_ret, SEQ_exit, SEQ_goto, SEQ_panic, BLK_normal, BLK_ret, BLK_exit', BLK_goto, BLK_panic, st_tm, st_dfs, st_up, st_H, T.get_set, get_setsE, look_cons, lookE_nil, FIN_ret, FIN_normal, FIN_panic, res_nil, res_tmp, res_cell1, res_cellN, tup0, tup1, tup2, keep_none, mkptr, Option.bind_some, w_true, w_false, w_undef, cond_true, cond_false, reduceIte, Nat.reduceEqDiff, dirty_eq, o_move, o_pick, o_add, o_sub, o_mul, o_eql, o_neq, o_lss, o_leq, o_gtr, o_geq, o_wrap, o_not, o_seql, o_sneq, o_lenStr, o_mkFunc, o_mkIface, o_fieldAddr, o_field1, o_alloc, o_box, AFunc.body, AFunc.results, AFunc.loops, ALoop.params, ALoop.assign, ALoop.body, List.take_zero, List.drop_zero, Nat.add_zero, Nat.zero_add, ne_eq, true_and, and_true, false_and, and_false, decide_true, decide_false, Bool.not_true, Bool.not_false, not_true_eq_false, not_false_eq_true, world_acts_1_c4_w, world_acts_1_c3_w, world_acts_1_c2_w, world_acts_1_c2_r0_w, world_acts_1_c1_w, world_acts_1_c1_r0_w, world_acts_1_c5_w, world_acts_1_c5_r0_w, world_acts_1_c8_w, world_acts_1_c7_w, world_acts_1_c7_r0_w, world_acts_1_c7_r1_w, world_acts_1_c7_r2_w, world_acts_1_c7_r3_w, world_acts_1_c7_r4_w, world_acts_1_c7_r5_w, world_acts_1_c7_r6_w, world_acts_1_c7_r7_w, world_acts_1_c7_r8_w, world_acts_1_c7_r9_w, world_acts_1_c7_r10_w, world_acts_1_c7_r11_w, world_acts_1_c7_r12_w, world_acts_1_c7_r13_w, world_acts_1_c7_r14_w, world_acts_1_c7_r15_w, world_acts_1_c7_r16_w, world_acts_1_c7_r17_w, world_acts_1_c7_r18_w, world_acts_1_c7_r19_w, world_acts_1_c6_w, hln, elt]
      have hi' : i = (actsOf bs).length := by rw [actsOf_len] at hi ⊢; omega
      exact ⟨hg5, W, fun b hb => ⟨by rw [hn5]; exact (hW b hb).1, .inl hb⟩, hf45.mono fun x _ q => .inr q, .inr ⟨trivial, .inl (by rw [← hi']; exact hR5)⟩⟩
  · intro d W H' h1 h2 h3 h4 h5 h6
    rw [List.length_map] at h6
    have hset : ∀ o, Fr W0 H1 (H'.set d o) := fun o => ((hfr13.mono (W' := W0) fun x _ q => q.elim).trans h4 fun b hb => .inl hb).set (.inr (by have := hfr13.next; omega)) o
    have hcl : cs.length = (actsOf bs).length := by have := h6.1; rw [actsOf_len] at this ⊢; rw [hcs.1] at this ⊢; unfold chunkN at this ⊢; omega
    simp only [LK_some, BI_some, BI2_some, IG_true, IG_false, GO_true, GW_true, VI_func, VI_yield, RC_none, RC_nil, RC_cons, DF_fn, asBool_bool, WP_skip, WP_ret, WP_exit, WP_goto, SEQ_normal, SEQ_ret, SEQ_exit, SEQ_goto, SEQ_panic, BLK_normal, BLK_ret, BLK_exit', BLK_goto, BLK_panic, st_tm, st_dfs, st_up, st_H, T.get_set, get_setsE, look_cons, lookE_nil, FIN_ret, FIN_normal, FIN_panic, res_nil, res_tmp, res_cell1, res_cellN, tup0, tup1, tup2, keep_none, mkptr, Option.bind_some, w_true, w_false, w_undef, cond_true, cond_false, reduceIte, Nat.reduceEqDiff, dirty_eq, o_move, o_pick, o_add, o_sub, o_mul, o_eql, o_neq, o_lss, o_leq, o_gtr, o_geq, o_wrap, o_not, o_seql, o_sneq, o_lenStr, o_mkFunc, o_mkIface, o_fieldAddr, o_field1, o_alloc, o_box, AFunc.body, AFunc.results, AFunc.loops, ALoop.params, ALoop.assign, ALoop.body, List.take_zero, List.drop_zero, Nat.add_zero, Nat.zero_add, ne_eq, true_and, and_true, false_and, and_false, decide_true, decide_false, Bool.not_true, Bool.not_false, not_true_eq_false, not_false_eq_true, world_acts_1_c4_w, world_acts_1_c3_w, world_acts_1_c2_w, world_acts_1_c2_r0_w, world_acts_1_c1_w, world_acts_1_c1_r0_w, world_acts_1_c5_w, world_acts_1_c5_r0_w, world_acts_1_c8_w, world_acts_1_c7_w, world_acts_1_c7_r0_w, world_acts_1_c7_r1_w, world_acts_1_c7_r2_w, world_acts_1_c7_r3_w, world_acts_1_c7_r4_w, world_acts_1_c7_r5_w, world_acts_1_c7_r6_w, world_acts_1_c7_r7_w, world_acts_1_c7_r8_w, world_acts_1_c7_r9_w, world_acts_1_c7_r10_w, world_acts_1_c7_r11_w, world_acts_1_c7_r12_w, world_acts_1_c7_r13_w, world_acts_1_c7_r14_w, world_acts_1_c7_r15_w, world_acts_1_c7_r16_w, world_acts_1_c7_r17_w, world_acts_1_c7_r18_w, world_acts_1_c7_r19_w, world_acts_1_c6_w]
    rw [FIN_coll _ _ _ _ _ _ _ _ _ (.inl rfl) h3]
    simp only [LK_some, BI_some, BI2_some, IG_true, IG_false, GO_true, GW_true, VI_func, VI_yield, RC_none, RC_nil, RC_cons, DF_fn, asBool_bool, WP_skip, WP_ret, WP_exit, WP_goto, SEQ_normal, SEQ_ret, SEQ_exit, SEQ_goto, SEQ_panic, BLK_normal, BLK_ret, BLK_exit', BLK_goto, BLK_panic, st_tm, st_dfs, st_up, st_H, T.get_set, get_setsE, look_cons, lookE_nil, FIN_ret, FIN_normal, FIN_panic, res_nil, res_tmp, res_cell1, res_cellN, tup0, tup1, tup2, keep_none, mkptr, Option.bind_some, w_true, w_false, w_undef, cond_true, cond_false, reduceIte, Nat.reduceEqDiff, dirty_eq, o_move, o_pick, o_add, o_sub, o_mul, o_eql, o_neq, o_lss, o_leq, o_gtr, o_geq, o_wrap, o_not, o_seql, o_sneq, o_lenStr, o_mkFunc, o_mkIface, o_fieldAddr, o_field1, o_alloc, o_box, AFunc.body, AFunc.results, AFunc.loops, ALoop.params, ALoop.assign, ALoop.body, List.take_zero, List.drop_zero, Nat.add_zero, Nat.zero_add, ne_eq, true_and, and_true, false_and, and_false, decide_true, decide_false, Bool.not_true, Bool.not_false, not_true_eq_false, not_false_eq_true, world_acts_1_c4_w, world_acts_1_c3_w, world_acts_1_c2_w, world_acts_1_c2_r0_w, world_acts_1_c1_w, world_acts_1_c1_r0_w, world_acts_1_c5_w, world_acts_1_c5_r0_w, world_acts_1_c8_w, world_acts_1_c7_w, world_acts_1_c7_r0_w, world_acts_1_c7_r1_w, world_acts_1_c7_r2_w, world_acts_1_c7_r3_w, world_acts_1_c7_r4_w, world_acts_1_c7_r5_w, world_acts_1_c7_r6_w, world_acts_1_c7_r7_w, world_acts_1_c7_r8_w, world_acts_1_c7_r9_w, world_acts_1_c7_r10_w, world_acts_1_c7_r11_w, world_acts_1_c7_r12_w, world_acts_1_c7_r13_w, world_acts_1_c7_r14_w, world_acts_1_c7_r15_w, world_acts_1_c7_r16_w, world_acts_1_c7_r17_w, world_acts_1_c7_r18_w, world_acts_1_c7_r19_w, world_acts_1_c6_w]
    exact ⟨_, W, rfl, hset _, fun b hb => ⟨(h5 b hb).1, (h5 b hb).2.1.imp id fun q => Nat.le_trans hfr13.next q⟩, .inl (loc _ _ _ _ (hcl ▸ h6.2) (fun b hb => get_set_ne (fun q => (h5 b hb).2.2 q.symm) _) (Nat.le_refl _))⟩
  · rintro e d W H' hj h1 h2 h3 h4 h5 ⟨rfl, h6⟩
    have hset : ∀ o, Fr W0 H1 (H'.set d o) := fun o => ((hfr13.mono (W' := W0) fun x _ q => q.elim).trans h4 fun b hb => .inl hb).set (.inr (by have := hfr13.next; omega)) o
    simp only [LK_some, BI_some, BI2_some, IG_true, IG_false, GO_true, GW_true, VI_func, VI_yield, RC_none, RC_nil, RC_cons, DF_fn, asBool_bool, WP_skip, WP_ret, WP_exit, WP_goto, SEQ_normal, SEQ_ret, SEQ_exit, SEQ_goto, SEQ_panic, BLK_normal, BLK_ret, BLK_exit', BLK_goto, BLK_panic, st_tm, st_dfs, st_up, st_H, T.get_set, get_setsE, look_cons, lookE_nil, FIN_ret, FIN_normal, FIN_panic, res_nil, res_tmp, res_cell1, res_cellN, tup0, tup1, tup2, keep_none, mkptr, Option.bind_some, w_true, w_false, w_undef, cond_true, cond_false, reduceIte, Nat.reduceEqDiff, dirty_eq, o_move, o_pick, o_add, o_sub, o_mul, o_eql, o_neq, o_lss, o_leq, o_gtr, o_geq, o_wrap, o_not, o_seql, o_sneq, o_lenStr, o_mkFunc, o_mkIface, o_fieldAddr, o_field1, o_alloc, o_box, AFunc.body, AFunc.results, AFunc.loops, ALoop.params, ALoop.assign, ALoop.body, List.take_zero, List.drop_zero, Nat.add_zero, Nat.zero_add, ne_eq, true_and, and_true, false_and, and_false, decide_true, decide_false, Bool.not_true, Bool.not_false, not_true_eq_false, not_false_eq_true, world_acts_1_c4_w, world_acts_1_c3_w, world_acts_1_c2_w, world_acts_1_c2_r0_w, world_acts_1_c1_w, world_acts_1_c1_r0_w, world_acts_1_c5_w, world_acts_1_c5_r0_w, world_acts_1_c8_w, world_acts_1_c7_w, world_acts_1_c7_r0_w, world_acts_1_c7_r1_w, world_acts_1_c7_r2_w, world_acts_1_c7_r3_w, world_acts_1_c7_r4_w, world_acts_1_c7_r5_w, world_acts_1_c7_r6_w, world_acts_1_c7_r7_w, world_acts_1_c7_r8_w, world_acts_1_c7_r9_w, world_acts_1_c7_r10_w, world_acts_1_c7_r11_w, world_acts_1_c7_r12_w, world_acts_1_c7_r13_w, world_acts_1_c7_r14_w, world_acts_1_c7_r15_w, world_acts_1_c7_r16_w, world_acts_1_c7_r17_w, world_acts_1_c7_r18_w, world_acts_1_c7_r19_w, world_acts_1_c6_w]
    rw [FIN_coll _ _ _ _ _ _ _ _ _ (.inr rfl) h3]
    simp only [LK_some, BI_some, BI2_some, IG_true, IG_false, GO_true, GW_true, VI_func, VI_yield, RC_none, RC_nil, RC_cons, DF_fn, asBool_bool, WP_skip, WP_ret, WP_exit, WP_goto, SEQ_normal, SEQ_ret, SEQ_exit, SEQ_goto, SEQ_panic, BLK_normal, BLK_ret, BLK_exit', BLK_goto, BLK_panic, st_tm, st_dfs, st_up, st_H, T.get_set, get_setsE, look_cons, lookE_nil, FIN_ret, FIN_normal, FIN_panic, res_nil, res_tmp, res_cell1, res_cellN, tup0, tup1, tup2, keep_none, mkptr, Option.bind_some, w_true, w_false, w_undef, cond_true, cond_false, reduceIte, Nat.reduceEqDiff, dirty_eq, o_move, o_pick, o_add, o_sub, o_mul, o_eql, o_neq, o_lss, o_leq, o_gtr, o_geq, o_wrap, o_not, o_seql, o_sneq, o_lenStr, o_mkFunc, o_mkIface, o_fieldAddr, o_field1, o_alloc, o_box, AFunc.body, AFunc.results, AFunc.loops, ALoop.params, ALoop.assign, ALoop.body, List.take_zero, List.drop_zero, Nat.add_zero, Nat.zero_add, ne_eq, true_and, and_true, false_and, and_false, decide_true, decide_false, Bool.not_true, Bool.not_false, not_true_eq_false, not_false_eq_true, world_acts_1_c4_w, world_acts_1_c3_w, world_acts_1_c2_w, world_acts_1_c2_r0_w, world_acts_1_c1_w, world_acts_1_c1_r0_w, world_acts_1_c5_w, world_acts_1_c5_r0_w, world_acts_1_c8_w, world_acts_1_c7_w, world_acts_1_c7_r0_w, world_acts_1_c7_r1_w, world_acts_1_c7_r2_w, world_acts_1_c7_r3_w, world_acts_1_c7_r4_w, world_acts_1_c7_r5_w, world_acts_1_c7_r6_w, world_acts_1_c7_r7_w, world_acts_1_c7_r8_w, world_acts_1_c7_r9_w, world_acts_1_c7_r10_w, world_acts_1_c7_r11_w, world_acts_1_c7_r12_w, world_acts_1_c7_r13_w, world_acts_1_c7_r14_w, world_acts_1_c7_r15_w, world_acts_1_c7_r16_w, world_acts_1_c7_r17_w, world_acts_1_c7_r18_w, world_acts_1_c7_r19_w, world_acts_1_c6_w]
    exact ⟨_, W, rfl, hset _, fun b hb => ⟨(h5 b hb).1, (h5 b hb).2.1.imp id fun q => Nat.le_trans hfr13.next q⟩, h6.imp (fun q => loc _ _ _ _ q (fun b hb => get_set_ne (fun q => (h5 b hb).2.2 q.symm) _) (Nat.le_refl _)) fun q => locS _ _ _ q (fun b hb => get_set_ne (fun q => (h5 b hb).2.2 q.symm) _) (Nat.le_refl _)⟩
end Go.Am
