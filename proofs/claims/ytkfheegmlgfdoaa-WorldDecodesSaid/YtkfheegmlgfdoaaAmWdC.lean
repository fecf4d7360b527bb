/- WORLD: decoding, and the law. -/
import Derived.Test.YtkfheegmlgfdoaaAmWdB
namespace Go.Am
set_option linter.unusedVariables false
set_option linter.unusedSimpArgs false
set_option maxRecDepth 100000
variable {AP : AProg}
abbrev NewA := New Act.enc T_api_Act 3

theorem AppendSeq_spec (hAP : AP.func N_slices_AppendSeq_api_Act = some slices_AppendSeq_api_Act_F) {H : AHeap} {g : Nat} {cap : List AV} {N : Nat → Prop} {al : List Act} (hN : ∀ b, N b → b < H.next) (hl : al.length < 1000000)
    (hit : ITER AP g [] cap N H (al.map fun a => [.agg a.enc])) : ∃ v H', CALL AP N_slices_AppendSeq_api_Act [.nils, .fn (.func g) [] cap] H (.ret v) H' ∧ NewA H H' v al := by
  suffices h : ∃ e H', CALL AP N_slices_AppendSeq_api_Act [.nils, .fn (.func g) [] cap] H e H' ∧ ∃ v, e = .ret v ∧ NewA H H' v al by
    obtain ⟨e, H', h, v, rfl, q⟩ := h; exact ⟨v, H', h, q⟩
  refine call_of_wp hAP ?_
  simp only [LK_some, BI_some, BI2_some, IG_true, IG_false, GO_true, GW_true, VI_func, VI_yield, RC_none, RC_nil, RC_cons, DF_fn, asBool_bool, WP_skip, WP_ret, WP_exit, WP_goto, SEQ_normal, SEQ_ret, SEQ_exit, SEQ_goto, SEQ_panic, BLK_normal, BLK_ret, BLK_exit', BLK_goto, BLK_panic, st_tm, st_dfs, st_up, st_H, T.get_set, get_setsE, look_cons, lookE_nil, FIN_ret, FIN_normal, FIN_panic, res_nil, res_tmp, res_cell1, res_cellN, tup0, tup1, tup2, keep_none, mkptr, Option.bind_some, w_true, w_false, w_undef, cond_true, cond_false, reduceIte, Nat.reduceEqDiff, dirty_eq, o_move, o_pick, o_add, o_sub, o_mul, o_eql, o_neq, o_lss, o_leq, o_gtr, o_geq, o_wrap, o_not, o_seql, o_sneq, o_lenStr, o_mkFunc, o_mkIface, o_fieldAddr, o_field1, o_alloc, o_box, AFunc.body, AFunc.results, AFunc.loops, ALoop.params, ALoop.assign, ALoop.body, List.take_zero, List.drop_zero, Nat.add_zero, Nat.zero_add, ne_eq, true_and, and_true, false_and, and_false, decide_true, decide_false, Bool.not_true, Bool.not_false, not_true_eq_false, not_false_eq_true, slices_AppendSeq_api_Act_c5_w, slices_AppendSeq_api_Act_c4_w, slices_AppendSeq_api_Act_c3_w, slices_AppendSeq_api_Act_c3_r0_w, slices_AppendSeq_api_Act_c6_w, slices_AppendSeq_api_Act_c6_r0_w, slices_AppendSeq_api_Act_c2_w, slices_AppendSeq_api_Act_c1_w, slices_AppendSeq_api_Act_c1_r0_w, slices_AppendSeq_api_Act_c7_w, slices_AppendSeq_api_Act_c7_r0_w, slices_AppendSeq_api_Act_c9_w, slices_AppendSeq_api_Act_c9_r0_w, slices_AppendSeq_api_Act_c8_w, slices_AppendSeq_api_Act_F, args2]
  obtain ⟨H1, hH1⟩ : ∃ H1, H1 = H.alloc (.row AV.nils.cells T__7 (0, 0) true) := ⟨_, rfl⟩
  rw [← hH1]
  have hf1 : Fr Em H H1 := by rw [hH1]; exact (Fr.refl H).alloc _
  have hn1 : H1.next = H.next + 1 := by rw [hH1]; rfl
  have hg1 : H1.get H.next = some (.row [.nils] T__7 (0, 0) true) := by rw [hH1]; exact get_alloc_new _ _
  refine rng_rule (fn := slices_AppendSeq_api_Act_F) (lp := slices_AppendSeq_api_Act_l0) hAP rfl hit
    (fun i W H' => ∃ v, H'.get H.next = some (.row [v] T__7 (0, 0) true) ∧ OwnT Act.enc T_api_Act 3 H' v (al.take i) ∧ (∀ b, W b ↔ b = H.next ∨ OnS v b) ∧ (∀ b, OnS v b → H.next < b) ∧ H.next < H'.next) (fun _ _ _ => False) (On H.next) (by omega) ?_ ?_ ?_ ?_ ?_ ?_ ?_ ?_
  · intro b hb
    exact ⟨hN b hb, hf1.keep b (hN b hb) (fun q => q), fun q => by have := hN b hb; have q : b = H.next := q; omega⟩
  · intro b hb; have hb : b = H.next := hb; omega
  · exact ⟨.nils, hg1, by rw [List.take_zero]; exact Own.nil _ _ _, fun b => ⟨fun q => .inl q, fun q => q.elim id fun q => (q.1 rfl).elim⟩, fun b hb => (hb.1 rfl).elim, by omega⟩
  · rintro i W Ha Hb ⟨v, q1, q2, q3, q4, q5⟩ hs hn
    refine ⟨v, by rw [hs _ ((q3 _).2 (.inl rfl))]; exact q1, ?_, q3, q4, by omega⟩
    exact Own.fr q2 (W := fun b => ¬ W b) ⟨hn, fun b hb hw => hs b (Classical.not_not.1 hw)⟩ fun x hx hx' => hx' ((q3 x).2 (.inr hx))
  · intro e W Ha Hb h; exact h.elim
  · rintro L d i x hx hL W H2 ⟨v, q1, q2, q3, q4, q5⟩ hW hf2 hWL hL2 hgL
    rw [List.getElem?_map, Option.map_eq_some_iff] at hx
    obtain ⟨a, ha, rfl⟩ := hx
    have hi := lt_of_get ha
    refine ⟨_, rfl, ?_⟩
    have hz : Op.store 3 [.ptr H2.next 0, .agg a.enc] (H2.alloc (.row [.int .i64 0, .int .i64 0, .int .i64 0] T_api_Act (0, 0) true)) = some (.undef, H2.alloc (.row (AV.agg a.enc).cells T_api_Act (0, 0) true)) := store_new H2 _ _ 3 (.agg a.enc) rfl rfl rfl
    simp only [LK_some, BI_some, BI2_some, IG_true, IG_false, GO_true, GW_true, VI_func, VI_yield, RC_none, RC_nil, RC_cons, DF_fn, asBool_bool, WP_skip, WP_ret, WP_exit, WP_goto, SEQ_normal, SEQ_ret, SEQ_exit, SEQ_goto, SEQ_panic, BLK_normal, BLK_ret, BLK_exit', BLK_goto, BLK_panic, st_tm, st_dfs, st_up, st_H, T.get_set, get_setsE, look_cons, lookE_nil, FIN_ret, FIN_normal, FIN_panic, res_nil, res_tmp, res_cell1, res_cellN, tup0, tup1, tup2, keep_none, mkptr, Option.bind_some, w_true, w_false, w_undef, cond_true, cond_false, reduceIte, Nat.reduceEqDiff, dirty_eq, o_move, o_pick, o_add, o_sub, o_mul, o_eql, o_neq, o_lss, o_leq, o_gtr, o_geq, o_wrap, o_not, o_seql, o_sneq, o_lenStr, o_mkFunc, o_mkIface, o_fieldAddr, o_field1, o_alloc, o_box, AFunc.body, AFunc.results, AFunc.loops, ALoop.params, ALoop.assign, ALoop.body, List.take_zero, List.drop_zero, Nat.add_zero, Nat.zero_add, ne_eq, true_and, and_true, false_and, and_false, decide_true, decide_false, Bool.not_true, Bool.not_false, not_true_eq_false, not_false_eq_true, slices_AppendSeq_api_Act_c5_w, slices_AppendSeq_api_Act_c4_w, slices_AppendSeq_api_Act_c3_w, slices_AppendSeq_api_Act_c3_r0_w, slices_AppendSeq_api_Act_c6_w, slices_AppendSeq_api_Act_c6_r0_w, slices_AppendSeq_api_Act_c2_w, slices_AppendSeq_api_Act_c1_w, slices_AppendSeq_api_Act_c1_r0_w, slices_AppendSeq_api_Act_c7_w, slices_AppendSeq_api_Act_c7_r0_w, slices_AppendSeq_api_Act_c9_w, slices_AppendSeq_api_Act_c9_r0_w, slices_AppendSeq_api_Act_c8_w, slices_AppendSeq_api_Act_l0, hz]
    refine ⟨by rw [get_alloc_lt hL2]; exact hgL, ?_⟩
    generalize hob : (AObj.loop .busy none N_slices_AppendSeq_api_Act 0 _ d) = ob
    obtain ⟨H3, hH3⟩ : ∃ H3, H3 = (H2.alloc (.row (AV.agg a.enc).cells T_api_Act (0, 0) true)).set L ob := ⟨_, rfl⟩
    rw [← hH3]
    have hLH : L ≠ H.next := by have := hf2.next; omega
    have hf23 : Fr (On L) H2 H3 := by rw [hH3]; exact ((Fr.refl H2).alloc _).set (W := On L) (.inl rfl) ob
    have hg3L : H3.get L = some ob := by rw [hH3]; exact get_set_same _ _ _
    have hn3 : H3.next = H2.next + 1 := by rw [hH3]; rfl
    have hg3 : H3.get H.next = some (.row [v] T__7 (0, 0) true) := by rw [hf23.keep _ q5 (fun q => hLH (show H.next = L from q).symm)]; exact q1
    have hg3n : H3.get H2.next = some (.row (AV.agg a.enc).cells T_api_Act (0, 0) true) := by rw [hH3, get_set_ne (by omega), get_alloc_new]
    have hLv : ∀ x, OnS v x → x ≠ L := fun x hx q => hWL ((q3 L).2 (.inr (by rw [← q]; exact hx)))
    have hown3 := Own.fr q2 hf23 (fun x hx q => hLv x hx q)
    have l8 : Op.load1 [.ptr H.next 0] H3 = some v := by rw [load1_of (cellsAt_row hg3)]; rfl
    have l9 : Op.loadN 3 [.ptr H2.next 0] H3 = some (.agg a.enc) := by rw [loadN_of (cellsAt_row hg3n) (o := 0) (n := 3) (Nat.le_refl 3)]; rfl
    have hlt : (al.take i).length = i := by rw [List.length_take]; omega
    simp only [LK_some, BI_some, BI2_some, IG_true, IG_false, GO_true, GW_true, VI_func, VI_yield, RC_none, RC_nil, RC_cons, DF_fn, asBool_bool, WP_skip, WP_ret, WP_exit, WP_goto, SEQ_normal, SEQ_ret, SEQ_exit, SEQ_goto, SEQ_panic, BLK_normal, BLK_ret, BLK_exit', BLK_goto, BLK_panic, st_tm, st_dfs, st_up, st_H, T.get_set, get_setsE, look_cons, lookE_nil, FIN_ret, FIN_normal, FIN_panic, res_nil, res_tmp, res_cell1, res_cellN, tup0, tup1, tup2, keep_none, mkptr, Option.bind_some, w_true, w_false, w_undef, cond_true, cond_false, reduceIte, Nat.reduceEqDiff, dirty_eq, o_move, o_pick, o_add, o_sub, o_mul, o_eql, o_neq, o_lss, o_leq, o_gtr, o_geq, o_wrap, o_not, o_seql, o_sneq, o_lenStr, o_mkFunc, o_mkIface, o_fieldAddr, o_field1, o_alloc, o_box, AFunc.body, AFunc.results, AFunc.loops, ALoop.params, ALoop.assign, ALoop.body, List.take_zero, List.drop_zero, Nat.add_zero, Nat.zero_add, ne_eq, true_and, and_true, false_and, and_false, decide_true, decide_false, Bool.not_true, Bool.not_false, not_true_eq_false, not_false_eq_true, slices_AppendSeq_api_Act_c5_w, slices_AppendSeq_api_Act_c4_w, slices_AppendSeq_api_Act_c3_w, slices_AppendSeq_api_Act_c3_r0_w, slices_AppendSeq_api_Act_c6_w, slices_AppendSeq_api_Act_c6_r0_w, slices_AppendSeq_api_Act_c2_w, slices_AppendSeq_api_Act_c1_w, slices_AppendSeq_api_Act_c1_r0_w, slices_AppendSeq_api_Act_c7_w, slices_AppendSeq_api_Act_c7_r0_w, slices_AppendSeq_api_Act_c9_w, slices_AppendSeq_api_Act_c9_r0_w, slices_AppendSeq_api_Act_c8_w, l8, l9]
    refine append1 hown3 (bytes := 24) (by rfl) (by rfl) (by rfl) (by omega) (by omega) (by omega) fun v' H4 hv' hf34 hfr' => ?_
    have hg4 : H4.get H.next = some (.row [v] T__7 (0, 0) true) := by rw [hf34.keep _ (by omega) (fun q => by have := q4 _ q; omega)]; exact hg3
    have hc1 : v'.cells = [v'] := by have := (Own.sl hv').one; cases v' <;> first | rfl | cases this
    have hst : Op.store 1 [.ptr H.next 0, v'] H4 = some (.undef, H4.set H.next (.row [v'] T__7 (0, 0) true)) := by
      rw [store_row hg4 (by rw [hc1]; rfl) (by simp) (by rw [hc1, allOne_eq]; simpa using (Own.sl hv').one), hc1]; rfl
    simp only [LK_some, BI_some, BI2_some, IG_true, IG_false, GO_true, GW_true, VI_func, VI_yield, RC_none, RC_nil, RC_cons, DF_fn, asBool_bool, WP_skip, WP_ret, WP_exit, WP_goto, SEQ_normal, SEQ_ret, SEQ_exit, SEQ_goto, SEQ_panic, BLK_normal, BLK_ret, BLK_exit', BLK_goto, BLK_panic, st_tm, st_dfs, st_up, st_H, T.get_set, get_setsE, look_cons, lookE_nil, FIN_ret, FIN_normal, FIN_panic, res_nil, res_tmp, res_cell1, res_cellN, tup0, tup1, tup2, keep_none, mkptr, Option.bind_some, w_true, w_false, w_undef, cond_true, cond_false, reduceIte, Nat.reduceEqDiff, dirty_eq, o_move, o_pick, o_add, o_sub, o_mul, o_eql, o_neq, o_lss, o_leq, o_gtr, o_geq, o_wrap, o_not, o_seql, o_sneq, o_lenStr, o_mkFunc, o_mkIface, o_fieldAddr, o_field1, o_alloc, o_box, AFunc.body, AFunc.results, AFunc.loops, ALoop.params, ALoop.assign, ALoop.body, List.take_zero, List.drop_zero, Nat.add_zero, Nat.zero_add, ne_eq, true_and, and_true, false_and, and_false, decide_true, decide_false, Bool.not_true, Bool.not_false, not_true_eq_false, not_false_eq_true, slices_AppendSeq_api_Act_c5_w, slices_AppendSeq_api_Act_c4_w, slices_AppendSeq_api_Act_c3_w, slices_AppendSeq_api_Act_c3_r0_w, slices_AppendSeq_api_Act_c6_w, slices_AppendSeq_api_Act_c6_r0_w, slices_AppendSeq_api_Act_c2_w, slices_AppendSeq_api_Act_c1_w, slices_AppendSeq_api_Act_c1_r0_w, slices_AppendSeq_api_Act_c7_w, slices_AppendSeq_api_Act_c7_r0_w, slices_AppendSeq_api_Act_c9_w, slices_AppendSeq_api_Act_c9_r0_w, slices_AppendSeq_api_Act_c8_w, hst]
    have hf4 : Fr (fun b => W b ∨ b = L) H2 (H4.set H.next (.row [v'] T__7 (0, 0) true)) :=
      ((hf23.mono (W' := fun b => W b ∨ b = L) fun x _ q => .inr q).trans hf34 fun b hb => .inl (.inl ((q3 b).2 (.inr hb)))).set (.inl (.inl ((q3 _).2 (.inl rfl)))) _
    have hv4 : ∀ b, OnS v' b → H.next < b := fun b hb => (hfr' b hb).elim (q4 b) fun q => by omega
    refine ⟨?_, fun b => b = H.next ∨ OnS v' b, ?_, hf4, .inl ⟨v', get_set_same _ _ _, ?_, fun b => Iff.rfl, hv4, ?_⟩⟩
    · rw [get_set_ne hLH.symm, hf34.keep L (by omega) (fun q => hLv L q rfl)]; exact hg3L
    · rintro b (rfl | hb)
      · exact ⟨by rw [set_next]; have := hf34.next; omega, .inl ((q3 _).2 (.inl rfl))⟩
      · refine ⟨Own.lt hv' b hb, (hfr' b hb).elim (fun q => .inl ((q3 b).2 (.inr q))) fun q => .inr (by omega)⟩
    · have : al.take (i + 1) = al.take i ++ [a] := by rw [List.take_add_one, ha]; rfl
      rw [this]
      unfold OwnT
      rw [List.length_append, List.flatMap_append]
      refine Own.fr (H := H4) ?_ ((Fr.refl H4).set (W := On H.next) (.inl rfl) _) fun x hx q => by have := hv4 x hx; have q : x = H.next := q; omega
      simpa [AV.cells] using hv'
    · rw [set_next]; have := hf34.next; omega
  · rintro d W H' h1 h2 h3 h4 h5 ⟨v, q1, q2, q3, q4, q5⟩
    have l12 : Op.load1 [.ptr H.next 0] H' = some v := by rw [load1_of (cellsAt_row q1)]; rfl
    rw [List.length_map, List.take_length] at q2
    simp only [LK_some, BI_some, BI2_some, IG_true, IG_false, GO_true, GW_true, VI_func, VI_yield, RC_none, RC_nil, RC_cons, DF_fn, asBool_bool, WP_skip, WP_ret, WP_exit, WP_goto, SEQ_normal, SEQ_ret, SEQ_exit, SEQ_goto, SEQ_panic, BLK_normal, BLK_ret, BLK_exit', BLK_goto, BLK_panic, st_tm, st_dfs, st_up, st_H, T.get_set, get_setsE, look_cons, lookE_nil, FIN_ret, FIN_normal, FIN_panic, res_nil, res_tmp, res_cell1, res_cellN, tup0, tup1, tup2, keep_none, mkptr, Option.bind_some, w_true, w_false, w_undef, cond_true, cond_false, reduceIte, Nat.reduceEqDiff, dirty_eq, o_move, o_pick, o_add, o_sub, o_mul, o_eql, o_neq, o_lss, o_leq, o_gtr, o_geq, o_wrap, o_not, o_seql, o_sneq, o_lenStr, o_mkFunc, o_mkIface, o_fieldAddr, o_field1, o_alloc, o_box, AFunc.body, AFunc.results, AFunc.loops, ALoop.params, ALoop.assign, ALoop.body, List.take_zero, List.drop_zero, Nat.add_zero, Nat.zero_add, ne_eq, true_and, and_true, false_and, and_false, decide_true, decide_false, Bool.not_true, Bool.not_false, not_true_eq_false, not_false_eq_true, slices_AppendSeq_api_Act_c5_w, slices_AppendSeq_api_Act_c4_w, slices_AppendSeq_api_Act_c3_w, slices_AppendSeq_api_Act_c3_r0_w, slices_AppendSeq_api_Act_c6_w, slices_AppendSeq_api_Act_c6_r0_w, slices_AppendSeq_api_Act_c2_w, slices_AppendSeq_api_Act_c1_w, slices_AppendSeq_api_Act_c1_r0_w, slices_AppendSeq_api_Act_c7_w, slices_AppendSeq_api_Act_c7_r0_w, slices_AppendSeq_api_Act_c9_w, slices_AppendSeq_api_Act_c9_r0_w, slices_AppendSeq_api_Act_c8_w, l12]
    rw [FIN_coll _ _ _ _ _ _ _ _ _ (.inr rfl) h3]
    simp only [LK_some, BI_some, BI2_some, IG_true, IG_false, GO_true, GW_true, VI_func, VI_yield, RC_none, RC_nil, RC_cons, DF_fn, asBool_bool, WP_skip, WP_ret, WP_exit, WP_goto, SEQ_normal, SEQ_ret, SEQ_exit, SEQ_goto, SEQ_panic, BLK_normal, BLK_ret, BLK_exit', BLK_goto, BLK_panic, st_tm, st_dfs, st_up, st_H, T.get_set, get_setsE, look_cons, lookE_nil, FIN_ret, FIN_normal, FIN_panic, res_nil, res_tmp, res_cell1, res_cellN, tup0, tup1, tup2, keep_none, mkptr, Option.bind_some, w_true, w_false, w_undef, cond_true, cond_false, reduceIte, Nat.reduceEqDiff, dirty_eq, o_move, o_pick, o_add, o_sub, o_mul, o_eql, o_neq, o_lss, o_leq, o_gtr, o_geq, o_wrap, o_not, o_seql, o_sneq, o_lenStr, o_mkFunc, o_mkIface, o_fieldAddr, o_field1, o_alloc, o_box, AFunc.body, AFunc.results, AFunc.loops, ALoop.params, ALoop.assign, ALoop.body, List.take_zero, List.drop_zero, Nat.add_zero, Nat.zero_add, ne_eq, true_and, and_true, false_and, and_false, decide_true, decide_false, Bool.not_true, Bool.not_false, not_true_eq_false, not_false_eq_true, slices_AppendSeq_api_Act_c5_w, slices_AppendSeq_api_Act_c4_w, slices_AppendSeq_api_Act_c3_w, slices_AppendSeq_api_Act_c3_r0_w, slices_AppendSeq_api_Act_c6_w, slices_AppendSeq_api_Act_c6_r0_w, slices_AppendSeq_api_Act_c2_w, slices_AppendSeq_api_Act_c1_w, slices_AppendSeq_api_Act_c1_r0_w, slices_AppendSeq_api_Act_c7_w, slices_AppendSeq_api_Act_c7_r0_w, slices_AppendSeq_api_Act_c9_w, slices_AppendSeq_api_Act_c9_r0_w, slices_AppendSeq_api_Act_c8_w]
    refine ⟨v, rfl, Own.fr q2 ((Fr.refl H').set (W := On d) (.inl rfl) _) fun x hx q => (h5 x ((q3 x).2 (.inr hx))).2.2 q, ?_, fun b hb => Nat.le_of_lt (q4 b hb)⟩
    exact ((hf1.trans h4 fun b hb => .inr (by have hb : b = H.next := hb; omega)).set (.inr (by omega)) _)
  · intro e d W H' hj h1 h2 h3 h4 h5 h6; exact h6.elim
end Go.Am
