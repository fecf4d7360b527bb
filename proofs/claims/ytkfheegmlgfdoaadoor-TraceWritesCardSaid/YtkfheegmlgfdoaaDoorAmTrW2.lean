/- TrW2: TwC TwD TwE TwF. -/
import Derived.Test.YtkfheegmlgfdoaaDoorAmTrW1
import Derived.Test.YtkfheegmlgfdoaaDoorAmCodeW
import Derived.Test.YtkfheegmlgfdoaaDoorAmTrW0
namespace Go.Am
set_option linter.unusedVariables false
set_option linter.unusedSimpArgs false
set_option linter.unusedSectionVars false
set_option maxRecDepth 100000
open Tr
open Lang (dec)
variable {M : Mac} [MK M]
abbrev NewW := New encS T_string 1
def Wds (H0 H : AHeap) (v : AV) (ws : List B) : Prop := NewW H0 H v ws ∨ (Fr Em H0 H ∧ 0 < ws.length ∧ ∃ b, v = .slice b 0 ws.length ws.length ∧ H.get b = some (OR (ws.map AV.str) T_string) ∧ H0.next ≤ b ∧ b < H.next)
theorem Wds.fr0 {H0 H : AHeap} {v : AV} {ws : List B} (h : Wds H0 H v ws) : Fr Em H0 H := h.elim (fun h => h.fr) fun h => h.1
theorem Wds.em {H0 H H' : AHeap} {v : AV} {ws : List B} (h : Wds H0 H v ws) (f : Fr Em H H') : Wds H0 H' v ws := by
  rcases h with h | ⟨h, h0, b, rfl, h2, h3, h4⟩
  · exact .inl (h.em f)
  · exact .inr ⟨h.em f, h0, b, rfl, by rw [f.keep b h4 id, h2], h3, Nat.lt_of_lt_of_le h4 f.next⟩
theorem Wds.lo {H0 H : AHeap} {v : AV} {ws : List B} (h : Wds H0 H v ws) : ∀ x, OnS v x → H0.next ≤ x ∧ x < H.next := by
  rcases h with h | ⟨h, h0, b, rfl, h2, h3, h4⟩
  · exact fun x hx => ⟨h.fresh x hx, Own.lt h.own x hx⟩
  · rintro x ⟨_, rfl⟩; exact ⟨h3, h4⟩
theorem Wds.setOff {H0 H : AHeap} {v : AV} {ws : List B} (h : Wds H0 H v ws) {b : Nat} (hb : H0.next ≤ b) (hn : ¬ OnS v b) (o : AObj) : Wds H0 (H.set b o) v ws := by
  rcases h with h | ⟨h, h0, c, rfl, h2, h3, h4⟩
  · exact .inl (h.setOff hb hn o)
  · exact .inr ⟨h.set (.inr hb) _, h0, c, rfl, by rw [get_set_ne (fun q => hn ⟨by simp, by rw [q]; rfl⟩), h2], h3, h4⟩
theorem Wds.sl {H0 H : AHeap} {v : AV} {ws : List B} (h : Wds H0 H v ws) : SlT encS 1 H v ws := by
  rcases h with h | ⟨h, h0, b, rfl, h2, h3, h4⟩
  · exact h.sl
  · unfold SlT
    rw [encS_flat]
    exact ⟨by simp, rfl, Nat.le_refl _, .inr ⟨h4, _, cellsAt_row h2, by rw [takeAt_eq, if_pos (by simp), Nat.mul_one, List.drop_zero, List.take_of_length_le (by simp)]⟩⟩
theorem app_row {H : AHeap} {b : Nat} {ws : List B} {a : B} (hb : H.get b = some (OR (ws.map AV.str) T_string)) (hlt : b < H.next) (h0 : 0 < ws.length) (hs : ws.length < 1000000) :
    Op.append T_string 1 16 [.slice b 0 ws.length ws.length, .slice H.next 0 1 1] (H.alloc (OR [.str a] T_string)) = some (.gslice (H.next + 1) 0 (ws.length + 1) 1 0 (ws.length + 1), (H.alloc (OR [.str a] T_string)).alloc (.grown (ws.length + 1) 1 ((ws ++ [a]).map AV.str) T_string (0, 0))) := by
  have e1 : firstCells (H.alloc (OR [.str a] T_string)) 1 1 (.slice H.next 0 1 1) = some [.str a] := by
    have : Nat.beq 1 0 = false := rfl
    simp only [firstCells, this, cond_false]
    rw [loadN_eq (cellsAt_row (get_alloc_new ..)) (by simp)]; rfl
  have e2 : firstCells (H.alloc (OR [.str a] T_string)) 1 ws.length (.slice b 0 ws.length ws.length) = some (ws.map AV.str) := by
    simp only [firstCells, beq_false (show ws.length ≠ 0 by omega), cond_false]
    rw [loadN_eq (cellsAt_row (by rw [get_alloc_lt hlt]; exact hb)) (by simp), Nat.mul_one, List.drop_zero, List.take_of_length_le (by simp)]
  have e3 : Nat.ble (ws.length + 1) ws.length = false := by
    cases q : Nat.ble (ws.length + 1) ws.length with
    | false => rfl
    | true => have := Nat.le_of_ble_eq_true q; omega
  have e4 : fits (ws.length + 1) 16 = true := fits_of (by omega) (by omega)
  simp only [Op.append, lenV, Option.bind_some, e1, allOne_cons, oneCell_str, allOne_nil, cond_true, appendV, e3, cond_false, e4, ble_true (Nat.le_add_right ws.length 1), blt_true (show 0 < 1 by decide), Bool.and_self, e2, appL_eq, grownV, alloc_next]
  simp
theorem Wds.app {H0 H : AHeap} {v : AV} {ws : List B} (h : Wds H0 H v ws) {a : B} (hs : ws.length < 1000000) {K : AObj → (Nat → AV) → Bool → AV → AHeap → Prop} {m : Bool}
    (hk : ∀ v' H', NewW H0 H' v' (ws ++ [a]) → Aft v H v' H' → K (.row (AV.str a).cells T_string (0, 0) true) (Op.sliceTo 1 1) m v' H') :
    B32 m (Op.buildSlice T_string 1 [.str []] [(0, 1)] [.str a]) fun g o mk => B32 g (Op.append T_string 1 16 [v, mk H.next] (H.alloc o)) (K o mk) := by
  rcases h with h | ⟨hf, h0, b, rfl, h2, h3, h4⟩
  · exact h.app4 (bytes := 16) (a := a) rfl rfl rfl rfl (by decide) (by omega) (by omega) hk
  · have e0 : Op.buildSlice T_string 1 [.str []] [(0, 1)] [.str a] = some (.row [.str a] T_string (0, 0) true, Op.sliceTo 1 1) := rfl
    refine B32.intro e0 (B32.intro (app_row h2 h4 h0 hs) (hk _ _ ⟨⟨?_, .inr ⟨H.next + 1, ?_, ?_, ?_⟩⟩, (hf.alloc _).alloc _, ?_⟩ ⟨(((Fr.refl H).alloc _).alloc _), ?_⟩))
    · rw [encS_flat]; simp
    · rw [List.length_append]; rfl
    · rw [alloc_next, alloc_next]; omega
    · have := get_alloc_new (H.alloc (OR [.str a] T_string)) (.grown (ws.length + 1) 1 ((ws ++ [a]).map AV.str) T_string (0, 0))
      rw [alloc_next] at this
      rw [this, encS_flat, List.length_append]; rfl
    · rintro x ⟨_, rfl⟩; have := hf.next; show H0.next ≤ H.next + 1; omega
    · rintro x ⟨_, rfl⟩; right; show H.next ≤ H.next + 1; omega
theorem Tab.pt {H : AHeap} (h : Tab H) : PowT H ∧ G_strconv_uint64pow10 < H.next := ⟨h.pow, by have := h.lt; show 2 < H.next; omega⟩
theorem Tab.kd {H : AHeap} (h : Tab H) {k : Int} (h1 : 1 ≤ k) (h2 : k ≤ 8) : Op.indexArr 9 1 [.ptr G_trace_kinds 0, .int .i64 k] = some (.ptr G_trace_kinds k.toNat) ∧ Op.load1 [.ptr G_trace_kinds k.toNat] H = some (.str (kword k)) := by
  refine ⟨by rw [o_indexArr (i := k.toNat) (by omega) (by omega), Nat.zero_add, Nat.mul_one], ?_⟩
  rw [load1_of h.kinds, List.getElem?_map, List.getElem?_range (by omega)]
  show some (AV.str (kword (k.toNat : Nat))) = _
  rw [show ((k.toNat : Nat) : Int) = k by omega]
def lineW (x : Evt) : List B := [dec x.time.toNat, dec x.core.toNat, kword x.kind] ++ (named x.kind).map (wordB x)
theorem join_lineW (x : Evt) : joinS [32] (lineW x) = lineB x := by
  show dec x.time.toNat ++ List.flatMap (fun x => [32] ++ x) ([dec x.core.toNat, kword x.kind] ++ (named x.kind).map (wordB x)) = _
  simp [lineB, List.flatMap_map]
theorem words_len9 (l : UInt8) : (wordsOf l).length ≤ 9 := by unfold wordsOf; (repeat' split) <;> decide
theorem word_len {x : Evt} {l : UInt8} (h : numB x l < 18446744073709551616) : (wordB x l).length ≤ 20 := by
  have key : ∀ w ∈ wordsOf l, w.length ≤ 20 := by unfold wordsOf; (repeat' split) <;> decide
  unfold wordB
  split
  · rename_i w hw; exact key w (List.mem_of_getElem? hw)
  · exact Lang.dec_len20 h
theorem kword_len (k : Int) : (kword k).length ≤ 20 := by unfold kword; (repeat' split) <;> decide
theorem line_spec {H : AHeap} {x : Evt} (hx : EvR x) (hfi : fineB x = true) (ht : Tab H) : CALLQ M N_trace_line [.agg x.enc] H fun v H' => v = .str (lineB x) ∧ Fr Em H H' := by
  refine trace_line_s ?_
  obtain ⟨⟨h1, h2, h3, h4, h5⟩, h6⟩ := fine_parts hfi
  have e0 : x.enc[0]? = some (.int .i64 x.kind) := rfl
  have e1 : x.enc[1]? = some (.int .i64 x.time) := rfl
  have e2 : x.enc[2]? = some (.int .i64 x.core) := rfl
  have hf1 : Fr Em H (H.alloc (OR x.enc T_api_Event)) := (Fr.refl H).alloc _
  have ht1 := ht.em hf1
  obtain ⟨k1, k2⟩ := ht1.kd h1 h2
  simp only [↓JN_eq, CTL3, OPS3, cast0, reduceIte, Nat.reduceEqDiff, trace_line_w, load1_new, e0, e1, e2, k1, k2]
  refine C3.q (ItoaI_spec (M := M) ht1.pt.1 ht1.pt.2 h5 hx.time) fun v H2 ⟨hv, hf2⟩ => ?_
  subst hv
  have ht2 := ht1.em hf2
  obtain ⟨_, k3⟩ := ht2.kd h1 h2
  have hg2 : H2.get H.next = some (OR x.enc T_api_Event) := by rw [hf2.keep _ (by rw [alloc_next]; omega) (fun h => h), get_alloc_new]
  have hl2 : H.next < H2.next := by have := hf2.next; rw [alloc_next] at this; omega
  have l2 : ∀ o, Op.load1 [.ptr H.next o] H2 = x.enc[o]? := fun o => load1_of (cellsAt_row hg2) o
  simp only [↓JN_eq, CTL3, OPS3, cast0, reduceIte, Nat.reduceEqDiff, trace_line_w, l2, e0, e1, e2, k3, CK3_same]
  refine C3.q (ItoaI_spec (M := M) ht2.pt.1 ht2.pt.2 h3 hx.core) fun v H3 ⟨hv, hf3⟩ => ?_
  subst hv
  have ht3 := ht2.em hf3
  obtain ⟨_, k4⟩ := ht3.kd h1 h2
  have hg3 : H3.get H.next = some (OR x.enc T_api_Event) := by rw [hf3.keep _ hl2 (fun h => h), hg2]
  have hl3 : H.next < H3.next := Nat.lt_of_lt_of_le hl2 hf3.next
  have l3 : ∀ o, Op.load1 [.ptr H.next o] H3 = x.enc[o]? := fun o => load1_of (cellsAt_row hg3) o
  have b3 : (Op.buildSlice T_string 3 [(.str [])] [(0, 1), (1, 1), (2, 1)]) [.str (dec x.time.toNat), .str (dec x.core.toNat), .str (kword x.kind)] = some (.row ([dec x.time.toNat, dec x.core.toNat, kword x.kind].map AV.str) T_string (0, 0) true, Op.sliceTo 3 3) := rfl
  simp only [↓JN_eq, CTL3, OPS3, cast0, reduceIte, Nat.reduceEqDiff, trace_line_w, l3, e0, k4, CK3_same, b3]
  have hf4 : Fr Em H3 (H3.alloc (OR ([dec x.time.toNat, dec x.core.toNat, kword x.kind].map AV.str) T_string)) := (Fr.refl H3).alloc _
  have ht4 := ht3.em hf4
  have hf04 : Fr Em H (H3.alloc (OR ([dec x.time.toNat, dec x.core.toNat, kword x.kind].map AV.str) T_string)) := ((hf1.em hf2).em hf3).em hf4
  obtain ⟨n1, n2⟩ := ht4.nm h1 h2
  have hg4 : (H3.alloc (OR ([dec x.time.toNat, dec x.core.toNat, kword x.kind].map AV.str) T_string)).get H.next = some (OR x.enc T_api_Event) := by rw [get_alloc_lt hl3, hg3]
  have hw4 : Wds H3 (H3.alloc (OR ([dec x.time.toNat, dec x.core.toNat, kword x.kind].map AV.str) T_string)) (.slice H3.next 0 3 3) [dec x.time.toNat, dec x.core.toNat, kword x.kind] := .inr ⟨hf4, Nat.succ_pos _, H3.next, rfl, get_alloc_new .., Nat.le_refl _, by rw [alloc_next]; omega⟩
  have hn4 : (H3.alloc (OR ([dec x.time.toNat, dec x.core.toNat, kword x.kind].map AV.str) T_string)).next = H3.next + 1 := rfl
  generalize H3.alloc (OR ([dec x.time.toNat, dec x.core.toNat, kword x.kind].map AV.str) T_string) = H4 at *
  have l4 : ∀ o, Op.load1 [.ptr H.next o] H4 = x.enc[o]? := fun o => load1_of (cellsAt_row hg4) o
  simp only [↓JN_eq, CTL3, OPS3, cast0, reduceIte, Nat.reduceEqDiff, trace_line_w, l4, e0, n1, n2, rangeStr_eq]
  obtain ⟨s, hs⟩ : ∃ s, s = named x.kind := ⟨_, rfl⟩
  rw [← hs]
  have hsl : s.length ≤ 4 := by rw [hs]; unfold named; (repeat' split) <;> decide
  have hmay : ∀ l ∈ s, mayN l (getN x l) = true := fun l hl => goSet_may _ _ _ h6 l (hs ▸ hl)
  have hfld : ∀ l ∈ s, 0 ≤ getN x l ∧ getN x l < 18446744073709551616 ∧ isL l ∧ (l = 118 ∨ getN x l < 9223372036854775808) := fun l hl => by
    have hil := (named_128 (hs ▸ hl : l ∈ named x.kind)).1
    obtain ⟨q1, q2, q3⟩ := hx.get hil (hmay l hl)
    exact ⟨q1, q2, hil, q3⟩
  refine LOOP3.intro (fun n E Hc => ∃ p w, E = [(26, .ptr H4.next 0), (3, w), (1, .ptr H.next 0)] ∧ n = s.length - p ∧ p ≤ s.length ∧ Hc.get H.next = some (OR x.enc T_api_Event) ∧ H.next < Hc.next ∧ Hc.get H4.next = some (.strIter s p) ∧ H4.next < Hc.next ∧ ¬ OnS w H4.next ∧ Wds H3 Hc w ([dec x.time.toNat, dec x.core.toNat, kword x.kind] ++ (s.take p).map (wordB x)) ∧ Tab Hc) ?_ ?_
  · have hfi4 : Fr Em H4 (H4.alloc (.strIter s 0)) := (Fr.refl H4).alloc _
    exact ⟨_, _, ⟨0, .slice H3.next 0 3 3, rfl, rfl, by omega, by rw [get_alloc_lt (by omega), hg4], by rw [alloc_next]; omega, get_alloc_new .., by rw [alloc_next]; omega, fun q => by have : H4.next = H3.next := q.2; omega, by simpa using hw4.em hfi4, ht4.em hfi4⟩, by simp only [↓JN_eq, CTL3, OPS3, cast0, reduceIte, Nat.reduceEqDiff]; rfl⟩
  rintro n E Hc ⟨p, w, rfl, rfl, hp, g1, g2, g4, g5, g6, hw, htc⟩
  have hwl : ([dec x.time.toNat, dec x.core.toNat, kword x.kind] ++ (s.take p).map (wordB x)).length < 1000000 := by
    rw [List.length_append, List.length_map, List.length_take]; simp only [List.length_cons, List.length_nil]; omega
  rcases Nat.lt_or_ge p s.length with hlp | hlp
  · obtain ⟨l, hl⟩ : ∃ l, s[p]? = some l := ⟨s[p], by simp [hlp]⟩
    have hlm := List.mem_of_getElem? hl
    obtain ⟨hil, h128⟩ := named_128 (hs ▸ hlm : l ∈ named x.kind)
    obtain ⟨r0, r1, _, r2⟩ := hfld l hlm
    have egU : gU x l = getN x l := by
      unfold gU
      split
      · rename_i h; subst h; rfl
      · rw [wrap_u64 r0 r1]
    have lN : Op.loadN 9 [.ptr H.next 0] (Hc.set H4.next (.strIter s (p + 1))) = some (.agg x.enc) := by
      rw [loadN_of (c := x.enc) (cellsAt_row (by rw [get_set_ne (by omega)]; exact g1)) (by rw [ev9]; omega)]; rfl
    simp only [↓JN_eq, CTL3, OPS3, cast0, reduceIte, Nat.reduceEqDiff, trace_line_w, next_some g4 hl h128, lN, extract_tuple]
    have hw1 := hw.setOff (b := H4.next) (by omega) g6 (.strIter s (p + 1))
    have htc1 : Tab (Hc.set H4.next (.strIter s (p + 1))) := by
      have hlt := ht.lt
      refine ⟨Nat.le_trans htc.lt (by rw [set_next]; omega), ?_, ?_, ?_⟩
      · rw [cellsAt_of (get_set_ne (show H4.next ≠ 0 by omega) _)]; exact htc.named
      · rw [cellsAt_of (get_set_ne (show H4.next ≠ 1 by omega) _)]; exact htc.kinds
      · rw [cellsAt_of (get_set_ne (show H4.next ≠ 2 by omega) _)]; exact htc.pow
    refine C3.q (get_spec (M := M) hil) fun v H5 ⟨hv, hf5⟩ => ?_
    subst hv
    have k1' : H5.get H.next = some (OR x.enc T_api_Event) := by rw [hf5.keep _ g2 (fun h => h), get_set_ne (by omega), g1]
    have k4' : H5.get H4.next = some (.strIter s (p + 1)) := by rw [hf5.keep _ g5 (fun h => h), get_set_same]
    have hn5 := hf5.next
    rw [set_next] at hn5
    have ht5 := htc1.em hf5
    simp only [↓JN_eq, CTL3, OPS3, cast0, reduceIte, Nat.reduceEqDiff, trace_line_w, extract_tuple, egU]
    refine C3.q (FormatUI_spec (M := M) ht5.pt.1 ht5.pt.2 r0 r1) fun v H6 ⟨hv, hf6⟩ => ?_
    subst hv
    have k1'' : H6.get H.next = some (OR x.enc T_api_Event) := by rw [hf6.keep _ (by omega) (fun h => h), k1']
    have k4'' : H6.get H4.next = some (.strIter s (p + 1)) := by rw [hf6.keep _ (by omega) (fun h => h), k4']
    have hw6 := (hw1.em hf5).em hf6
    have hn6 := hf6.next
    have ht6 := ht5.em hf6
    have htk : s.take (p + 1) = s.take p ++ [l] := by rw [List.take_add_one, hl]; rfl
    have fin : ∀ (word : B) (H7 : AHeap) (E' : Env), word = wordB x l → Fr Em H6 H7 → lk E' 3 = some w → lk E' 8 = some (.str word) → lk E' 26 = some (.ptr H4.next 0) → lk E' 1 = some (.ptr H.next 0) → W M ⟨none, N_trace_line⟩ (trace_line_p 34) true (BLK3 1 (LQ3 (fun n E Hc => ∃ p w, E = [(26, .ptr H4.next 0), (3, w), (1, .ptr H.next 0)] ∧ n = s.length - p ∧ p ≤ s.length ∧ Hc.get H.next = some (OR x.enc T_api_Event) ∧ H.next < Hc.next ∧ Hc.get H4.next = some (.strIter s p) ∧ H4.next < Hc.next ∧ ¬ OnS w H4.next ∧ Wds H3 Hc w ([dec x.time.toNat, dec x.core.toNat, kword x.kind] ++ (s.take p).map (wordB x)) ∧ Tab Hc) [] (s.length - p) (BLK3 0 (SEQ3 (W M ⟨none, N_trace_line⟩ (trace_line_p 35)) (FIN3 M [.tmp 2] (RT3 fun v H' => v = .str (lineB x) ∧ Fr Em H H')))))) E' [] H7 := by
      intro word H7 E' hword hf7 q3 q8 q26 q1
      have hw7 := hw6.em hf7
      have hn7 := hf7.next
      simp only [↓JN_eq, CTL3, OPS3, cast0, reduceIte, Nat.reduceEqDiff, trace_line_w, q3, q8]
      refine hw7.app hwl fun v8 H8 hv8 hf8 => ?_
      obtain ⟨m1, m2, m3⟩ := hf8.get (b := H.next) (by omega) (fun q => by have := (hw7.lo _ q).1; omega)
      obtain ⟨m4, m5, m6⟩ := hf8.get (b := H4.next) (by omega) g6
      simp only [↓JN_eq, CTL3, OPS3, cast0, reduceIte, Nat.reduceEqDiff, trace_line_w]
      refine ⟨_, _, ⟨p + 1, v8, rfl, rfl, by omega, by rw [m1, hf7.keep _ (by omega) (fun h => h), k1''], m2, by rw [m4, hf7.keep _ (by omega) (fun h => h), k4''], m5, m6, ?_, ht3.em hv8.fr⟩, by simp only [↓JN_eq, CTL3, OPS3, cast0, reduceIte, Nat.reduceEqDiff, q26, q1], by omega⟩
      rw [htk, List.map_append]
      rw [hword] at hv8
      exact .inl (by simpa using hv8)
    obtain ⟨-, -, -, -, -, -, w22, -, w28⟩ := trace_line_w M ⟨none, N_trace_line⟩
    by_cases h118 : l = 118
    · have e9 : Op.bin .neq [.int .i32 (l.toNat : Int), .int .i32 118] = some (.bool false) := by subst h118; rfl
      simp only [↓JN_eq, CTL3, OPS3, cast0, reduceIte, Nat.reduceEqDiff, w22, e9]
      exact fin _ _ _ (by subst h118; rfl) (Fr.refl _) rfl rfl rfl rfl
    · have e9 : Op.bin .neq [.int .i32 (l.toNat : Int), .int .i32 118] = some (.bool true) := by
        rcases hil with rfl | rfl | rfl | rfl | rfl | rfl <;> first | rfl | exact absurd rfl h118
      simp only [↓JN_eq, CTL3, OPS3, cast0, reduceIte, Nat.reduceEqDiff, w22, e9]
      refine C3.q (field_spec (M := M) hil h118) fun v H7 ⟨w2, hv, hf7, hw2, hap⟩ => ?_
      subst hv
      by_cases hz : (wordsOf l).length = 0
      · have e10 : ¬ (0 : Int) < (((wordsOf l).length : Nat) : Int) := by omega
        simp only [↓JN_eq, CTL3, OPS3, cast0, reduceIte, Nat.reduceEqDiff, w28, extract_tuple, hw2.len, e10]
        refine fin _ _ _ ?_ hf7 rfl rfl rfl rfl
        unfold wordB; rw [List.getElem?_eq_none (by omega)]; rfl
      · have e10 : (0 : Int) < (((wordsOf l).length : Nat) : Int) := by omega
        have hm := hmay l hlm
        have hm2 : 1 ≤ getN x l ∧ getN x l < (wordsOf l).length := by
          unfold mayN at hm
          rw [if_neg h118] at hm
          have := (of_decide_eq_true hm).2
          omega
        obtain ⟨word, hwd⟩ : ∃ word, (wordsOf l)[numB x l]? = some word := ⟨(wordsOf l)[numB x l]'(by unfold numB; omega), by rw [List.getElem?_eq_getElem]⟩
        simp only [↓JN_eq, CTL3, OPS3, cast0, reduceIte, Nat.reduceEqDiff, w28, extract_tuple, hw2.len, e10, hw2.idx hwd (z := getN x l) (by unfold numB; omega), hw2.load0 encS_len hwd (by omega), encS]
        exact fin word _ _ (by unfold wordB; rw [hwd]) hf7 rfl rfl rfl rfl
  · have hp : p = s.length := by omega
    subst hp
    rw [List.take_length] at hw hwl
    simp only [↓JN_eq, CTL3, OPS3, cast0, reduceIte, Nat.reduceEqDiff, trace_line_w, next_none g4 (Nat.le_refl _), extract_tuple]
    have hlen7 : (lineW x).length ≤ 7 := by unfold lineW; rw [List.length_append, List.length_map, ← hs]; simp only [List.length_cons, List.length_nil]; omega
    have hlw : [dec x.time.toNat, dec x.core.toNat, kword x.kind] ++ s.map (wordB x) = lineW x := by rw [hs]; rfl
    rw [hlw] at hw
    have hjn := join_lineW x
    have hne : joinS [32] (lineW x) ≠ [] := by rw [hjn]; unfold lineB; simp [Lang.dec_ne]
    refine C3.q (Join_spec (M := M) hw.sl (by omega) (by simp) ?_ fun _ => hne) fun r H5 ⟨hr, hf5⟩ => ?_
    · refine Nat.le_trans (flat_le (k := 20) fun y hy => ?_) (show (lineW x).length * 20 ≤ 100000000000 by omega)
      rw [← hlw] at hy
      rcases List.mem_append.1 hy with hy | hy
      · have ht20 := Lang.dec_len20 (n := x.time.toNat) (by have := hx.time; omega)
        have hc20 := Lang.dec_len20 (n := x.core.toNat) (by omega)
        simp only [List.mem_cons, List.mem_nil_iff, or_false] at hy
        rcases hy with rfl | rfl | rfl
        · exact ht20
        · exact hc20
        · exact kword_len _
      · obtain ⟨l, hl, rfl⟩ := List.mem_map.1 hy
        obtain ⟨_, q2, _⟩ := hfld l (hs ▸ hl)
        exact word_len (by unfold numB; omega)
    subst hr
    rw [hjn]
    simp only [↓JN_eq, CTL3, OPS3, cast0, reduceIte, Nat.reduceEqDiff, trace_line_w]
    exact ((((hf1.em hf2).em hf3).em hw.fr0).em hf5)
end Go.Am
namespace Go.Am
set_option linter.unusedVariables false
set_option linter.unusedSimpArgs false
set_option linter.unusedSectionVars false
set_option maxRecDepth 100000
open Tr
open Lang (dec)
variable {M : Mac} [MK M]
theorem line_len {x : Evt} (hx : EvR x) (hfi : fineB x = true) : (lineB x).length ≤ 200 := by
  obtain ⟨⟨h1, h2, h3, h4, h5⟩, h6⟩ := fine_parts hfi
  have hsl : (named x.kind).length ≤ 4 := by unfold named; (repeat' split) <;> decide
  have ht20 := Lang.dec_len20 (n := x.time.toNat) (by have := hx.time; omega)
  have hc20 := Lang.dec_len20 (n := x.core.toNat) (by omega)
  have hk := kword_len x.kind
  have hw := flat_le (l := named x.kind) (f := fun l => 32 :: wordB x l) (k := 21) fun l hl => by
    obtain ⟨q1, q2, q3⟩ := hx.get (named_128 hl).1 (goSet_may _ _ _ h6 l hl)
    have := word_len (x := x) (l := l) (by unfold numB; omega)
    rw [List.length_cons]; omega
  unfold lineB
  simp only [List.length_append, List.length_singleton]
  omega
theorem cat_str {a b : B} (h : a.length + b.length ≤ 140737488355328) : Op.bin .add [.str a, .str b] = some (.str (a ++ b)) := o_cat a b h
theorem Text1_spec {H0 H : AHeap} {a : AV} {ws : List B} {x : Evt} (ht : Tab H0) (hx : EvR x) (hfi : fineB x = true) (ha : NewW H0 H a ws) (hl : ws.length < 900000) :
    CALLQ M N_trace_Text_1 [a, .agg x.enc] H fun v H' => NewW H0 H' v (ws ++ [lineB x ++ [10]]) := by
  refine trace_Text_1_s ?_
  have hf1 : Fr Em H (H.alloc (OR x.enc T_api_Event)) := (Fr.refl H).alloc _
  simp only [↓JN_eq, CTL3, OPS3, cast0, reduceIte, Nat.reduceEqDiff, trace_Text_1_w, loadN_new H x.enc _ _ _ 9 rfl]
  refine C3.q (line_spec (M := M) hx hfi (ht.em (ha.fr.em hf1))) fun v H2 ⟨hv, hf2⟩ => ?_
  subst hv
  have hll := line_len hx hfi
  simp only [↓JN_eq, CTL3, OPS3, cast0, reduceIte, Nat.reduceEqDiff, trace_Text_1_w, cat_str (a := lineB x) (b := [10]) (by simp only [List.length_singleton]; omega)]
  refine (ha.em (hf1.em hf2)).app4 (bytes := 16) (a := lineB x ++ [10]) rfl rfl rfl rfl (by omega) (by omega) (by omega) fun v' H3 hv' hf3 => ?_
  simp only [↓JN_eq, CTL3, OPS3, cast0, reduceIte, Nat.reduceEqDiff, trace_Text_1_w]
  exact hv'
def TxtW (h : List Evt) : List B := h.map fun x => lineB x ++ [10]
def AllSQ (h : List Evt) (H : AHeap) (v : AV) (H' : AHeap) : Prop := Fr Em H H' ∧ ((h.all fineB = true ∧ ∃ w, v = .tuple [w, .int .i64 0] ∧ NewW H H' w (TxtW h)) ∨ (h.all fineB = false ∧ v = .tuple [.nils, .int .i64 2]))
theorem allS_spec {H : AHeap} {a : AV} {h : List Evt} (ha : SlT Evt.enc 9 H a h) (ht : Tab H) (hx : ∀ x ∈ h, EvR x) (hl : h.length ≤ 5000) :
    CALLQ M N_trace_all_string [a, .fn (.func N_trace_Text_1) [] []] H (AllSQ h H) := by
  refine trace_all_string_s ?_
  simp only [↓JN_eq, CTL3, OPS3, cast0, reduceIte, Nat.reduceEqDiff, trace_all_string_w, ha.len]
  refine LOOP3.intro (fun n E Hc => ∃ i w, E = [(9, a), (10, .int .i64 h.length), (11, .int .i64 (i : Nat)), (6, w), (1, .fn (.func N_trace_Text_1) [] [])] ∧ n = h.length - i ∧ i ≤ h.length ∧ (h.take i).all fineB = true ∧ NewW H Hc w (TxtW (h.take i))) ?_ ?_
  · exact ⟨_, _, ⟨0, .nils, rfl, rfl, by omega, by simp, New.nil H⟩, by simp only [↓JN_eq, CTL3, OPS3, cast0, reduceIte, Nat.reduceEqDiff]⟩
  rintro n E Hc ⟨i, w, rfl, rfl, hi, hfi, hw⟩
  simp only [↓JN_eq, CTL3, OPS3, cast0, reduceIte, Nat.reduceEqDiff, trace_all_string_w]
  refine IF3.dec (fun hlt => ?_) (fun hge => ?_)
  · have hlt : i < h.length := by omega
    obtain ⟨x, hxi⟩ : ∃ x, h[i]? = some x := ⟨h[i], by simp [hlt]⟩
    have hxm := List.mem_of_getElem? hxi
    have ha1 := ha.em hw.fr
    have htk : h.take (i + 1) = h.take i ++ [x] := by rw [List.take_add_one, hxi]; rfl
    have ew : wrapI .i64 ((i : Nat) + 1 : Int) = ((i + 1 : Nat) : Int) := wrap_i64 (by omega) (by omega)
    have hbl : (TxtW (h.take i)).length ≤ 5000 := by unfold TxtW; rw [List.length_map, List.length_take]; omega
    simp (maxSteps := 4000000) (disch := first | (simp only [m_next_alloc, m_next_set]; done) | (simp only [m_next_alloc, m_next_set]; omega) | omega) only [↓JN_eq, CTL3, OPS3, MEM3, List.length_cons, List.length_nil, List.take_zero, List.take_succ_cons, List.drop_zero, List.drop_succ_cons, List.take_nil, List.drop_nil, Nat.reduceAdd, Nat.reduceSub, Nat.reduceLeDiff, Int.reduceLT, Int.reduceLE, Int.reduceEq, cast0, reduceIte, Nat.reduceEqDiff, trace_all_string_w, ha1.idx hxi rfl, ha1.loadN Evt.len (show 0 < 9 by omega) hxi, ev9, evt9, alloc_set, Evt.one', List.append_nil]
    have hf1 : Fr Em Hc (Hc.alloc (OR x.enc T_api_Event)) := (Fr.refl Hc).alloc _
    refine C3.q (fine_spec (M := M) (hx x hxm) (ht.em (hw.fr.em hf1))) fun v H2 ⟨hv, hf2⟩ => ?_
    subst hv
    have hg : H2.get Hc.next = some (OR x.enc T_api_Event) := by rw [hf2.keep _ (by rw [alloc_next]; omega) (fun h => h), get_alloc_new]
    have hw2 := hw.em (hf1.em hf2)
    cases hq : fineB x with
    | false =>
      simp (maxSteps := 4000000) (disch := first | (simp only [m_next_alloc, m_next_set]; done) | (simp only [m_next_alloc, m_next_set]; omega) | omega) only [↓JN_eq, CTL3, OPS3, MEM3, List.length_cons, List.length_nil, List.take_zero, List.take_succ_cons, List.drop_zero, List.drop_succ_cons, List.take_nil, List.drop_nil, Nat.reduceAdd, Nat.reduceSub, Nat.reduceLeDiff, Int.reduceLT, Int.reduceLE, Int.reduceEq, cast0, reduceIte, Nat.reduceEqDiff, trace_all_string_w, hq]
      exact ⟨hw2.fr, .inr ⟨by
        rw [Bool.eq_false_iff]; intro hall
        have := List.all_eq_true.1 hall x hxm
        rw [hq] at this; exact absurd this (by decide), rfl⟩⟩
    | true =>
      simp (maxSteps := 4000000) (disch := first | (simp only [m_next_alloc, m_next_set]; done) | (simp only [m_next_alloc, m_next_set]; omega) | omega) only [↓JN_eq, CTL3, OPS3, MEM3, List.length_cons, List.length_nil, List.take_zero, List.take_succ_cons, List.drop_zero, List.drop_succ_cons, List.take_nil, List.drop_nil, Nat.reduceAdd, Nat.reduceSub, Nat.reduceLeDiff, Int.reduceLT, Int.reduceLE, Int.reduceEq, cast0, reduceIte, Nat.reduceEqDiff, trace_all_string_w, hq, hg, ev9, evt9, List.nil_append, List.append_nil]
      refine C3.q (Text1_spec (M := M) ht (hx x hxm) hq hw2 (by omega)) fun v3 H3 hv3 => ?_
      simp only [↓JN_eq, CTL3, OPS3, cast0, reduceIte, Nat.reduceEqDiff, trace_all_string_w, ew]
      exact ⟨_, _, ⟨i + 1, v3, rfl, rfl, by omega, by rw [htk, List.all_append, hfi]; simp [hq], by unfold TxtW at hv3 ⊢; rw [htk, List.map_append]; simpa using hv3⟩, by simp only [↓JN_eq, CTL3, OPS3, cast0, reduceIte, Nat.reduceEqDiff], by omega⟩
  · simp only [↓JN_eq, CTL3, OPS3, cast0, reduceIte, Nat.reduceEqDiff, trace_all_string_w]
    rw [List.take_of_length_le (by omega)] at hfi hw
    exact ⟨hw.fr, .inl ⟨hfi, w, rfl, hw⟩⟩
theorem join_Txt (h : List Evt) : joinS [] (TxtW h) = textB h := by
  unfold TxtW textB
  cases h with
  | nil => rfl
  | cons x h => simp [joinS, List.flatMap_map]
def TextQ (h : List Evt) (H : AHeap) (v : AV) (H' : AHeap) : Prop := Fr Em H H' ∧ ((h.all fineB = true ∧ v = .tuple [.str (textB h), .int .i64 0]) ∨ (h.all fineB = false ∧ v = .tuple [.str [], .int .i64 2]))
theorem Text_spec {H : AHeap} {a : AV} {h : List Evt} (ha : SlT Evt.enc 9 H a h) (ht : Tab H) (hx : ∀ x ∈ h, EvR x) (hl : h.length ≤ 5000) :
    CALLQ M N_trace_Text [a] H (TextQ h H) := by
  refine trace_Text_s ?_
  simp only [↓JN_eq, CTL3, OPS3, cast0, reduceIte, Nat.reduceEqDiff, trace_Text_w]
  refine C3.q (allS_spec (M := M) ha ht hx hl) fun v H' ⟨hf, hq⟩ => ?_
  rcases hq with ⟨h1, w, rfl, h3⟩ | ⟨h1, rfl⟩
  · simp only [↓JN_eq, CTL3, OPS3, cast0, reduceIte, Nat.reduceEqDiff, trace_Text_w, extract_tuple]
    have hjn := join_Txt h
    have hfl : totL (TxtW h) ≤ 5000 * 201 := by
      unfold totL TxtW
      rw [List.flatMap_map]
      refine Nat.le_trans (flat_le (k := 201) fun x hxm => ?_) (Nat.mul_le_mul_right _ hl)
      have := line_len (hx x hxm) (List.all_eq_true.1 h1 x hxm)
      rw [List.length_append, List.length_singleton]; omega
    refine C3.q (Join_spec (M := M) h3.sl (by unfold TxtW; rw [List.length_map]; omega) (by simp) (by omega) fun h2 => ?_) fun r H5 ⟨hr, hf5⟩ => ?_
    · rw [hjn]
      cases h with
      | nil => simp [TxtW] at h2
      | cons x h => simp [textB]
    subst hr
    rw [hjn]
    simp only [↓JN_eq, CTL3, OPS3, cast0, reduceIte, Nat.reduceEqDiff, trace_Text_w]
    exact ⟨hf.em hf5, .inl ⟨h1, rfl⟩⟩
  · simp only [↓JN_eq, CTL3, OPS3, cast0, reduceIte, Nat.reduceEqDiff, trace_Text_w, extract_tuple]
    have hsl : SlT encS 1 H' .nils [] := ⟨rfl, rfl⟩
    refine C3.q (Join_spec (M := M) (sep := []) hsl (by simp) (by simp) (by simp [totL]) (by simp)) fun r H5 ⟨hr, hf5⟩ => ?_
    subst hr
    simp only [↓JN_eq, CTL3, OPS3, cast0, reduceIte, Nat.reduceEqDiff, trace_Text_w, joinS]
    exact ⟨hf.em hf5, .inr ⟨h1, rfl⟩⟩
end Go.Am
namespace Go.Am
set_option linter.unusedVariables false
set_option linter.unusedSimpArgs false
set_option linter.unusedSectionVars false
set_option maxRecDepth 100000
variable {M : Mac} [MK M]
theorem Evt.one (x : Evt) : allOne x.enc = true := rfl
abbrev NewE := New Evt.enc T_api_Event 9
theorem sift_spec {H : AHeap} {a : AV} {xs : List Evt} (ha : SlT Evt.enc 9 H a xs) (hl : xs.length < 1000000) {g : Nat} {cap : List AV} {p : Evt → Bool}
    (hp : ∀ x Hc, Fr Em H Hc → CALLQ M g (.agg x.enc :: cap) Hc fun v H' => v = .bool (p x) ∧ Fr Em Hc H') :
    CALLQ M N_trace_sift_api_Event [a, .fn (.func g) [] cap] H fun v H' => NewE H H' v (xs.filter p) := by
  refine trace_sift_api_Event_s ?_
  simp only [↓JN_eq, CTL3, OPS3, cast0, reduceIte, Nat.reduceEqDiff, trace_sift_api_Event_w, ha.len]
  refine LOOP3.intro (fun n E H' => ∃ i v, E = [(1, .fn (.func g) [] cap), (8, a), (9, .int .i64 xs.length), (5, v), (10, .int .i64 (i : Nat))] ∧ n = xs.length - i ∧ i ≤ xs.length ∧ NewE H H' v ((xs.take i).filter p)) ?_ ?_
  · exact ⟨_, _, ⟨0, .nils, rfl, rfl, by omega, New.nil H⟩, by simp only [↓JN_eq, CTL3, OPS3, cast0, reduceIte, Nat.reduceEqDiff]⟩
  rintro n E H' ⟨i, v, rfl, rfl, hi, hv⟩
  have ha' := ha.em hv.fr
  simp only [↓JN_eq, CTL3, OPS3, cast0, reduceIte, Nat.reduceEqDiff, trace_sift_api_Event_w]
  refine IF3.dec (fun hlt => ?_) (fun hge => ?_)
  · have hlt : i < xs.length := by omega
    obtain ⟨x, hx⟩ : ∃ x, xs[i]? = some x := ⟨xs[i], by simp [hlt]⟩
    have hL : ((xs.take i).filter p).length ≤ i := Nat.le_trans (List.length_filter_le _ _) (by rw [List.length_take]; omega)
    have htk : xs.take (i + 1) = xs.take i ++ [x] := by rw [List.take_add_one, hx]; rfl
    have ew : wrapI .i64 ((i : Nat) + 1 : Int) = ((i + 1 : Nat) : Int) := wrap_i64 (by omega) (by omega)
    simp only [↓JN_eq, CTL3, OPS3, cast0, reduceIte, Nat.reduceEqDiff, trace_sift_api_Event_w, ha'.idx hx rfl, ha'.loadN Evt.len (show 0 < 9 by omega) hx, store_new H' [.int .i64 0, .int .i64 0, .int .i64 0, .int .i64 0, .int .i64 0, .int .i64 0, .int .i64 0, .int .u64 0, .int .i64 0] T_api_Event 9 (.agg x.enc) rfl rfl rfl, loadN_new H' x.enc _ _ _ 9 rfl]
    have hf1 : Fr Em H' (H'.alloc (.row x.enc T_api_Event (0, 0) true)) := (Fr.refl H').alloc _
    refine (hp x _ (hv.fr.em hf1)).elim.elim fun w h => ?_
    obtain ⟨H2, hc, rfl, hf2⟩ := h
    refine C3.ret hc ?_
    have hg : H2.get H'.next = some (.row x.enc T_api_Event (0, 0) true) := by rw [hf2.keep _ (by rw [alloc_next]; omega) (fun h => h), get_alloc_new]
    have hv2 := hv.em (hf1.em hf2)
    cases hpx : p x with
    | true =>
      simp only [↓JN_eq, CTL3, OPS3, cast0, reduceIte, Nat.reduceEqDiff, trace_sift_api_Event_w, loadN_of (cellsAt_row hg) (o := 0) (n := 9) (Nat.le_refl 9)]
      refine hv2.app3 (bytes := 72) (a := x) rfl rfl rfl rfl (by omega) (by omega) (by omega) fun v' H3 hv' hf _ => ?_
      simp only [↓JN_eq, CTL3, OPS3, cast0, reduceIte, Nat.reduceEqDiff, trace_sift_api_Event_w, ew]
      exact ⟨_, _, ⟨i + 1, _, rfl, rfl, by omega, by rw [htk, List.filter_append]; simpa [hpx] using hv'⟩, by simp only [↓JN_eq, CTL3, OPS3, cast0, reduceIte, Nat.reduceEqDiff], by omega⟩
    | false =>
      simp only [↓JN_eq, CTL3, OPS3, cast0, reduceIte, Nat.reduceEqDiff, trace_sift_api_Event_w, ew]
      exact ⟨_, _, ⟨i + 1, _, rfl, rfl, by omega, by rw [htk, List.filter_append]; simpa [hpx] using hv2⟩, by simp only [↓JN_eq, CTL3, OPS3, cast0, reduceIte, Nat.reduceEqDiff], by omega⟩
  · simp only [↓JN_eq, CTL3, OPS3, cast0, reduceIte, Nat.reduceEqDiff, trace_sift_api_Event_w]
    rwa [List.take_of_length_le (by omega)] at hv
theorem Of_spec {H : AHeap} {a : AV} {xs : List Evt} (c : Int) (ha : SlT Evt.enc 9 H a xs) (hl : xs.length < 1000000) :
    CALLQ M N_trace_Of [a, .int .i64 c] H fun v H' => NewE H H' v (xs.filter fun x => decide (x.core = c)) := by
  refine trace_Of_s ?_
  have hf1 : Fr Em H (H.alloc (.row [.int .i64 c] T_int (0, 0) true)) := (Fr.refl H).alloc _
  simp only [↓JN_eq, CTL3, OPS3, cast0, reduceIte, Nat.reduceEqDiff, trace_Of_w, List.take_zero, List.drop_zero]
  refine C3.q (sift_spec (M := M) (ha.em hf1) hl (p := fun x => decide (x.core = c)) fun x Hc hf => ?_) fun v H' hn => ?_
  · have hl := Nat.lt_of_lt_of_le (show H.next < (H.alloc (.row [.int .i64 c] T_int (0, 0) true)).next by rw [alloc_next]; omega) hf.next
    have hb : Hc.get H.next = some (.row [.int .i64 c] T_int (0, 0) true) := by rw [hf.keep _ (by rw [alloc_next]; omega) (fun h => h), get_alloc_new]
    refine trace_Of_1_s (M := M) ?_
    have h2 : Op.load1 [.ptr H.next 0] (Hc.alloc (.row x.enc T_api_Event (0, 0) true)) = some (.int .i64 c) := by rw [load1_of (cellsAt_row (by rw [get_alloc_lt hl]; exact hb))]; rfl
    simp only [↓JN_eq, CTL3, OPS3, cast0, reduceIte, Nat.reduceEqDiff, Evt.enc] at h2
    simp only [↓JN_eq, CTL3, OPS3, cast0, reduceIte, Nat.reduceEqDiff, trace_Of_1_w, load1_new, h2, Evt.enc]
    exact (Fr.refl Hc).alloc _
  · simp only [↓JN_eq, CTL3, OPS3, cast0, reduceIte, Nat.reduceEqDiff, trace_Of_w]
    exact ⟨hn.own, hf1.em hn.fr, fun b hb => Nat.le_trans hf1.next (hn.fresh b hb)⟩
theorem Between_spec {H : AHeap} {a : AV} {xs : List Evt} (f t : Int) (ha : SlT Evt.enc 9 H a xs) (hl : xs.length < 1000000) :
    CALLQ M N_trace_Between [a, .int .i64 f, .int .i64 t] H fun v H' => NewE H H' v (xs.filter fun x => decide (f ≤ x.time ∧ x.time < t)) := by
  refine trace_Between_s ?_
  have hf1 : Fr Em H (H.alloc (.row [.int .i64 f] T_int (0, 0) true)) := (Fr.refl H).alloc _
  have hf2 : Fr Em H ((H.alloc (.row [.int .i64 f] T_int (0, 0) true)).alloc (.row [.int .i64 t] T_int (0, 0) true)) := hf1.alloc _
  simp only [↓JN_eq, CTL3, OPS3, cast0, reduceIte, Nat.reduceEqDiff, trace_Between_w, List.take_zero, List.drop_zero, alloc_next]
  refine C3.q (sift_spec (M := M) (ha.em hf2) hl (p := fun x => decide (f ≤ x.time ∧ x.time < t)) fun x Hc hf => ?_) fun v H' hn => ?_
  · have hl := Nat.lt_of_lt_of_le (show H.next + 1 < ((H.alloc (.row [.int .i64 f] T_int (0, 0) true)).alloc (.row [.int .i64 t] T_int (0, 0) true)).next by simp only [alloc_next]; omega) hf.next
    have hb : Hc.get H.next = some (.row [.int .i64 f] T_int (0, 0) true) := by rw [hf.keep _ (by simp only [alloc_next]; omega) (fun h => h), get_alloc_lt (by rw [alloc_next]; omega), get_alloc_new]
    have hb' : Hc.get (H.next + 1) = some (.row [.int .i64 t] T_int (0, 0) true) := by rw [hf.keep _ (by simp only [alloc_next]; omega) (fun h => h)]; exact get_alloc_new _ _
    refine trace_Between_1_s (M := M) ?_
    have h2 : Op.load1 [.ptr H.next 0] (Hc.alloc (.row x.enc T_api_Event (0, 0) true)) = some (.int .i64 f) := by rw [load1_of (cellsAt_row (by rw [get_alloc_lt (by omega)]; exact hb))]; rfl
    have h3 : Op.load1 [.ptr (H.next + 1) 0] (Hc.alloc (.row x.enc T_api_Event (0, 0) true)) = some (.int .i64 t) := by rw [load1_of (cellsAt_row (by rw [get_alloc_lt (by omega)]; exact hb'))]; rfl
    simp only [↓JN_eq, CTL3, OPS3, cast0, reduceIte, Nat.reduceEqDiff, trace_Between_1_w, Evt.enc] at h2 h3
    by_cases hc : f ≤ x.time <;> by_cases hd : x.time < t <;> simp only [↓JN_eq, CTL3, OPS3, cast0, reduceIte, Nat.reduceEqDiff, trace_Between_1_w, load1_new, h2, h3, Evt.enc, hc, hd] <;> exact (Fr.refl Hc).alloc _
  · simp only [↓JN_eq, CTL3, OPS3, cast0, reduceIte, Nat.reduceEqDiff, trace_Between_w]
    exact ⟨hn.own, hf2.em hn.fr, fun b hb => Nat.le_trans hf2.next (hn.fresh b hb)⟩
theorem Same_spec {H : AHeap} {a b : AV} {xs ys : List Evt} (ha : SlT Evt.enc 9 H a xs) (hb : SlT Evt.enc 9 H b ys) (hl : xs.length < 1000000) :
    CALLQ M N_ref23_Same [a, b] H fun v H' => v = .bool (decide (xs = ys)) ∧ H' = H := by
  refine ref23_Same_s ?_
  by_cases hne : xs.length = ys.length
  · have e0 : ¬ ((xs.length : Nat) : Int) ≠ (ys.length : Nat) := by omega
    simp only [↓JN_eq, CTL3, OPS3, cast0, reduceIte, Nat.reduceEqDiff, ref23_Same_w, ha.len, hb.len, hne]
    refine LOOP3.intro (fun n E H' => ∃ i, H' = H ∧ E = [(0, a), (1, b), (5, .int .i64 (i : Nat))] ∧ n = xs.length - i ∧ i ≤ xs.length ∧ ∀ j, j < i → xs[j]? = ys[j]?) ?_ ?_
    · exact ⟨_, _, ⟨0, rfl, rfl, rfl, by omega, fun j hj => by omega⟩, by simp only [↓JN_eq, CTL3, OPS3, cast0, reduceIte, Nat.reduceEqDiff]⟩
    rintro n E H' ⟨i, rfl, rfl, rfl, hi, hj⟩
    simp only [↓JN_eq, CTL3, OPS3, cast0, reduceIte, Nat.reduceEqDiff, ref23_Same_w, ha.len]
    refine IF3.dec (fun hlt => ?_) (fun hge => ?_)
    · have hlt : i < xs.length := by omega
      obtain ⟨x, hx⟩ : ∃ x, xs[i]? = some x := ⟨xs[i], by simp [hlt]⟩
      obtain ⟨y, hy⟩ : ∃ y, ys[i]? = some y := ⟨ys[i]'(by omega), by simp [show i < ys.length by omega]⟩
      have ew : wrapI .i64 ((i : Nat) + 1 : Int) = ((i + 1 : Nat) : Int) := wrap_i64 (by omega) (by omega)
      by_cases hxy : x = y
      · simp only [↓JN_eq, CTL3, OPS3, cast0, reduceIte, Nat.reduceEqDiff, ref23_Same_w, ha.idx hx rfl, hb.idx hy rfl, ha.loadN Evt.len (by omega) hx, hb.loadN Evt.len (by omega) hy, ev_ne, hxy, ew]
        refine ⟨_, _, ⟨i + 1, rfl, rfl, by omega, fun j hj' => ?_⟩, by simp only [↓JN_eq, CTL3, OPS3, cast0, reduceIte, Nat.reduceEqDiff], by omega⟩
        rcases Nat.lt_succ_iff_lt_or_eq.1 hj' with q | rfl
        · exact hj j q
        · rw [hx, hy, hxy]
      · simp only [↓JN_eq, CTL3, OPS3, cast0, reduceIte, Nat.reduceEqDiff, ref23_Same_w, ha.idx hx rfl, hb.idx hy rfl, ha.loadN Evt.len (by omega) hx, hb.loadN Evt.len (by omega) hy, ev_ne, hxy]
        have : xs ≠ ys := fun h => by subst h; rw [hx] at hy; injection hy with hy; exact hxy hy
        simp [this]
    · simp only [↓JN_eq, CTL3, OPS3, cast0, reduceIte, Nat.reduceEqDiff, ref23_Same_w]
      have : xs = ys := List.ext_getElem? fun j => by
        by_cases q : j < i
        · exact hj j q
        · rw [List.getElem?_eq_none (by omega), List.getElem?_eq_none (by omega)]
      simp [this]
  · have e0 : ((xs.length : Nat) : Int) ≠ (ys.length : Nat) := by omega
    simp only [↓JN_eq, CTL3, OPS3, cast0, reduceIte, Nat.reduceEqDiff, ref23_Same_w, ha.len, hb.len, e0]
    have : xs ≠ ys := fun h => hne (by rw [h])
    simp [this]
theorem str_of_new {H0 H : AHeap} {v : AV} {xs : List UInt8} (h : NewB H0 H v xs) : Op.strOfBytes [v] H = some (.str xs) := by
  have hs := h.sl
  have e : Op.strOfBytes [v] H = (lenV v).bind fun n => (firstCells H 1 n v).bind fun l => (bytesOf l).bind fun s => some (.str s) := by
    cases v <;> first | rfl | exact hs.2.elim
  rw [e, Sl.lenV hs, Option.bind_some, Sl.first hs, Option.bind_some, encB_flat, bytesOf_map]; rfl
theorem app_s3 {H0 H : AHeap} {v x : AV} {xs ys : List Evt} (h : NewE H0 H v xs) (hx : SlT Evt.enc 9 H x ys) (hl : xs.length + ys.length < 1000000) {K : Bool → AV → AHeap → Prop} {m : Bool}
    (hk : ∀ v' H', NewE H0 H' v' (xs ++ ys) → Aft v H v' H' → K m v' H') : B32 m (Op.append T_api_Event 9 72 [v, x] H) K :=
  BI2.to3 (m := m) (h.appS (bytes := 72) hx Evt.one (by decide) (by omega) (by omega) fun v' H' h1 h2 h3 => hk v' H' h1 ⟨h2, h3⟩)
end Go.Am
namespace Go.Am
set_option linter.unusedVariables false
set_option linter.unusedSimpArgs false
set_option linter.unusedSectionVars false
set_option maxRecDepth 100000
open Tr
variable {M : Mac} [MK M]
theorem wf_i64 {a : Int} (h : (Lit.int .i64 a).wf = true) : a < 9223372036854775808 := by
  simp only [Lit.wf, Bool.and_eq_true, decide_eq_true_eq] at h
  have : IntKind.max .i64 = 9223372036854775807 := by decide
  omega
theorem wf_u64 {a : Int} (h : (Lit.int .u64 a).wf = true) : 0 ≤ a ∧ a < 18446744073709551616 := by
  simp only [Lit.wf, Bool.and_eq_true, decide_eq_true_eq] at h
  have h1 : IntKind.max .u64 = 18446744073709551615 := by decide
  have h2 : IntKind.min .u64 = 0 := by decide
  omega
theorem nb_tt (H : AHeap) : Op.eq .bool true [.bool true, .bool true] H = some (.bool false) := rfl
theorem nb_ff (H : AHeap) : Op.eq .bool true [.bool false, .bool false] H = some (.bool false) := rfl
theorem textB_le {h : List Evt} (hx : ∀ x ∈ h, EvR x) (hf : h.all fineB = true) : (textB h).length ≤ h.length * 201 := by
  unfold textB
  exact flat_le (k := 201) fun x hxm => by
    have := line_len (hx x hxm) (List.all_eq_true.1 hf x hxm)
    rw [List.length_append, List.length_singleton]; omega
theorem encs_le {h : List Evt} (hx : ∀ x ∈ h, EvR x) (hf : h.all fineB = true) : (h.flatMap encE).length ≤ h.length * 61 :=
  flat_le (k := 61) fun x hxm => encE_le (hx x hxm) (List.all_eq_true.1 hf x hxm)
def eN (h : List Evt) : Int := if h.all fineB = true then 0 else 2
def eB (h : List Evt) : B := if h.all fineB = true then h.flatMap encE else []
def tB (h : List Evt) : B := if h.all fineB = true then textB h else []
theorem Enc_spec {H : AHeap} {a : AV} {h : List Evt} (ha : SlT Evt.enc 9 H a h) (ht : Tab H) (hx : ∀ x ∈ h, EvR x) (hl : h.length ≤ 5000) :
    CALLQ M N_trace_Encode [a] H fun v H' => ∃ w, v = .tuple [w, .int .i64 (eN h)] ∧ NewB H H' w (eB h) :=
  (Encode_spec (M := M) ha ht hx hl).mono fun v H' ⟨hf, hq⟩ => by
    rcases hq with ⟨h1, w, rfl, h3⟩ | ⟨h1, rfl⟩
    · exact ⟨w, by simp [eN, h1], by simpa [eB, h1] using h3⟩
    · exact ⟨.nils, by simp [eN, h1], by simpa [eB, h1] using (New.nil H).em hf⟩
theorem Txt_spec {H : AHeap} {a : AV} {h : List Evt} (ha : SlT Evt.enc 9 H a h) (ht : Tab H) (hx : ∀ x ∈ h, EvR x) (hl : h.length ≤ 5000) :
    CALLQ M N_trace_Text [a] H fun v H' => v = .tuple [.str (tB h), .int .i64 (eN h)] ∧ Fr Em H H' :=
  (Text_spec (M := M) ha ht hx hl).mono fun v H' ⟨hf, hq⟩ => by
    rcases hq with ⟨h1, rfl⟩ | ⟨h1, rfl⟩
    · exact ⟨by simp [eN, tB, h1], hf⟩
    · exact ⟨by simp [eN, tB, h1], hf⟩
theorem eB_le {h : List Evt} (hx : ∀ x ∈ h, EvR x) : (eB h).length ≤ h.length * 61 := by
  unfold eB; split
  · rename_i hf; exact encs_le hx hf
  · simp
theorem tB_le {h : List Evt} (hx : ∀ x ∈ h, EvR x) : (tB h).length ≤ h.length * 201 := by
  unfold tB; split
  · rename_i hf; exact textB_le hx hf
  · simp
theorem ix20 (b : Nat) : Op.indexArr 2 1 [.ptr b 0, .int .i64 0] = some (.ptr b 0) := rfl
theorem ix21 (b : Nat) : Op.indexArr 2 1 [.ptr b 0, .int .i64 1] = some (.ptr b 1) := rfl
theorem joined_rest {G : AHeap} {a b c : AV} {xs ys : List Evt} {p q : Int} {r : Nat} {E : Env} (ha : SlT Evt.enc 9 G a xs) (hb : SlT Evt.enc 9 G b ys) (hc : SlT Evt.enc 9 G c (xs ++ ys)) (hlx : xs.length ≤ 150) (hly : ys.length ≤ 150)
    (hg : G.get r = some (OR [.int .i64 p, .int .i64 q] T__20)) (hr : r < G.next) (e0 : lk E 0 = some a) (e1 : lk E 1 = some b) (e8 : lk E 8 = some c) (e5 : lk E 5 = some (.ptr r 0)) (e7 : lk E 7 = some (.bool true)) :
    W M ⟨none, N_law23_TraceJoined⟩ (law23_TraceJoined_p 38) true (FIN3 M [.tmp 6] (RT3 fun v _ => v = .bool true)) E [] G := by
  have hlxy : (xs ++ ys).length ≤ 300 := by rw [List.length_append]; omega
  have at0 : ∀ {G' : AHeap}, Fr Em G G' → Op.load1 [.ptr r 0] G' = some (.int .i64 p) := fun f => by rw [load1_of (cellsAt_row (by rw [f.keep r hr id, hg]))]; rfl
  have at1 : ∀ {G' : AHeap}, Fr Em G G' → Op.load1 [.ptr r 1] G' = some (.int .i64 q) := fun f => by rw [load1_of (cellsAt_row (by rw [f.keep r hr id, hg]))]; rfl
  simp only [↓JN_eq, CTL3, OPS3, cast0, reduceIte, Nat.reduceEqDiff, law23_TraceJoined_w, e0, e1, e5, ix20, at0 (Fr.refl G)]
  refine C3.q (Of_spec (M := M) p ha (by omega)) fun v1 H1 hv1 => ?_
  have f1 : Fr Em G H1 := hv1.fr
  simp only [↓JN_eq, CTL3, OPS3, cast0, reduceIte, Nat.reduceEqDiff, law23_TraceJoined_w, at0 f1, CK3_same]
  refine app_s3 (New.nil H1) hv1.sl (by have := List.length_filter_le (fun x : Evt => decide (x.core = p)) xs; simp only [List.length_nil]; omega) fun v2 H2 hv2 hf2 => ?_
  have f2 := f1.em hv2.fr
  simp only [↓JN_eq, CTL3, OPS3, cast0, reduceIte, Nat.reduceEqDiff, law23_TraceJoined_w, at0 f2, CK3_same]
  refine C3.q (Of_spec (M := M) p (hb.em f2) (by omega)) fun v3 H3 hv3 => ?_
  have f3 := f2.em hv3.fr
  refine app_s3 (hv2.em hv3.fr) hv3.sl (by have := List.length_filter_le (fun x : Evt => decide (x.core = p)) xs; have := List.length_filter_le (fun x : Evt => decide (x.core = p)) ys; simp only [List.nil_append]; omega) fun v4 H4 hv4 hf4 => ?_
  have f4 := f1.em hv4.fr
  rw [List.nil_append, ← List.filter_append] at hv4
  simp only [↓JN_eq, CTL3, OPS3, cast0, reduceIte, Nat.reduceEqDiff, law23_TraceJoined_w, e0, e1, e5, ix21, at1 f4]
  refine C3.q (Between_spec (M := M) 0 q (ha.em f4) (by omega)) fun v5 H5 hv5 => ?_
  have f5 := f4.em hv5.fr
  simp only [↓JN_eq, CTL3, OPS3, cast0, reduceIte, Nat.reduceEqDiff, law23_TraceJoined_w, at1 f5, CK3_same]
  refine app_s3 (New.nil H5) hv5.sl (by have := List.length_filter_le (fun x : Evt => decide (0 ≤ x.time ∧ x.time < q)) xs; simp only [List.length_nil]; omega) fun v6 H6 hv6 hf6 => ?_
  have f6 := f5.em hv6.fr
  simp only [↓JN_eq, CTL3, OPS3, cast0, reduceIte, Nat.reduceEqDiff, law23_TraceJoined_w, at1 f6, CK3_same]
  refine C3.q (Between_spec (M := M) 0 q (hb.em f6) (by omega)) fun v7 H7 hv7 => ?_
  have f7 := f6.em hv7.fr
  refine app_s3 (hv6.em hv7.fr) hv7.sl (by have := List.length_filter_le (fun x : Evt => decide (0 ≤ x.time ∧ x.time < q)) xs; have := List.length_filter_le (fun x : Evt => decide (0 ≤ x.time ∧ x.time < q)) ys; simp only [List.nil_append]; omega) fun v8 H8 hv8 hf8 => ?_
  have f8 := f5.em hv8.fr
  rw [List.nil_append, ← List.filter_append] at hv8
  simp only [↓JN_eq, CTL3, OPS3, cast0, reduceIte, Nat.reduceEqDiff, law23_TraceJoined_w, e7, e8, e5, ix20, at0 f8]
  refine C3.q (Of_spec (M := M) p (hc.em f8) (by omega)) fun v9 H9 hv9 => ?_
  have f9 := f8.em hv9.fr
  simp only [↓JN_eq, CTL3, OPS3, cast0, reduceIte, Nat.reduceEqDiff, law23_TraceJoined_w]
  have hv49 : SlT Evt.enc 9 H9 v4 _ := ((hv4.em hv5.fr).em hv8.fr |>.em hv9.fr).sl
  refine C3.q (Same_spec (M := M) hv9.sl hv49 (by have := List.length_filter_le (fun x : Evt => decide (x.core = p)) (xs ++ ys); omega)) fun r1 H10 ⟨hr1, hH⟩ => ?_
  subst hr1; subst hH
  simp only [↓JN_eq, CTL3, OPS3, cast0, reduceIte, Nat.reduceEqDiff, law23_TraceJoined_w, e8, e5, ix21, at1 f9]
  refine C3.q (Between_spec (M := M) 0 q (hc.em f9) (by omega)) fun v11 H11 hv11 => ?_
  have hv811 : SlT Evt.enc 9 H11 v8 _ := ((hv8.em hv9.fr).em hv11.fr).sl
  refine C3.q (Same_spec (M := M) hv11.sl hv811 (by have := List.length_filter_le (fun x : Evt => decide (0 ≤ x.time ∧ x.time < q)) (xs ++ ys); omega)) fun r1 H12 ⟨hr1, hH⟩ => ?_
  subst hr1; subst hH
  simp only [↓JN_eq, CTL3, OPS3, cast0, reduceIte, Nat.reduceEqDiff, law23_TraceJoined_w]
theorem joined_mid {G : AHeap} {E : Env} {e f g : Int} {w9 w11 w13 : AV} {b9 b11 : B} {t15 t17 t19 : B}
    (h9 : lk E 9 = some w9) (h10 : lk E 10 = some (.int .i64 e)) (h11 : lk E 11 = some w11) (h12 : lk E 12 = some (.int .i64 f)) (h13 : lk E 13 = some w13) (h14 : lk E 14 = some (.int .i64 g)) (h20 : lk E 20 = some (.int .i64 g))
    (h15 : lk E 15 = some (.str t15)) (h17 : lk E 17 = some (.str t17)) (h19 : lk E 19 = some (.str t19)) {Q : Post3}
    (hc : (e = 0 ∧ f = 0 ∧ g = 0 ∧ t19 = t15 ++ t17 ∧ t15.length + t17.length ≤ 140737488355328 ∧ Op.strOfBytes [w9] G = some (.str b9) ∧ Op.strOfBytes [w11] G = some (.str b11) ∧ Op.strOfBytes [w13] G = some (.str (b9 ++ b11)) ∧ b9.length + b11.length ≤ 140737488355328) ∨ (e = 0 ∧ f = 2 ∧ g = 2) ∨ (e = 2 ∧ g = 2))
    (hr : ∀ v, W M ⟨none, N_law23_TraceJoined⟩ (law23_TraceJoined_p 38) true Q ((21, v) :: E) [] G) :
    W M ⟨none, N_law23_TraceJoined⟩ (law23_TraceJoined_p 28) true Q E [] G := by
  obtain ⟨-, -, -, -, -, -, w28, w30, -⟩ := law23_TraceJoined_w M ⟨none, N_law23_TraceJoined⟩
  rcases hc with ⟨rfl, rfl, rfl, rfl, htl, s9, s11, s13, hbl⟩ | ⟨rfl, rfl, rfl⟩ | ⟨rfl, rfl⟩
  · simp only [↓JN_eq, CTL3, OPS3, cast0, reduceIte, Nat.reduceEqDiff, w28, w30, h9, h10, h11, h12, h13, h14, h15, h17, h19, h20, nb_tt, nb_ff, Int.reduceEq, s9, s11, s13, o_cat _ _ hbl, o_cat _ _ htl]
    exact hr _
  · simp only [↓JN_eq, CTL3, OPS3, cast0, reduceIte, Nat.reduceEqDiff, w28, w30, h10, h12, h14, h20, nb_tt, nb_ff, Int.reduceEq]
    exact hr _
  · simp only [↓JN_eq, CTL3, OPS3, cast0, reduceIte, Nat.reduceEqDiff, w28, w30, h10, h14, h20, nb_tt, nb_ff, Int.reduceEq]
    exact hr _
theorem TraceJoined_law {H : AHeap} (hal : ∀ H1, Fr Em H H1 → CALLQ M N_law23_alive [] H1 fun v H' => v = .bool true ∧ H' = H1) (ht : Tab H) {a b : AV} {xs ys : List Evt} {p q : Int} (ha : SlT Evt.enc 9 H a xs) (hb : SlT Evt.enc 9 H b ys) (hx : ∀ x ∈ xs, EvR x) (hy : ∀ x ∈ ys, EvR x) :
    CALLQ M N_law23_TraceJoined [a, b, .agg [.int .i64 p, .int .i64 q]] H fun v _ => v = .bool true := by
  refine law23_TraceJoined_s ?_
  have hf1 : Fr Em H (H.alloc (OR [.int .i64 p, .int .i64 q] T__20)) := (Fr.refl H).alloc _
  have hal1 := hal _ hf1
  have ha1 := ha.em hf1
  have hb1 := hb.em hf1
  have ht1 := ht.em hf1
  have hg1 : (H.alloc (OR [.int .i64 p, .int .i64 q] T__20)).get H.next = some (OR [.int .i64 p, .int .i64 q] T__20) := get_alloc_new ..
  have hn1 : H.next < (H.alloc (OR [.int .i64 p, .int .i64 q] T__20)).next := by rw [alloc_next]; omega
  simp only [↓JN_eq, CTL3, OPS3, cast0, reduceIte, Nat.reduceEqDiff, law23_TraceJoined_w]
  generalize H.alloc (OR [.int .i64 p, .int .i64 q] T__20) = H1 at *
  refine C3.q hal1 fun v H' ⟨hv, hH⟩ => ?_
  subst hv; subst hH
  by_cases hl1 : (150 : Int) < (xs.length : Nat)
  · simp only [↓JN_eq, CTL3, OPS3, cast0, reduceIte, Nat.reduceEqDiff, law23_TraceJoined_w, ha1.len, hl1]
  by_cases hl2 : (150 : Int) < (ys.length : Nat)
  · simp only [↓JN_eq, CTL3, OPS3, cast0, reduceIte, Nat.reduceEqDiff, law23_TraceJoined_w, ha1.len, hb1.len, hl1, hl2]
  simp only [↓JN_eq, CTL3, OPS3, cast0, reduceIte, Nat.reduceEqDiff, law23_TraceJoined_w, ha1.len, hb1.len, hl1, hl2]
  obtain ⟨-, -, -, w16, w20, w24, -, -, -⟩ := law23_TraceJoined_w M ⟨none, N_law23_TraceJoined⟩
  refine app_s3 (New.nil H') ha1 (by simp; omega) fun v2 H2 hv2 hf2 => ?_
  have hb2 := hb1.em hv2.fr
  simp only [↓JN_eq, CTL3, OPS3, cast0, reduceIte, Nat.reduceEqDiff]
  refine app_s3 hv2 hb2 (by simp; omega) fun v3 H3 hv3 hf3 => ?_
  rw [List.nil_append] at hv3
  have hxy : ∀ x ∈ xs ++ ys, EvR x := fun x h => (List.mem_append.1 h).elim (hx x) (hy x)
  have hlxy : (xs ++ ys).length ≤ 300 := by rw [List.length_append]; omega
  simp only [↓JN_eq, CTL3, OPS3, cast0, reduceIte, Nat.reduceEqDiff, w16]
  have ha3 := ha1.em hv3.fr
  have ht3 := ht1.em hv3.fr
  refine C3.q (Enc_spec (M := M) ha3 ht3 hx (by omega)) fun v H4 ⟨w4, hv, hw4⟩ => ?_
  subst hv
  have hv4 := hv3.em hw4.fr
  simp (maxSteps := 4000000) (disch := first | (simp only [m_next_alloc, m_next_set]; done) | (simp only [m_next_alloc, m_next_set]; omega) | omega) only [↓JN_eq, CTL3, OPS3, MEM3, List.length_cons, List.length_nil, List.take_zero, List.take_succ_cons, List.drop_zero, List.drop_succ_cons, List.take_nil, List.drop_nil, Nat.reduceAdd, Nat.reduceSub, Nat.reduceLeDiff, Int.reduceLT, Int.reduceLE, Int.reduceEq, cast0, reduceIte, Nat.reduceEqDiff, w16, w20, w24]
  refine C3.q (Enc_spec (M := M) (hb1.em hv4.fr) (ht1.em hv4.fr) hy (by omega)) fun v H5 ⟨w5, hv, hw5⟩ => ?_
  subst hv
  have hv5 := hv4.em hw5.fr
  simp (maxSteps := 4000000) (disch := first | (simp only [m_next_alloc, m_next_set]; done) | (simp only [m_next_alloc, m_next_set]; omega) | omega) only [↓JN_eq, CTL3, OPS3, MEM3, List.length_cons, List.length_nil, List.take_zero, List.take_succ_cons, List.drop_zero, List.drop_succ_cons, List.take_nil, List.drop_nil, Nat.reduceAdd, Nat.reduceSub, Nat.reduceLeDiff, Int.reduceLT, Int.reduceLE, Int.reduceEq, cast0, reduceIte, Nat.reduceEqDiff, w16, w20, w24]
  refine C3.q (Enc_spec (M := M) hv5.sl (ht1.em hv5.fr) hxy (by omega)) fun v H6 ⟨w6, hv, hw6⟩ => ?_
  subst hv
  have hv6 := hv5.em hw6.fr
  simp (maxSteps := 4000000) (disch := first | (simp only [m_next_alloc, m_next_set]; done) | (simp only [m_next_alloc, m_next_set]; omega) | omega) only [↓JN_eq, CTL3, OPS3, MEM3, List.length_cons, List.length_nil, List.take_zero, List.take_succ_cons, List.drop_zero, List.drop_succ_cons, List.take_nil, List.drop_nil, Nat.reduceAdd, Nat.reduceSub, Nat.reduceLeDiff, Int.reduceLT, Int.reduceLE, Int.reduceEq, cast0, reduceIte, Nat.reduceEqDiff, w16, w20, w24]
  refine C3.q (Txt_spec (M := M) (ha1.em hv6.fr) (ht1.em hv6.fr) hx (by omega)) fun v H7 ⟨hv, hf7⟩ => ?_
  subst hv
  have hv7 := hv6.em hf7
  simp (maxSteps := 4000000) (disch := first | (simp only [m_next_alloc, m_next_set]; done) | (simp only [m_next_alloc, m_next_set]; omega) | omega) only [↓JN_eq, CTL3, OPS3, MEM3, List.length_cons, List.length_nil, List.take_zero, List.take_succ_cons, List.drop_zero, List.drop_succ_cons, List.take_nil, List.drop_nil, Nat.reduceAdd, Nat.reduceSub, Nat.reduceLeDiff, Int.reduceLT, Int.reduceLE, Int.reduceEq, cast0, reduceIte, Nat.reduceEqDiff, w16, w20, w24]
  refine C3.q (Txt_spec (M := M) (hb1.em hv7.fr) (ht1.em hv7.fr) hy (by omega)) fun v H8 ⟨hv, hf8⟩ => ?_
  subst hv
  have hv8 := hv7.em hf8
  simp (maxSteps := 4000000) (disch := first | (simp only [m_next_alloc, m_next_set]; done) | (simp only [m_next_alloc, m_next_set]; omega) | omega) only [↓JN_eq, CTL3, OPS3, MEM3, List.length_cons, List.length_nil, List.take_zero, List.take_succ_cons, List.drop_zero, List.drop_succ_cons, List.take_nil, List.drop_nil, Nat.reduceAdd, Nat.reduceSub, Nat.reduceLeDiff, Int.reduceLT, Int.reduceLE, Int.reduceEq, cast0, reduceIte, Nat.reduceEqDiff, w16, w20, w24]
  refine C3.q (Txt_spec (M := M) hv8.sl (ht1.em hv8.fr) hxy (by omega)) fun v H9 ⟨hv, hf9⟩ => ?_
  subst hv
  have hv9 := hv8.em hf9
  have s4 := str_of_new ((((hw4.em hw5.fr).em hw6.fr).em hf7).em hf8 |>.em hf9)
  have s5 := str_of_new (((hw5.em hw6.fr).em hf7).em hf8 |>.em hf9)
  have s6 := str_of_new ((hw6.em hf7).em hf8 |>.em hf9)
  have hall : (xs ++ ys).all fineB = (xs.all fineB && ys.all fineB) := List.all_append
  have hbl : (eB xs).length + (eB ys).length ≤ 140737488355328 := by have := eB_le hx; have := eB_le hy; omega
  have htl : (tB xs).length + (tB ys).length ≤ 140737488355328 := by have := tB_le hx; have := tB_le hy; omega
  have hcB : xs.all fineB = true → ys.all fineB = true → eB (xs ++ ys) = eB xs ++ eB ys := fun h1 h2 => by simp [eB, hall, h1, h2, List.flatMap_append]
  have hcT : xs.all fineB = true → ys.all fineB = true → tB (xs ++ ys) = tB xs ++ tB ys := fun h1 h2 => by simp [tB, hall, h1, h2, textB, List.flatMap_append]
  have hg9 : H9.get H.next = some (OR [.int .i64 p, .int .i64 q] T__20) := by rw [hv9.fr.keep _ hn1 id, hg1]
  have rest : ∀ {E : Env}, lk E 0 = some a → lk E 1 = some b → lk E 8 = some v3 → lk E 5 = some (.ptr H.next 0) → lk E 7 = some (.bool true) → W M ⟨none, N_law23_TraceJoined⟩ (law23_TraceJoined_p 38) true (FIN3 M [.tmp 6] (RT3 fun v _ => v = .bool true)) E [] H9 :=
    fun q0 q1 q8 q5 q7 => joined_rest (ha1.em hv9.fr) (hb1.em hv9.fr) hv9.sl (by omega) (by omega) hg9 (Nat.lt_of_lt_of_le hn1 hv9.fr.next) q0 q1 q8 q5 q7
  refine joined_mid (b9 := eB xs) (b11 := eB ys) rfl rfl rfl rfl rfl rfl rfl rfl rfl rfl ?_ fun v => rest rfl rfl rfl rfl rfl
  cases hA : xs.all fineB with
  | true =>
    cases hB : ys.all fineB with
    | true =>
      rw [hcB hA hB] at s6
      exact .inl ⟨by simp [eN, hA], by simp [eN, hB], by simp [eN, hall, hA, hB], hcT hA hB, htl, s4, s5, s6, hbl⟩
    | false => exact .inr (.inl ⟨by simp [eN, hA], by simp [eN, hB], by simp [eN, hall, hB]⟩)
  | false => exact .inr (.inr ⟨by simp [eN, hA], by simp [eN, hall, hA]⟩)
end Go.Am
