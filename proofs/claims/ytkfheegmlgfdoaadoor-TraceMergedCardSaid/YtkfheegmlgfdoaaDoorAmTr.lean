/- Tr: MergeP MergeQ TrA TrB TrC. -/
import Derived.Test.YtkfheegmlgfdoaaDoorAmB4
import Derived.Test.YtkfheegmlgfdoaaDoorAmCodeT
namespace Go.Am
def headT (xss : List (List Evt)) (j : Nat) : Int := match xss[j]? with
  | some (x :: _) => x.time
  | _ => 0
def bestU (xss : List (List Evt)) : Nat → Option Nat
  | 0 => none
  | i + 1 => match xss[i]? with
    | some (x :: _) => match bestU xss i with
      | none => some i
      | some j => if x.time < headT xss j then some i else some j
    | _ => bestU xss i
def mergeN : Nat → List (List Evt) → List Evt
  | 0, _ => []
  | n + 1, xss => match bestU xss xss.length with
    | none => []
    | some j => match xss[j]? with
      | some (x :: t) => x :: mergeN n (xss.set j t)
      | _ => []
def total (xss : List (List Evt)) : Nat := (xss.map List.length).sum
def merge (xss : List (List Evt)) : List Evt := mergeN (total xss) xss
theorem bestU_some {xss : List (List Evt)} : ∀ {i j : Nat}, bestU xss i = some j → j < i ∧ ∃ x t, xss[j]? = some (x :: t)
  | 0, j, h => by cases h
  | i + 1, j, h => by
    rw [bestU] at h
    split at h
    · rename_i x t hx
      split at h
      · injection h with h; subst h; exact ⟨Nat.lt_succ_self _, x, t, hx⟩
      · rename_i k hk
        split at h
        · injection h with h; subst h; exact ⟨Nat.lt_succ_self _, x, t, hx⟩
        · injection h with h; subst h
          obtain ⟨h1, h2⟩ := bestU_some hk
          exact ⟨Nat.lt_succ_of_lt h1, h2⟩
    · obtain ⟨h1, h2⟩ := bestU_some h
      exact ⟨Nat.lt_succ_of_lt h1, h2⟩
theorem bestU_none {xss : List (List Evt)} : ∀ {i : Nat}, bestU xss i = none → ∀ j, j < i → ∀ x t, xss[j]? ≠ some (x :: t)
  | 0, h, j, hj => by omega
  | i + 1, h, j, hj => by
    intro x t hx
    rw [bestU] at h
    split at h
    · split at h
      · cases h
      · split at h <;> cases h
    · rename_i hn
      rcases Nat.lt_succ_iff_lt_or_eq.1 hj with q | rfl
      · exact bestU_none h j q x t hx
      · exact hn x t hx
theorem sum_set {l : List Nat} : ∀ {j a b : Nat}, l[j]? = some (a + b) → (l.set j a).sum + b = l.sum := by
  induction l with
  | nil => intro j a b h; simp at h
  | cons c l ih =>
    intro j a b h
    cases j with
    | zero => simp at h; subst h; simp; omega
    | succ j => simp only [List.getElem?_cons_succ] at h; have := ih h; simp only [List.set_cons_succ, List.sum_cons]; omega
theorem total_set {xss : List (List Evt)} {j : Nat} {x : Evt} {t : List Evt} (h : xss[j]? = some (x :: t)) : total (xss.set j t) + 1 = total xss := by
  unfold total
  rw [List.map_set]
  exact sum_set (by rw [List.getElem?_map, h]; rfl)
theorem sum_zero {l : List Nat} (h : l.sum = 0) : ∀ (j a : Nat), l[j]? = some a → a = 0 := by
  induction l with
  | nil => intro j a h; simp at h
  | cons c l ih =>
    intro j a h'
    simp at h
    cases j with
    | zero => simp at h'; omega
    | succ j => exact ih h.2 j a (by simpa using h')
theorem best_none_total {xss : List (List Evt)} : bestU xss xss.length = none ↔ total xss = 0 := by
  constructor
  · intro h
    have := bestU_none h
    unfold total
    have hall : ∀ l ∈ xss, l = [] := by
      intro l hl
      obtain ⟨j, hj, rfl⟩ := List.mem_iff_getElem.1 hl
      cases hc : xss[j] with
      | nil => rfl
      | cons x t => exact (this j hj x t (by rw [List.getElem?_eq_getElem hj, hc])).elim
    clear this h
    induction xss with
    | nil => rfl
    | cons a l ih => simp [hall a (by simp), ih (fun l hl => hall l (by simp [hl]))]
  · intro h
    cases hb : bestU xss xss.length with
    | none => rfl
    | some j =>
      obtain ⟨_, x, t, hx⟩ := bestU_some hb
      have := sum_zero h j (x :: t).length (by rw [List.getElem?_map, hx]; rfl)
      simp at this
theorem merge_step {xss : List (List Evt)} {j : Nat} {x : Evt} {t : List Evt} (hb : bestU xss xss.length = some j) (hx : xss[j]? = some (x :: t)) : merge xss = x :: merge (xss.set j t) := by
  unfold merge
  rw [← total_set hx, mergeN, hb]
  simp only [hx]
theorem merge_end {xss : List (List Evt)} (hb : bestU xss xss.length = none) : merge xss = [] := by
  unfold merge
  rw [best_none_total.1 hb]; rfl
theorem mergeN_len : ∀ (n : Nat) (xss : List (List Evt)), (mergeN n xss).length ≤ n
  | 0, _ => Nat.le_refl 0
  | n + 1, xss => by
    rw [mergeN]
    split
    · exact Nat.zero_le _
    · split
      · rw [List.length_cons]; exact Nat.succ_le_succ (mergeN_len n _)
      · exact Nat.zero_le _
theorem merge_len (xss : List (List Evt)) : (merge xss).length ≤ total xss := mergeN_len _ _
end Go.Am
namespace Go.Am
theorem bestU_min {xss : List (List Evt)} : ∀ {n j : Nat}, bestU xss n = some j → ∀ i, i < n → ∀ y u, xss[i]? = some (y :: u) → headT xss j ≤ y.time
  | 0, j, h, i, hi => by omega
  | n + 1, j, h, i, hi => by
    intro y u hy
    rw [bestU] at h
    split at h
    · rename_i x t hx
      split at h
      · rename_i hb
        injection h with h; subst h
        rcases Nat.lt_succ_iff_lt_or_eq.1 hi with q | q
        · exact (bestU_none hb i q y u hy).elim
        · subst q; rw [hx] at hy; injection hy with hy; injection hy with h1 h2; subst h1; unfold headT; rw [hx]; exact Int.le_refl _
      · rename_i k hb
        have hk := bestU_min hb
        split at h
        · rename_i hlt
          injection h with h; subst h
          have e : headT xss n = x.time := by unfold headT; rw [hx]
          rw [e]
          rcases Nat.lt_succ_iff_lt_or_eq.1 hi with q | q
          · have := hk i q y u hy; omega
          · subst q; rw [hx] at hy; injection hy with hy; injection hy with h1 h2; subst h1; exact Int.le_refl _
        · rename_i hge
          injection h with h; subst h
          rcases Nat.lt_succ_iff_lt_or_eq.1 hi with q | q
          · exact hk i q y u hy
          · subst q; rw [hx] at hy; injection hy with hy; injection hy with h1 h2; subst h1; omega
    · rename_i hn
      rcases Nat.lt_succ_iff_lt_or_eq.1 hi with q | q
      · exact bestU_min h i q y u hy
      · subst q; exact (hn y u hy).elim
theorem merge_ind {P : List (List Evt) → List Evt → Prop} (h0 : ∀ xss, (∀ xs ∈ xss, xs = []) → P xss [])
    (h1 : ∀ xss j x t, bestU xss xss.length = some j → xss[j]? = some (x :: t) → P (xss.set j t) (merge (xss.set j t)) → P xss (x :: merge (xss.set j t))) : ∀ (n : Nat) (xss : List (List Evt)), total xss = n → P xss (merge xss)
  | n, xss, hn => by
    cases hb : bestU xss xss.length with
    | none =>
      rw [merge_end hb]
      refine h0 xss fun xs hxs => ?_
      obtain ⟨j, hj, rfl⟩ := List.mem_iff_getElem.1 hxs
      cases hc : xss[j] with
      | nil => rfl
      | cons x t => exact (bestU_none hb j hj x t (by rw [List.getElem?_eq_getElem hj, hc])).elim
    | some j =>
      obtain ⟨_, x, t, hx⟩ := bestU_some hb
      have ht := total_set hx
      rw [merge_step hb hx]
      match n with
      | 0 => omega
      | n + 1 => exact h1 xss j x t hb hx (merge_ind h0 h1 n (xss.set j t) (by omega))
theorem merge_length (xss : List (List Evt)) : (merge xss).length = total xss := by
  refine merge_ind (P := fun xss l => l.length = total xss) (fun xss h => ?_) (fun xss j x t hb hx ih => ?_) _ xss rfl
  · unfold total
    induction xss with
    | nil => rfl
    | cons a l ih => rw [List.map_cons, List.sum_cons, h a (by simp), ← ih fun xs hx => h xs (by simp [hx])]; rfl
  · rw [List.length_cons, ih, total_set hx]
theorem merge_sub (xss : List (List Evt)) : ∀ (i : Nat) (xs : List Evt), xss[i]? = some xs → xs.Sublist (merge xss) := by
  refine merge_ind (P := fun xss l => ∀ (i : Nat) (xs : List Evt), xss[i]? = some xs → xs.Sublist l) (fun xss h i xs hx => ?_) (fun xss j x t hb hx ih i xs hi => ?_) _ xss rfl
  · rw [h xs (List.mem_of_getElem? hx)]; exact List.Sublist.refl _
  · by_cases hij : j = i
    · subst hij
      rw [hx] at hi; injection hi with hi; subst hi
      exact (ih j t (by rw [List.getElem?_set, if_pos rfl, if_pos (List.getElem?_eq_some_iff.1 hx).1])).cons_cons x
    · exact (ih i xs (by rw [List.getElem?_set, if_neg hij]; exact hi)).cons x
theorem merge_mem (xss : List (List Evt)) : ∀ y ∈ merge xss, ∃ xs ∈ xss, y ∈ xs := by
  refine merge_ind (P := fun xss l => ∀ y ∈ l, ∃ xs ∈ xss, y ∈ xs) (fun xss h y hy => by cases hy) (fun xss j x t hb hx ih y hy => ?_) _ xss rfl
  have hxm := List.mem_of_getElem? hx
  rcases List.mem_cons.1 hy with rfl | hy
  · exact ⟨_, hxm, by simp⟩
  · obtain ⟨xs, h1, h2⟩ := ih y hy
    rcases List.mem_or_eq_of_mem_set h1 with q | rfl
    · exact ⟨xs, q, h2⟩
    · exact ⟨_, hxm, by simp [h2]⟩
def Rising (l : List Evt) : Prop := l.Pairwise fun x y => x.time ≤ y.time
theorem merge_rising (xss : List (List Evt)) (h : ∀ xs ∈ xss, Rising xs) : Rising (merge xss) := by
  refine merge_ind (P := fun xss l => (∀ xs ∈ xss, Rising xs) → Rising l) (fun xss _ _ => List.Pairwise.nil) (fun xss j x t hb hx ih h => ?_) _ xss rfl h
  have hxr := h _ (List.mem_of_getElem? hx)
  have hset : ∀ xs ∈ xss.set j t, Rising xs := fun xs hxs => by
    rcases List.mem_or_eq_of_mem_set hxs with q | rfl
    · exact h xs q
    · exact (List.pairwise_cons.1 hxr).2
  refine List.pairwise_cons.2 ⟨fun y hy => ?_, ih hset⟩
  have hh : headT xss j = x.time := by unfold headT; rw [hx]
  obtain ⟨xs, h1, h2⟩ := merge_mem _ y hy
  rcases List.mem_or_eq_of_mem_set h1 with q | rfl
  · obtain ⟨i, hi, e⟩ := List.mem_iff_getElem.1 q
    cases xs with
    | nil => cases h2
    | cons z u =>
      have hz := bestU_min hb i hi z u (by rw [List.getElem?_eq_getElem hi, e])
      rw [hh] at hz
      rcases List.mem_cons.1 h2 with rfl | h2
      · exact hz
      · exact Int.le_trans hz ((List.pairwise_cons.1 (h _ q)).1 y h2)
  · exact (List.pairwise_cons.1 hxr).1 y h2
theorem rising_of {l : List Evt} (h : ∀ (k : Nat) x y, l[k]? = some x → l[k + 1]? = some y → x.time ≤ y.time) : Rising l := by
  induction l with
  | nil => exact List.Pairwise.nil
  | cons a l ih =>
    have hl := ih fun k x y h1 h2 => h (k + 1) x y h1 h2
    refine List.pairwise_cons.2 ⟨fun y hy => ?_, hl⟩
    cases l with
    | nil => cases hy
    | cons b l =>
      have hab := h 0 a b rfl rfl
      rcases List.mem_cons.1 hy with rfl | hy
      · exact hab
      · exact Int.le_trans hab ((List.pairwise_cons.1 hl).1 y hy)
theorem Rising.at {l : List Evt} (h : Rising l) {k : Nat} {x y : Evt} (h1 : l[k]? = some x) (h2 : l[k + 1]? = some y) : x.time ≤ y.time := by
  obtain ⟨q1, e1⟩ := List.getElem?_eq_some_iff.1 h1
  obtain ⟨q2, e2⟩ := List.getElem?_eq_some_iff.1 h2
  have := List.pairwise_iff_getElem.1 h k (k + 1) q1 q2 (by omega)
  rw [e1, e2] at this; exact this
theorem seek {xs a : List Evt} {n k : Nat} {y : Evt} (h : (xs.drop n).Sublist (a.drop k)) (hy : a[k]? = some y) :
    (∀ x, xs[n]? = some x → x = y → (xs.drop (n + 1)).Sublist (a.drop (k + 1))) ∧ ((∀ x, xs[n]? = some x → x ≠ y) → (xs.drop n).Sublist (a.drop (k + 1))) := by
  obtain ⟨q, e⟩ := List.getElem?_eq_some_iff.1 hy
  rw [List.drop_eq_getElem_cons q, e] at h
  constructor
  · rintro x hx rfl
    obtain ⟨q', e'⟩ := List.getElem?_eq_some_iff.1 hx
    rw [List.drop_eq_getElem_cons q', e'] at h
    exact List.cons_sublist_cons.1 h
  · intro hne
    cases hd : xs.drop n with
    | nil => exact List.nil_sublist _
    | cons x l =>
      have hx : xs[n]? = some x := by have := congrArg (fun l => l[0]?) hd; simpa using this
      rw [hd] at h
      cases h with
      | cons _ h => exact h
      | cons_cons _ h => exact (hne _ hx rfl).elim
end Go.Am
namespace Go.Am
set_option linter.unusedVariables false
set_option linter.unusedSimpArgs false
set_option maxRecDepth 100000
variable {M : Mac} [MK M]
theorem Evt.one (x : Evt) : allOne x.enc = true := rfl
abbrev NewE := New Evt.enc T_api_Event 9
theorem sift_spec {H : AHeap} {a : AV} {xs : List Evt} (ha : SlT Evt.enc 9 H a xs) (hl : xs.length < 1000000) {g : Nat} {cap : List AV} {p : Evt → Bool}
    (hp : ∀ x Hc, Fr Em H Hc → CALLQ M g (.agg x.enc :: cap) Hc fun v H' => v = .bool (p x) ∧ Fr Em Hc H') :
    CALLQ M N_trace_sift_api_Event [a, .fn (.func g) [] cap] H fun v H' => NewE H H' v (xs.filter p) := by
  refine trace_sift_api_Event_s ?_
  simp only [CTL3, OPS3, cast0, reduceIte, Nat.reduceEqDiff, trace_sift_api_Event_w, ha.len]
  refine LOOP3.intro (fun n E H' => ∃ i v, E = [(1, .fn (.func g) [] cap), (8, a), (9, .int .i64 xs.length), (5, v), (10, .int .i64 (i : Nat))] ∧ n = xs.length - i ∧ i ≤ xs.length ∧ NewE H H' v ((xs.take i).filter p)) ?_ ?_
  · exact ⟨_, _, ⟨0, .nils, rfl, rfl, by omega, New.nil H⟩, by simp only [CTL3, OPS3, cast0, reduceIte, Nat.reduceEqDiff]⟩
  rintro n E H' ⟨i, v, rfl, rfl, hi, hv⟩
  have ha' := ha.em hv.fr
  simp only [CTL3, OPS3, cast0, reduceIte, Nat.reduceEqDiff, trace_sift_api_Event_w]
  refine IF3.dec (fun hlt => ?_) (fun hge => ?_)
  · have hlt : i < xs.length := by omega
    obtain ⟨x, hx⟩ : ∃ x, xs[i]? = some x := ⟨xs[i], by simp [hlt]⟩
    have hL : ((xs.take i).filter p).length ≤ i := Nat.le_trans (List.length_filter_le _ _) (by rw [List.length_take]; omega)
    have htk : xs.take (i + 1) = xs.take i ++ [x] := by rw [List.take_add_one, hx]; rfl
    have ew : wrapI .i64 ((i : Nat) + 1 : Int) = ((i + 1 : Nat) : Int) := wrap_i64 (by omega) (by omega)
    simp only [CTL3, OPS3, cast0, reduceIte, Nat.reduceEqDiff, trace_sift_api_Event_w, ha'.idx hx rfl, ha'.loadN Evt.len (show 0 < 9 by omega) hx, store_new H' [.int .i64 0, .int .i64 0, .int .i64 0, .int .i64 0, .int .i64 0, .int .i64 0, .int .i64 0, .int .u64 0, .int .i64 0] T_api_Event 9 (.agg x.enc) rfl rfl rfl, loadN_new H' x.enc _ _ _ 9 rfl]
    have hf1 : Fr Em H' (H'.alloc (.row x.enc T_api_Event (0, 0) true)) := (Fr.refl H').alloc _
    refine (hp x _ (hv.fr.em hf1)).elim.elim fun w h => ?_
    obtain ⟨H2, hc, rfl, hf2⟩ := h
    refine C3.ret hc ?_
    have hg : H2.get H'.next = some (.row x.enc T_api_Event (0, 0) true) := by rw [hf2.keep _ (by rw [alloc_next]; omega) (fun h => h), get_alloc_new]
    have hv2 := hv.em (hf1.em hf2)
    cases hpx : p x with
    | true =>
      simp only [CTL3, OPS3, cast0, reduceIte, Nat.reduceEqDiff, trace_sift_api_Event_w, loadN_of (cellsAt_row hg) (o := 0) (n := 9) (Nat.le_refl 9)]
      refine hv2.app3 (bytes := 72) (a := x) rfl rfl rfl rfl (by omega) (by omega) (by omega) fun v' H3 hv' hf _ => ?_
      simp only [CTL3, OPS3, cast0, reduceIte, Nat.reduceEqDiff, trace_sift_api_Event_w, ew]
      exact ⟨_, _, ⟨i + 1, _, rfl, rfl, by omega, by rw [htk, List.filter_append]; simpa [hpx] using hv'⟩, by simp only [CTL3, OPS3, cast0, reduceIte, Nat.reduceEqDiff], by omega⟩
    | false =>
      simp only [CTL3, OPS3, cast0, reduceIte, Nat.reduceEqDiff, trace_sift_api_Event_w, ew]
      exact ⟨_, _, ⟨i + 1, _, rfl, rfl, by omega, by rw [htk, List.filter_append]; simpa [hpx] using hv2⟩, by simp only [CTL3, OPS3, cast0, reduceIte, Nat.reduceEqDiff], by omega⟩
  · simp only [CTL3, OPS3, cast0, reduceIte, Nat.reduceEqDiff, trace_sift_api_Event_w]
    rwa [List.take_of_length_le (by omega)] at hv
theorem Of_spec {H : AHeap} {a : AV} {xs : List Evt} (c : Int) (ha : SlT Evt.enc 9 H a xs) (hl : xs.length < 1000000) :
    CALLQ M N_trace_Of [a, .int .i64 c] H fun v H' => NewE H H' v (xs.filter fun x => decide (x.core = c)) := by
  refine trace_Of_s ?_
  have hf1 : Fr Em H (H.alloc (.row [.int .i64 c] T_int (0, 0) true)) := (Fr.refl H).alloc _
  simp only [CTL3, OPS3, cast0, reduceIte, Nat.reduceEqDiff, trace_Of_w, List.take_zero, List.drop_zero]
  refine C3.q (sift_spec (M := M) (ha.em hf1) hl (p := fun x => decide (x.core = c)) fun x Hc hf => ?_) fun v H' hn => ?_
  · have hl := Nat.lt_of_lt_of_le (show H.next < (H.alloc (.row [.int .i64 c] T_int (0, 0) true)).next by rw [alloc_next]; omega) hf.next
    have hb : Hc.get H.next = some (.row [.int .i64 c] T_int (0, 0) true) := by rw [hf.keep _ (by rw [alloc_next]; omega) (fun h => h), get_alloc_new]
    refine trace_Of_1_s (M := M) ?_
    have h2 : Op.load1 [.ptr H.next 0] (Hc.alloc (.row x.enc T_api_Event (0, 0) true)) = some (.int .i64 c) := by rw [load1_of (cellsAt_row (by rw [get_alloc_lt hl]; exact hb))]; rfl
    simp only [CTL3, OPS3, cast0, reduceIte, Nat.reduceEqDiff, Evt.enc] at h2
    simp only [CTL3, OPS3, cast0, reduceIte, Nat.reduceEqDiff, trace_Of_1_w, load1_new, h2, Evt.enc]
    exact (Fr.refl Hc).alloc _
  · simp only [CTL3, OPS3, cast0, reduceIte, Nat.reduceEqDiff, trace_Of_w]
    exact ⟨hn.own, hf1.em hn.fr, fun b hb => Nat.le_trans hf1.next (hn.fresh b hb)⟩
theorem Between_spec {H : AHeap} {a : AV} {xs : List Evt} (f t : Int) (ha : SlT Evt.enc 9 H a xs) (hl : xs.length < 1000000) :
    CALLQ M N_trace_Between [a, .int .i64 f, .int .i64 t] H fun v H' => NewE H H' v (xs.filter fun x => decide (f ≤ x.time ∧ x.time < t)) := by
  refine trace_Between_s ?_
  have hf1 : Fr Em H (H.alloc (.row [.int .i64 f] T_int (0, 0) true)) := (Fr.refl H).alloc _
  have hf2 : Fr Em H ((H.alloc (.row [.int .i64 f] T_int (0, 0) true)).alloc (.row [.int .i64 t] T_int (0, 0) true)) := hf1.alloc _
  simp only [CTL3, OPS3, cast0, reduceIte, Nat.reduceEqDiff, trace_Between_w, List.take_zero, List.drop_zero, alloc_next]
  refine C3.q (sift_spec (M := M) (ha.em hf2) hl (p := fun x => decide (f ≤ x.time ∧ x.time < t)) fun x Hc hf => ?_) fun v H' hn => ?_
  · have hl := Nat.lt_of_lt_of_le (show H.next + 1 < ((H.alloc (.row [.int .i64 f] T_int (0, 0) true)).alloc (.row [.int .i64 t] T_int (0, 0) true)).next by simp only [alloc_next]; omega) hf.next
    have hb : Hc.get H.next = some (.row [.int .i64 f] T_int (0, 0) true) := by rw [hf.keep _ (by simp only [alloc_next]; omega) (fun h => h), get_alloc_lt (by rw [alloc_next]; omega), get_alloc_new]
    have hb' : Hc.get (H.next + 1) = some (.row [.int .i64 t] T_int (0, 0) true) := by rw [hf.keep _ (by simp only [alloc_next]; omega) (fun h => h)]; exact get_alloc_new _ _
    refine trace_Between_1_s (M := M) ?_
    have h2 : Op.load1 [.ptr H.next 0] (Hc.alloc (.row x.enc T_api_Event (0, 0) true)) = some (.int .i64 f) := by rw [load1_of (cellsAt_row (by rw [get_alloc_lt (by omega)]; exact hb))]; rfl
    have h3 : Op.load1 [.ptr (H.next + 1) 0] (Hc.alloc (.row x.enc T_api_Event (0, 0) true)) = some (.int .i64 t) := by rw [load1_of (cellsAt_row (by rw [get_alloc_lt (by omega)]; exact hb'))]; rfl
    simp only [CTL3, OPS3, cast0, reduceIte, Nat.reduceEqDiff, trace_Between_1_w, Evt.enc] at h2 h3
    by_cases hc : f ≤ x.time <;> by_cases hd : x.time < t <;> simp only [CTL3, OPS3, cast0, reduceIte, Nat.reduceEqDiff, trace_Between_1_w, load1_new, h2, h3, Evt.enc, hc, hd] <;> exact (Fr.refl Hc).alloc _
  · simp only [CTL3, OPS3, cast0, reduceIte, Nat.reduceEqDiff, trace_Between_w]
    exact ⟨hn.own, hf2.em hn.fr, fun b hb => Nat.le_trans hf2.next (hn.fresh b hb)⟩
end Go.Am
namespace Go.Am
set_option linter.unusedVariables false
set_option linter.unusedSimpArgs false
set_option maxRecDepth 100000
variable {M : Mac} [MK M]
def enc1 (v : AV) : List AV := [v]
theorem enc1_len (v : AV) : (enc1 v).length = 1 := rfl
def RelS (H : AHeap) (vs : List AV) (xss : List (List Evt)) : Prop := vs.length = xss.length ∧ ∀ (i : Nat) c xs, vs[i]? = some c → xss[i]? = some xs → SlT Evt.enc 9 H c xs
def bI : Option Nat → Int
  | none => -1
  | some j => (j : Nat)
theorem RelS.em {H H' : AHeap} {vs : List AV} {xss : List (List Evt)} (h : RelS H vs xss) (f : Fr Em H H') : RelS H' vs xss := ⟨h.1, fun i c xs h1 h2 => (h.2 i c xs h1 h2).em f⟩
theorem RelS.get {H : AHeap} {vs : List AV} {xss : List (List Evt)} (h : RelS H vs xss) {i : Nat} (hi : i < xss.length) : ∃ c xs, vs[i]? = some c ∧ xss[i]? = some xs ∧ SlT Evt.enc 9 H c xs := by
  have hv : i < vs.length := by rw [h.1]; exact hi
  exact ⟨vs[i], xss[i], by simp [hv], by simp [hi], h.2 i _ _ (by simp [hv]) (by simp [hi])⟩
theorem RelS.one {H : AHeap} {vs : List AV} {xss : List (List Evt)} (h : RelS H vs xss) {i : Nat} {c : AV} (hc : vs[i]? = some c) : ∃ xs, xss[i]? = some xs ∧ SlT Evt.enc 9 H c xs := by
  have hi : i < xss.length := by rw [← h.1]; exact lt_of_get hc
  exact ⟨xss[i], by simp [hi], h.2 i _ _ hc (by simp [hi])⟩
theorem flat1 (vs : List AV) : vs.flatMap enc1 = vs := by
  induction vs with
  | nil => rfl
  | cons a l ih => rw [List.flatMap_cons, ih]; rfl
theorem eq_nils_nil (H : AHeap) : Op.eq .slice false [.nils, .nils] H = some (.bool true) := rfl
theorem eq_nils_of {H : AHeap} {size : Nat} {v : AV} {n : Nat} {cells : List AV} (h : Sl H size v n cells) (hv : v ≠ .nils) (H' : AHeap) : Op.eq .slice false [v, .nils] H' = some (.bool false) := by
  obtain ⟨_, h⟩ := h
  cases v <;> first | exact (hv rfl).elim | rfl | exact h.elim
theorem build0 (e : Nat) (zero : List AV) : Op.buildSlice e 0 zero [] [] = some (.row [] e (0, 0) true, Op.sliceTo 0 0) := rfl
theorem clone_spec {H : AHeap} {a : AV} {vs : List AV} (ha : SlT enc1 1 H a vs) (hl : vs.length < 1000000) (hone : ∀ v ∈ vs, oneCell v = true) :
    CALLQ M N_slices_Clone_s_api_Event [a] H fun v H' => New enc1 T__6 1 H H' v vs := by
  refine slices_Clone_s_api_Event_s ?_
  by_cases hn : a = .nils
  · subst hn
    have h0 : vs = [] := List.length_eq_zero_iff.1 ha.2
    subst h0
    simp only [CTL3, OPS3, cast0, reduceIte, Nat.reduceEqDiff, slices_Clone_s_api_Event_w, eq_nils_nil]
    exact New.nil H
  · have hf1 : Fr Em H (H.alloc (.row [] T__6 (0, 0) true)) := (Fr.refl H).alloc _
    simp only [CTL3, OPS3, cast0, reduceIte, Nat.reduceEqDiff, slices_Clone_s_api_Event_w, eq_nils_of ha hn, build0]
    refine append3s (e := T__6) (n := 0) (cells := []) ⟨rfl, .inl ⟨rfl, .inr ⟨H.next, rfl, by rw [alloc_next]; omega⟩⟩⟩ (ha.em hf1) (by rw [flat1, allOne_eq]; simpa using hone) (by omega) (by omega) (by omega) fun v' H2 hv' hf hfr => ?_
    simp only [CTL3, OPS3, cast0, reduceIte, Nat.reduceEqDiff, slices_Clone_s_api_Event_w]
    refine ⟨?_, ?_, fun b hb => (hfr b hb).elim (fun q => by rw [q.2]; exact Nat.le_refl _) fun q => Nat.le_trans hf1.next q⟩
    · unfold OwnT; rw [Nat.zero_add, List.nil_append] at hv'; exact hv'
    · exact hf1.trans hf fun x hx => .inr (by rw [hx.2]; exact Nat.le_refl _)
theorem Merge_spec {H : AHeap} {a : AV} {vs : List AV} {xss : List (List Evt)} (ha : SlT enc1 1 H a vs) (hr : RelS H vs xss)
    (hl : xss.length < 1000000) (ht : total xss < 1000000) (hone : ∀ v ∈ vs, oneCell v = true) :
    CALLQ M N_trace_Merge [a] H fun v H' => NewE H H' v (merge xss) := by
  refine trace_Merge_s ?_
  simp only [CTL3, OPS3, cast0, reduceIte, Nat.reduceEqDiff, trace_Merge_w]
  refine C3.q (clone_spec (M := M) ha (by rw [hr.1]; exact hl) hone) fun vl H1 hn => ?_
  simp only [CTL3, OPS3, cast0, reduceIte, Nat.reduceEqDiff, trace_Merge_w]
  refine LOOP3.intro (fun n E H' => ∃ vl vs' xss' vo out, E = [(0, vl), (3, vo)] ∧ n = total xss' ∧ New enc1 T__6 1 H H' vl vs' ∧ NewE H H' vo out ∧ RelS H vs' xss' ∧ out ++ merge xss' = merge xss ∧ xss'.length = xss.length ∧
    out.length + total xss' = total xss ∧ ∀ x, OnS vl x → ¬ OnS vo x) ?_ ?_
  · exact ⟨_, _, ⟨vl, vs, xss, .nils, [], rfl, rfl, hn, (New.nil H).em hn.fr, hr, rfl, rfl, by simp, fun x _ h => h.1 rfl⟩, by simp only [CTL3, OPS3, cast0, reduceIte, Nat.reduceEqDiff]⟩
  rintro n E H' ⟨vl, vs', xss', vo, out, rfl, rfl, hvl, hvo, hr', hout, hlen, htot, hdis⟩
  have hrH := hr'.em hvl.fr
  simp only [CTL3, OPS3, cast0, reduceIte, Nat.reduceEqDiff, trace_Merge_w, hvl.len]
  refine LOOP3.intro (fun n E H2 => ∃ i, H2 = H' ∧ E = [(0, vl), (3, vo), (9, .int .i64 vs'.length), (10, .int .i64 (i : Nat)), (4, .int .i64 (bI (bestU xss' i)))] ∧ n = xss'.length - i ∧ i ≤ xss'.length) ?_ ?_
  · exact ⟨_, _, ⟨0, rfl, rfl, rfl, by omega⟩, by simp only [CTL3, OPS3, cast0, reduceIte, Nat.reduceEqDiff]; rfl⟩
  rintro m E H2 ⟨i, rfl, rfl, rfl, hi⟩
  simp only [CTL3, OPS3, cast0, reduceIte, Nat.reduceEqDiff, trace_Merge_w]
  have hvlen := hr'.1
  refine IF3.dec (fun hlt => ?_) (fun hge => ?_)
  · have hlt : i < xss'.length := by omega
    obtain ⟨c, xs, hc, hx, hs⟩ := hrH.get hlt
    have hsl := hvl.sl
    have ew : wrapI .i64 ((i : Nat) + 1 : Int) = ((i + 1 : Nat) : Int) := wrap_i64 (by omega) (by omega)
    cases xs with
    | nil =>
      have e0 : ¬ ((0 : Int) < (([] : List Evt).length : Nat)) := by simp
      have hbn : bestU xss' (i + 1) = bestU xss' i := by rw [bestU, hx]
      simp only [CTL3, OPS3, cast0, reduceIte, Nat.reduceEqDiff, trace_Merge_w, hsl.idx hc rfl, hsl.load0 enc1_len hc (by omega), enc1, hs.len, e0, ew]
      exact ⟨_, _, ⟨i + 1, rfl, rfl, by omega⟩, by simp only [CTL3, OPS3, cast0, reduceIte, Nat.reduceEqDiff, hbn], by omega⟩
    | cons x t =>
      have e0 : (0 : Int) < ((x :: t).length : Nat) := by simp <;> omega
      have hx0 : (x :: t)[0]? = some x := rfl
      cases hb : bestU xss' i with
      | none =>
        have e1 : (-1 : Int) < 0 := by omega
        have hbn : bestU xss' (i + 1) = some i := by rw [bestU, hx]; simp only [hb]
        simp only [CTL3, OPS3, cast0, reduceIte, Nat.reduceEqDiff, trace_Merge_w, hb, bI, hsl.idx hc rfl, hsl.load0 enc1_len hc (by omega), enc1, hs.len, e0, e1, ew]
        exact ⟨_, _, ⟨i + 1, rfl, rfl, by omega⟩, by simp only [CTL3, OPS3, cast0, reduceIte, Nat.reduceEqDiff, hbn, bI], by omega⟩
      | some j =>
        obtain ⟨hji, y, u, hy⟩ := bestU_some hb
        obtain ⟨c', xs', hc', hx', hs'⟩ := hrH.get (show j < xss'.length by omega)
        rw [hy] at hx'; injection hx' with hx'; subst hx'
        have hy0 : (y :: u)[0]? = some y := rfl
        have e1 : ¬ (j : Int) < 0 := by omega
        have hh : headT xss' j = y.time := by unfold headT; rw [hy]
        have hbn : bestU xss' (i + 1) = if x.time < y.time then some i else some j := by rw [bestU, hx]; simp only [hb, hh]
        by_cases hxy : x.time < y.time
        · rw [if_pos hxy] at hbn
          simp only [CTL3, OPS3, cast0, reduceIte, Nat.reduceEqDiff, trace_Merge_w, hb, bI, hsl.idx hc rfl, hsl.idx hc' rfl, hsl.load0 enc1_len hc (by omega), hsl.load0 enc1_len hc' (by omega), enc1, hs.len, e0, e1, ew, hs.idx hx0 (z := 0) rfl, hs'.idx hy0 (z := 0) rfl, hs.load1 Evt.len hx0 (j := 1) (by omega), hs'.load1 Evt.len hy0 (j := 1) (by omega), Evt.enc, hxy]
          exact ⟨_, _, ⟨i + 1, rfl, rfl, by omega⟩, by simp only [CTL3, OPS3, cast0, reduceIte, Nat.reduceEqDiff, hbn, bI], by omega⟩
        · rw [if_neg hxy] at hbn
          simp only [CTL3, OPS3, cast0, reduceIte, Nat.reduceEqDiff, trace_Merge_w, hb, bI, hsl.idx hc rfl, hsl.idx hc' rfl, hsl.load0 enc1_len hc (by omega), hsl.load0 enc1_len hc' (by omega), enc1, hs.len, e0, e1, ew, hs.idx hx0 (z := 0) rfl, hs'.idx hy0 (z := 0) rfl, hs.load1 Evt.len hx0 (j := 1) (by omega), hs'.load1 Evt.len hy0 (j := 1) (by omega), Evt.enc, hxy]
          exact ⟨_, _, ⟨i + 1, rfl, rfl, by omega⟩, by simp only [CTL3, OPS3, cast0, reduceIte, Nat.reduceEqDiff, hbn, bI], by omega⟩
  · have hi : i = xss'.length := by omega
    subst hi
    cases hb : bestU xss' xss'.length with
    | none =>
      have e1 : (-1 : Int) < 0 := by omega
      simp only [CTL3, OPS3, cast0, reduceIte, Nat.reduceEqDiff, trace_Merge_w, hb, bI, e1]
      rw [merge_end hb, List.append_nil] at hout
      rw [← hout]; exact hvo
    | some j =>
      have e1 : ¬ (j : Int) < 0 := by omega
      obtain ⟨hji, y, u, hy⟩ := bestU_some hb
      obtain ⟨c, xs', hc, hx', hs⟩ := hrH.get hji
      rw [hy] at hx'; injection hx' with hx'; subst hx'
      have hy0 : (y :: u)[0]? = some y := rfl
      have hsl := hvl.sl
      simp only [CTL3, OPS3, cast0, reduceIte, Nat.reduceEqDiff, trace_Merge_w, hb, bI, e1, hsl.idx hc rfl, hsl.load0 enc1_len hc (by omega), enc1, hs.idx hy0 (z := 0) rfl, hs.loadN Evt.len (by omega) hy0]
      have htot' := total_set hy
      refine hvo.app3 (bytes := 72) (a := y) rfl rfl rfl rfl (by omega) (by omega) (by omega) fun vo' H2 hvo' hf hfr => ?_
      have hvl2 : New enc1 T__6 1 H H2 vl vs' := ⟨Own.fr hvl.own hf hdis, hvo'.fr, hvl.fresh⟩
      have hsl2 := hvl2.sl
      obtain ⟨c2, hsc, hs3, _⟩ := (hr'.2 j c _ hc hy).from Evt.len (k := 1) (by simp) (z := 1) rfl .i64
      obtain ⟨H3, hst, hown, hf3⟩ := OwnT.set1 enc1_len hvl2.own hc (j := 0) (by omega) (u := c2) hs3.one (y := c2) rfl
      rw [Nat.add_zero] at hst
      simp only [CTL3, OPS3, cast0, reduceIte, Nat.reduceEqDiff, trace_Merge_w, hsl2.idx hc rfl, hsl2.load0 enc1_len hc (by omega), enc1, hsc, hst]
      have hd2 : ∀ x, OnS vl x → ¬ OnS vo' x := fun x hx hx' => (hfr x hx').elim (hdis x hx) fun q => by have := Own.lt hvl.own x hx; omega
      refine ⟨_, _, ⟨vl, vs'.set j c2, xss'.set j u, vo', out ++ [y], rfl, rfl, hvl2.step hown hf3 (fun b hb => .inl hb), ?_, ?_, ?_, by rw [List.length_set]; exact hlen, by rw [List.length_append]; simp; omega, hd2⟩, by simp only [CTL3, OPS3, cast0, reduceIte, Nat.reduceEqDiff], by omega⟩
      · exact ⟨Own.fr hvo'.own hf3 fun x hx hx' => hd2 x hx' hx, (hvl2.step hown hf3 (fun b hb => .inl hb)).fr, hvo'.fresh⟩
      · refine ⟨by rw [List.length_set, List.length_set]; exact hr'.1, fun i c xs h1 h2 => ?_⟩
        rw [List.getElem?_set] at h1 h2
        by_cases hij : j = i
        · subst hij
          rw [if_pos rfl, if_pos (by rw [hr'.1]; exact hji)] at h1
          rw [if_pos rfl, if_pos hji] at h2
          injection h1 with h1; injection h2 with h2; subst h1; subst h2; exact hs3
        · rw [if_neg hij] at h1 h2; exact hr'.2 i c xs h1 h2
      · rw [← hout, merge_step hb hy]; simp
end Go.Am
namespace Go.Am
set_option linter.unusedVariables false
set_option linter.unusedSimpArgs false
set_option maxRecDepth 100000
variable {M : Mac} [MK M]
theorem ev_e (x y : Evt) (H : AHeap) : Op.eq (.agg evTree) false [.agg x.enc, .agg y.enc] H = some (.bool (decide (x = y))) := by simp [Op.eq, eqV, ev_eq]
theorem total_take {xss : List (List Evt)} {i : Nat} {xs : List Evt} (h : xss[i]? = some xs) : total (xss.take (i + 1)) = total (xss.take i) + xs.length := by
  rw [List.take_add_one, h]; simp [total]
theorem total_small {xss : List (List Evt)} (h : ∀ xs ∈ xss, xs.length ≤ 100) : total xss ≤ xss.length * 100 := by
  unfold total
  induction xss with
  | nil => simp
  | cons a l ih =>
    have h1 := h a (by simp)
    have h2 := ih fun xs hx => h xs (by simp [hx])
    simp only [List.map_cons, List.sum_cons, List.length_cons]; omega
theorem TraceRises_law {H : AHeap} (hal : CALLQ M N_law23_alive [] H fun v H' => v = .bool true ∧ H' = H) {a : AV} {vs : List AV} {xss : List (List Evt)} (ha : SlT enc1 1 H a vs) (hr : RelS H vs xss) (hone : ∀ v ∈ vs, oneCell v = true) :
    CALLQ M N_law23_TraceRises [a] H fun v _ => v = .bool true := by
  refine law23_TraceRises_s ?_
  have hlen := hr.1
  simp only [CTL3, OPS3, cast0, reduceIte, Nat.reduceEqDiff, law23_TraceRises_w]
  refine C3.q hal fun v H' ⟨hv, hH⟩ => ?_
  subst hv; subst hH
  by_cases hbig : 10 < vs.length
  · have e0 : (10 : Int) < (vs.length : Nat) := by omega
    simp only [CTL3, OPS3, cast0, reduceIte, Nat.reduceEqDiff, law23_TraceRises_w, ha.len, e0]
  have e0 : ¬ (10 : Int) < (vs.length : Nat) := by omega
  simp only [CTL3, OPS3, cast0, reduceIte, Nat.reduceEqDiff, law23_TraceRises_w, ha.len, e0]
  refine LOOP3.intro (fun n E H2 => ∃ i, H2 = H' ∧ E = [(0, a), (3, .bool true), (22, .int .i64 vs.length), (23, .int .i64 (i : Nat)), (4, .int .i64 (total (xss.take i) : Nat))] ∧ n = vs.length - i ∧ i ≤ vs.length ∧ (∀ xs ∈ xss.take i, xs.length ≤ 100 ∧ Rising xs)) ?_ ?_
  · exact ⟨_, _, ⟨0, rfl, rfl, rfl, by omega, by simp⟩, by simp only [CTL3, OPS3, cast0, reduceIte, Nat.reduceEqDiff]; rfl⟩
  rintro n E H2 ⟨i, rfl, rfl, rfl, hi, hsm⟩
  have hts : total (xss.take i) ≤ 1000 := by have := total_small fun xs hx => (hsm xs hx).1; rw [List.length_take] at this; omega
  simp only [CTL3, OPS3, cast0, reduceIte, Nat.reduceEqDiff, law23_TraceRises_w]
  refine IF3.dec (fun hlt => ?_) (fun hge => ?_)
  · have hlt : i < vs.length := by omega
    obtain ⟨c, xs, hc, hx, hs⟩ := hr.get (show i < xss.length by omega)
    have ew : wrapI .i64 ((i : Nat) + 1 : Int) = ((i + 1 : Nat) : Int) := wrap_i64 (by omega) (by omega)
    by_cases hb : 100 < xs.length
    · have e2 : (100 : Int) < (xs.length : Nat) := by omega
      simp only [CTL3, OPS3, cast0, reduceIte, Nat.reduceEqDiff, law23_TraceRises_w, ha.idx hc rfl, ha.load0 enc1_len hc (by omega), enc1, hs.len, e2]
    have e2 : ¬ (100 : Int) < (xs.length : Nat) := by omega
    simp only [CTL3, OPS3, cast0, reduceIte, Nat.reduceEqDiff, law23_TraceRises_w, ha.idx hc rfl, ha.load0 enc1_len hc (by omega), enc1, hs.len, e2]
    refine LOOP3.intro (fun n E H3 => ∃ k, H3 = H2 ∧ E = [(0, a), (3, .bool true), (22, .int .i64 vs.length), (23, .int .i64 (i : Nat)), (4, .int .i64 (total (xss.take i) : Nat)), (5, .int .i64 (i : Nat)), (6, .int .i64 (k + 1 : Nat))] ∧ n = xs.length - k ∧ k ≤ xs.length ∧ (∀ j x y, j < k → xs[j]? = some x → xs[j + 1]? = some y → x.time ≤ y.time)) ?_ ?_
    · exact ⟨_, _, ⟨0, rfl, rfl, rfl, by omega, fun j x y q => by omega⟩, by simp only [CTL3, OPS3, cast0, reduceIte, Nat.reduceEqDiff]; rfl⟩
    rintro m E H3 ⟨k, rfl, rfl, rfl, hk, hki⟩
    simp only [CTL3, OPS3, cast0, reduceIte, Nat.reduceEqDiff, law23_TraceRises_w, ha.idx hc rfl, ha.load0 enc1_len hc (by omega), enc1, hs.len]
    refine IF3.dec (fun hlt2 => ?_) (fun hge2 => ?_)
    · have hk1 : k + 1 < xs.length := by omega
      obtain ⟨x, hxk⟩ : ∃ x, xs[k]? = some x := ⟨xs[k], by simp [show k < xs.length by omega]⟩
      obtain ⟨y, hyk⟩ : ∃ y, xs[k + 1]? = some y := ⟨xs[k + 1], by simp [hk1]⟩
      have ek : wrapI .i64 (((k + 1 : Nat) : Int) - 1) = (k : Nat) := by rw [wrap_i64 (by omega) (by omega)]; omega
      have ek1 : wrapI .i64 (((k + 1 : Nat) : Int) + 1) = ((k + 1 + 1 : Nat) : Int) := wrap_i64 (by omega) (by omega)
      simp only [CTL3, OPS3, cast0, reduceIte, Nat.reduceEqDiff, law23_TraceRises_w, ha.idx hc rfl, ha.load0 enc1_len hc (by omega), enc1, ek, hs.idx hxk rfl, hs.idx hyk rfl, hs.load1 Evt.len hxk (j := 1) (by omega), hs.load1 Evt.len hyk (j := 1) (by omega), Evt.enc]
      refine IF3.dec (fun hlt3 => ?_) (fun hge3 => ?_)
      · simp only [CTL3, OPS3, cast0, reduceIte, Nat.reduceEqDiff, law23_TraceRises_w]
      · simp only [CTL3, OPS3, cast0, reduceIte, Nat.reduceEqDiff, law23_TraceRises_w, ek1]
        refine ⟨_, _, ⟨k + 1, rfl, rfl, by omega, fun j x' y' q h1 h2 => ?_⟩, by simp only [CTL3, OPS3, cast0, reduceIte, Nat.reduceEqDiff], by omega⟩
        rcases Nat.lt_succ_iff_lt_or_eq.1 q with q | rfl
        · exact hki j x' y' q h1 h2
        · rw [hxk] at h1; rw [hyk] at h2; injection h1 with h1; injection h2 with h2; subst h1; subst h2; omega
    · have hrs : Rising xs := rising_of fun j x y h1 h2 => hki j x y (by have := (List.getElem?_eq_some_iff.1 h2).1; omega) h1 h2
      have htt := total_take hx
      have et : wrapI .i64 ((total (xss.take i) : Nat) + (xs.length : Nat) : Int) = ((total (xss.take (i + 1)) : Nat) : Int) := by rw [htt]; exact wrap_i64 (by omega) (by omega)
      simp only [CTL3, OPS3, cast0, reduceIte, Nat.reduceEqDiff, law23_TraceRises_w, ha.idx hc rfl, ha.load0 enc1_len hc (by omega), enc1, hs.len, et, ew]
      refine ⟨_, _, ⟨i + 1, rfl, rfl, by omega, ?_⟩, by simp only [CTL3, OPS3, cast0, reduceIte, Nat.reduceEqDiff], by omega⟩
      intro ys hys
      rw [List.take_add_one, hx] at hys
      rcases List.mem_append.1 hys with q | q
      · exact hsm ys q
      · simp at q; subst q; exact ⟨by omega, hrs⟩
  have hi : i = xss.length := by omega
  subst hi
  rw [List.take_length] at hsm hts
  simp only [CTL3, OPS3, cast0, reduceIte, Nat.reduceEqDiff, law23_TraceRises_w, List.take_length]
  refine C3.q (Merge_spec (M := M) ha hr (by omega) (by omega) hone) fun w H3 hw => ?_
  have ha3 := ha.em hw.fr
  have hr3 := hr.em hw.fr
  have hml := merge_length xss
  have hws := hw.sl
  generalize hmg : merge xss = mg at hw hml hws
  simp only [CTL3, OPS3, cast0, reduceIte, Nat.reduceEqDiff, law23_TraceRises_w, hws.len, hml, ha3.len]
  refine LOOP3.intro (fun n E H4 => ∃ i, H4 = H3 ∧ E = [(0, a), (3, .bool true), (7, w), (76, .int .i64 vs.length), (77, .int .i64 (i : Nat))] ∧ n = vs.length - i ∧ i ≤ vs.length) ?_ ?_
  · exact ⟨_, _, ⟨0, rfl, rfl, rfl, by omega⟩, by simp only [CTL3, OPS3, cast0, reduceIte, Nat.reduceEqDiff]⟩
  rintro n E H4 ⟨i, rfl, rfl, rfl, hi⟩
  simp only [CTL3, OPS3, cast0, reduceIte, Nat.reduceEqDiff, law23_TraceRises_w]
  refine IF3.dec (fun hlt => ?_) (fun hge => ?_)
  · have hlt : i < vs.length := by omega
    obtain ⟨c, xs, hc, hx, hs⟩ := hr3.get (show i < xss.length by omega)
    have ew : wrapI .i64 ((i : Nat) + 1 : Int) = ((i + 1 : Nat) : Int) := wrap_i64 (by omega) (by omega)
    have hxl := (hsm xs (List.mem_of_getElem? hx)).1
    simp only [CTL3, OPS3, cast0, reduceIte, Nat.reduceEqDiff, law23_TraceRises_w, hws.len, hml]
    refine LOOP3.intro (fun n E H5 => ∃ k j, H5 = H4 ∧ E = [(0, a), (3, .bool true), (7, w), (76, .int .i64 vs.length), (77, .int .i64 (i : Nat)), (8, .int .i64 (i : Nat)), (81, .int .i64 (total xss : Nat)), (82, .int .i64 (k : Nat)), (9, .int .i64 (j : Nat))] ∧ n = total xss - k ∧ k ≤ total xss ∧ j ≤ xs.length ∧ (xs.drop j).Sublist (mg.drop k)) ?_ ?_
    · exact ⟨_, _, ⟨0, 0, rfl, rfl, rfl, by omega, by omega, by rw [← hmg]; exact merge_sub xss i xs hx⟩, by simp only [CTL3, OPS3, cast0, reduceIte, Nat.reduceEqDiff]⟩
    rintro m E H5 ⟨k, j, rfl, rfl, rfl, hk, hj, hsub⟩
    simp only [CTL3, OPS3, cast0, reduceIte, Nat.reduceEqDiff, law23_TraceRises_w]
    refine IF3.dec (fun hlt2 => ?_) (fun hge2 => ?_)
    · obtain ⟨y, hy⟩ : ∃ y, mg[k]? = some y := ⟨mg[k]'(by omega), by simp [hml, show k < total xss by omega]⟩
      have ek1 : wrapI .i64 ((k : Nat) + 1 : Int) = ((k + 1 : Nat) : Int) := wrap_i64 (by omega) (by omega)
      have ej1 : wrapI .i64 ((j : Nat) + 1 : Int) = ((j + 1 : Nat) : Int) := wrap_i64 (by omega) (by omega)
      obtain ⟨s1, s2⟩ := seek hsub hy
      by_cases hjl : j < xs.length
      · have e4 : ((j : Nat) : Int) < (xs.length : Nat) := by omega
        obtain ⟨x, hxj⟩ : ∃ x, xs[j]? = some x := ⟨xs[j], by simp [hjl]⟩
        by_cases hxy : y = x
        · simp only [CTL3, OPS3, cast0, reduceIte, Nat.reduceEqDiff, law23_TraceRises_w, ha3.idx hc rfl, ha3.load0 enc1_len hc (by omega), enc1, hs.len, e4, hws.idx hy rfl, hws.loadN Evt.len (by omega) hy, hs.idx hxj rfl, hs.loadN Evt.len (by omega) hxj, ev_e, hxy]
          exact ⟨_, _, ⟨k + 1, j + 1, rfl, rfl, by omega, by omega, s1 x hxj hxy.symm⟩, by simp only [CTL3, OPS3, cast0, reduceIte, Nat.reduceEqDiff, ek1, ej1], by omega⟩
        · simp only [CTL3, OPS3, cast0, reduceIte, Nat.reduceEqDiff, law23_TraceRises_w, ha3.idx hc rfl, ha3.load0 enc1_len hc (by omega), enc1, hs.len, e4, hws.idx hy rfl, hws.loadN Evt.len (by omega) hy, hs.idx hxj rfl, hs.loadN Evt.len (by omega) hxj, ev_e, hxy]
          exact ⟨_, _, ⟨k + 1, j, rfl, rfl, by omega, hj, s2 fun x' h => by rw [hxj] at h; injection h with h; subst h; exact fun q => hxy q.symm⟩, by simp only [CTL3, OPS3, cast0, reduceIte, Nat.reduceEqDiff, ek1], by omega⟩
      · have e4 : ¬ ((j : Nat) : Int) < (xs.length : Nat) := by omega
        simp only [CTL3, OPS3, cast0, reduceIte, Nat.reduceEqDiff, law23_TraceRises_w, ha3.idx hc rfl, ha3.load0 enc1_len hc (by omega), enc1, hs.len, e4]
        exact ⟨_, _, ⟨k + 1, j, rfl, rfl, by omega, hj, s2 fun x' h => by rw [List.getElem?_eq_none (by omega)] at h; cases h⟩, by simp only [CTL3, OPS3, cast0, reduceIte, Nat.reduceEqDiff, ek1], by omega⟩
    · have : xs.length ≤ j := by
        rw [List.drop_eq_nil_of_le (show mg.length ≤ k by omega)] at hsub
        have := List.sublist_nil.1 hsub
        exact List.drop_eq_nil_iff.1 this
      have hj : j = xs.length := by omega
      subst hj
      simp only [CTL3, OPS3, cast0, reduceIte, Nat.reduceEqDiff, law23_TraceRises_w, ha3.idx hc rfl, ha3.load0 enc1_len hc (by omega), enc1, hs.len, ew]
      exact ⟨_, _, ⟨i + 1, rfl, rfl, by omega⟩, by simp only [CTL3, OPS3, cast0, reduceIte, Nat.reduceEqDiff], by omega⟩
  simp only [CTL3, OPS3, cast0, reduceIte, Nat.reduceEqDiff, law23_TraceRises_w]
  have hrise : Rising mg := by rw [← hmg]; exact merge_rising xss fun xs hx => (hsm xs hx).2
  refine LOOP3.intro (fun n E H5 => ∃ k, H5 = H4 ∧ E = [(0, a), (3, .bool true), (7, w), (11, .int .i64 (k + 1 : Nat))] ∧ n = mg.length - k ∧ k ≤ mg.length) ?_ ?_
  · exact ⟨_, _, ⟨0, rfl, rfl, rfl, by omega⟩, by simp only [CTL3, OPS3, cast0, reduceIte, Nat.reduceEqDiff]; rfl⟩
  rintro m E H5 ⟨k, rfl, rfl, rfl, hk⟩
  simp only [CTL3, OPS3, cast0, reduceIte, Nat.reduceEqDiff, law23_TraceRises_w, hws.len]
  refine IF3.dec (fun hlt2 => ?_) (fun hge2 => ?_)
  · have hk1 : k + 1 < mg.length := by omega
    obtain ⟨x, hxk⟩ : ∃ x, mg[k]? = some x := ⟨mg[k], by simp [show k < mg.length by omega]⟩
    obtain ⟨y, hyk⟩ : ∃ y, mg[k + 1]? = some y := ⟨mg[k + 1], by simp [hk1]⟩
    have ek : wrapI .i64 (((k + 1 : Nat) : Int) - 1) = (k : Nat) := by rw [wrap_i64 (by omega) (by omega)]; omega
    have ek1 : wrapI .i64 (((k + 1 : Nat) : Int) + 1) = ((k + 1 + 1 : Nat) : Int) := wrap_i64 (by omega) (by omega)
    have e5 : ¬ y.time < x.time := by have := hrise.at hxk hyk; omega
    simp only [CTL3, OPS3, cast0, reduceIte, Nat.reduceEqDiff, law23_TraceRises_w, ek, hws.idx hxk rfl, hws.idx hyk rfl, hws.load1 Evt.len hxk (j := 1) (by omega), hws.load1 Evt.len hyk (j := 1) (by omega), Evt.enc, e5, ek1]
    exact ⟨_, _, ⟨k + 1, rfl, rfl, by omega⟩, by simp only [CTL3, OPS3, cast0, reduceIte, Nat.reduceEqDiff], by omega⟩
  · simp only [CTL3, OPS3, cast0, reduceIte, Nat.reduceEqDiff, law23_TraceRises_w]
end Go.Am
