/- Trd: MergeR TrD. -/
import Derived.Test.YtkfheegmlgfdoaaDoorAmTr
namespace Go.Am
set_option linter.unusedSimpArgs false
theorem bestU_first {xss : List (List Evt)} : ∀ {n j : Nat}, bestU xss n = some j → ∀ i, i < n → ∀ y u, xss[i]? = some (y :: u) → headT xss j < y.time ∨ j ≤ i
  | 0, j, h, i, hi => by omega
  | n + 1, j, h, i, hi => by
    intro y u hy
    rw [bestU] at h
    split at h
    · rename_i x t hx
      split at h
      · rename_i hb
        injection h with h; subst h
        rcases Nat.lt_succ_iff_lt_or_eq.1 hi with q | q
        · exact (bestU_none hb i q y u hy).elim
        · subst q; exact .inr (Nat.le_refl _)
      · rename_i k hb
        have hk := bestU_min hb
        have hf := bestU_first hb
        have hkn := (bestU_some hb).1
        split at h
        · rename_i hlt
          injection h with h; subst h
          have e : headT xss n = x.time := by unfold headT; rw [hx]
          rw [e]
          rcases Nat.lt_succ_iff_lt_or_eq.1 hi with q | q
          · have := hk i q y u hy; exact .inl (by omega)
          · subst q; exact .inr (Nat.le_refl _)
        · rename_i hge
          injection h with h; subst h
          rcases Nat.lt_succ_iff_lt_or_eq.1 hi with q | q
          · exact hf i q y u hy
          · exact .inr (by omega)
    · rename_i hn
      rcases Nat.lt_succ_iff_lt_or_eq.1 hi with q | q
      · exact bestU_first h i q y u hy
      · subst q; exact (hn y u hy).elim
theorem merge_parts {n : Nat} {key : Evt → Nat} : ∀ (h : List Evt), (∀ x ∈ h, key x < n) → h.Pairwise (fun x y => x.time < y.time ∨ x.time = y.time ∧ key x ≤ key y) →
    merge ((List.range n).map fun c => h.filter fun x => decide (key x = c)) = h
  | [], _, _ => by
    refine merge_end ?_
    refine best_none_total.2 ?_
    unfold total
    have : ∀ l : List Nat, ((l.map fun c => ([] : List Evt).filter fun x => decide (key x = c)).map List.length).sum = 0 := fun l => by
      induction l with
      | nil => rfl
      | cons a l ih => rw [List.map_cons, List.map_cons, List.sum_cons, ih]; rfl
    exact this _
  | x :: t, hk, hp => by
    obtain ⟨hx, ht⟩ := List.pairwise_cons.1 hp
    have hkx := hk x (by simp)
    let xss := (List.range n).map fun c => (x :: t).filter fun y => decide (key y = c)
    have hlen : xss.length = n := by simp [xss]
    have hget : ∀ c, c < n → xss[c]? = some ((x :: t).filter fun y => decide (key y = c)) := fun c hc => by simp [xss, hc]
    have hgx : xss[key x]? = some (x :: t.filter fun y => decide (key y = key x)) := by rw [hget _ hkx, List.filter_cons_of_pos (by simp)]
    have hb : bestU xss xss.length = some (key x) := by
      cases hb : bestU xss xss.length with
      | none => exact (bestU_none hb (key x) (by omega) x _ hgx).elim
      | some j =>
        obtain ⟨hj, y, u, hy⟩ := bestU_some hb
        have hmin := bestU_min hb (key x) (by omega) x _ hgx
        have hhead : headT xss j = y.time := by unfold headT; rw [hy]
        rw [hget j (by omega)] at hy
        injection hy with hy
        have hym : y ∈ (x :: t).filter fun y => decide (key y = j) := by rw [hy]; simp
        obtain ⟨h1, h2⟩ := List.mem_filter.1 hym
        have h2 : key y = j := by simpa using h2
        rcases List.mem_cons.1 h1 with rfl | h1
        · rw [h2]
        · rcases hx y h1 with q | ⟨q1, q2⟩
          · omega
          · rcases Nat.lt_or_ge (key x) (key y) with q | q
            · have := bestU_first hb (key x) (by omega) x _ hgx
              omega
            · congr 1; omega
    have hset : xss.set (key x) (t.filter fun y => decide (key y = key x)) = (List.range n).map fun c => t.filter fun y => decide (key y = c) := by
      refine List.ext_getElem? fun i => ?_
      rw [List.getElem?_set]
      by_cases hi : i < n
      · by_cases e : key x = i
        · subst e; simp [hlen, hi]
        · rw [if_neg e, hget i hi, List.filter_cons_of_neg (by simpa using e)]; simp [hi]
      · rw [if_neg (by omega), List.getElem?_eq_none (by omega), List.getElem?_eq_none (by simp; omega)]
    show merge xss = _
    rw [merge_step hb hgx, hset, merge_parts t (fun y hy => hk y (by simp [hy])) ht]
theorem filter_len3 (h : List Evt) (p q r : Evt → Bool) (hd : ∀ x, ¬ (p x = true ∧ q x = true) ∧ ¬ (p x = true ∧ r x = true) ∧ ¬ (q x = true ∧ r x = true)) :
    (h.filter p).length + (h.filter q).length + (h.filter r).length ≤ h.length ∧ ((h.filter p).length + (h.filter q).length + (h.filter r).length = h.length → ∀ x ∈ h, p x = true ∨ q x = true ∨ r x = true) := by
  induction h with
  | nil => simp
  | cons x t ih =>
    obtain ⟨h1, h2⟩ := ih
    obtain ⟨d1, d2, d3⟩ := hd x
    cases hp : p x <;> cases hq : q x <;> cases hr : r x <;> simp only [hp, hq, hr, and_self, and_true, and_false, not_true_eq_false, not_false_eq_true] at d1 d2 d3 <;>
      simp only [List.filter_cons, hp, hq, hr, if_true, if_false, List.length_cons, Bool.false_eq_true] <;>
      refine ⟨by omega, fun e y hy => ?_⟩ <;> rcases List.mem_cons.1 hy with rfl | hy <;> first | omega | (simp only [hp, hq, hr, Bool.false_eq_true, or_false, or_true, true_or]) | exact h2 (by omega) y hy
end Go.Am
namespace Go.Am
set_option linter.unusedVariables false
set_option linter.unusedSimpArgs false
set_option maxRecDepth 100000
variable {M : Mac} [MK M]
theorem Same_spec {H : AHeap} {a b : AV} {xs ys : List Evt} (ha : SlT Evt.enc 9 H a xs) (hb : SlT Evt.enc 9 H b ys) (hl : xs.length < 1000000) :
    CALLQ M N_ref23_Same [a, b] H fun v H' => v = .bool (decide (xs = ys)) ∧ H' = H := by
  refine ref23_Same_s ?_
  by_cases hne : xs.length = ys.length
  · have e0 : ¬ ((xs.length : Nat) : Int) ≠ (ys.length : Nat) := by omega
    simp only [CTL3, OPS3, cast0, reduceIte, Nat.reduceEqDiff, ref23_Same_w, ha.len, hb.len, hne]
    refine LOOP3.intro (fun n E H' => ∃ i, H' = H ∧ E = [(0, a), (1, b), (5, .int .i64 (i : Nat))] ∧ n = xs.length - i ∧ i ≤ xs.length ∧ ∀ j, j < i → xs[j]? = ys[j]?) ?_ ?_
    · exact ⟨_, _, ⟨0, rfl, rfl, rfl, by omega, fun j hj => by omega⟩, by simp only [CTL3, OPS3, cast0, reduceIte, Nat.reduceEqDiff]⟩
    rintro n E H' ⟨i, rfl, rfl, rfl, hi, hj⟩
    simp only [CTL3, OPS3, cast0, reduceIte, Nat.reduceEqDiff, ref23_Same_w, ha.len]
    refine IF3.dec (fun hlt => ?_) (fun hge => ?_)
    · have hlt : i < xs.length := by omega
      obtain ⟨x, hx⟩ : ∃ x, xs[i]? = some x := ⟨xs[i], by simp [hlt]⟩
      obtain ⟨y, hy⟩ : ∃ y, ys[i]? = some y := ⟨ys[i]'(by omega), by simp [show i < ys.length by omega]⟩
      have ew : wrapI .i64 ((i : Nat) + 1 : Int) = ((i + 1 : Nat) : Int) := wrap_i64 (by omega) (by omega)
      by_cases hxy : x = y
      · simp only [CTL3, OPS3, cast0, reduceIte, Nat.reduceEqDiff, ref23_Same_w, ha.idx hx rfl, hb.idx hy rfl, ha.loadN Evt.len (by omega) hx, hb.loadN Evt.len (by omega) hy, ev_ne, hxy, ew]
        refine ⟨_, _, ⟨i + 1, rfl, rfl, by omega, fun j hj' => ?_⟩, by simp only [CTL3, OPS3, cast0, reduceIte, Nat.reduceEqDiff], by omega⟩
        rcases Nat.lt_succ_iff_lt_or_eq.1 hj' with q | rfl
        · exact hj j q
        · rw [hx, hy, hxy]
      · simp only [CTL3, OPS3, cast0, reduceIte, Nat.reduceEqDiff, ref23_Same_w, ha.idx hx rfl, hb.idx hy rfl, ha.loadN Evt.len (by omega) hx, hb.loadN Evt.len (by omega) hy, ev_ne, hxy]
        have : xs ≠ ys := fun h => by subst h; rw [hx] at hy; injection hy with hy; exact hxy hy
        simp [this]
    · simp only [CTL3, OPS3, cast0, reduceIte, Nat.reduceEqDiff, ref23_Same_w]
      have : xs = ys := List.ext_getElem? fun j => by
        by_cases q : j < i
        · exact hj j q
        · rw [List.getElem?_eq_none (by omega), List.getElem?_eq_none (by omega)]
      simp [this]
  · have e0 : ((xs.length : Nat) : Int) ≠ (ys.length : Nat) := by omega
    simp only [CTL3, OPS3, cast0, reduceIte, Nat.reduceEqDiff, ref23_Same_w, ha.len, hb.len, e0]
    have : xs ≠ ys := fun h => hne (by rw [h])
    simp [this]
def RelW (H : AHeap) (W : Nat → Prop) (vs : List AV) (xss : List (List Evt)) : Prop := vs.length = xss.length ∧ ∀ (i : Nat) c xs, vs[i]? = some c → xss[i]? = some xs → SlT Evt.enc 9 H c xs ∧ (xs = [] ∨ slB c < H.next ∧ ¬ W (slB c))
theorem RelW.rel {H : AHeap} {W : Nat → Prop} {vs : List AV} {xss : List (List Evt)} (h : RelW H W vs xss) : RelS H vs xss := ⟨h.1, fun i c xs h1 h2 => (h.2 i c xs h1 h2).1⟩
theorem RelW.fr {H H' : AHeap} {W V : Nat → Prop} {vs : List AV} {xss : List (List Evt)} (h : RelW H W vs xss) (f : Fr V H H') (hv : ∀ b, V b → W b ∨ H.next ≤ b) : RelW H' W vs xss :=
  ⟨h.1, fun i c xs h1 h2 => by
    obtain ⟨q1, q2⟩ := h.2 i c xs h1 h2
    refine ⟨Sl.fr q1 f ?_, q2.imp id fun q => ⟨Nat.lt_of_lt_of_le q.1 f.next, q.2⟩⟩
    rcases q2 with rfl | ⟨q2, q3⟩
    · exact .inl rfl
    · exact .inr fun q => (hv _ q).elim q3 fun r => by omega⟩
theorem RelW.w {H : AHeap} {W W' : Nat → Prop} {vs : List AV} {xss : List (List Evt)} (h : RelW H W vs xss) (hw : ∀ b, b < H.next → W' b → W b) : RelW H W' vs xss :=
  ⟨h.1, fun i c xs h1 h2 => ⟨(h.2 i c xs h1 h2).1, (h.2 i c xs h1 h2).2.imp id fun q => ⟨q.1, fun r => q.2 (hw _ q.1 r)⟩⟩⟩
theorem RelW.nil (H : AHeap) (W : Nat → Prop) : RelW H W [] [] := ⟨rfl, fun i c xs h => by simp at h⟩
theorem RelW.snoc {H : AHeap} {W : Nat → Prop} {vs : List AV} {xss : List (List Evt)} {c : AV} {xs : List Evt} (h : RelW H W vs xss) (hc : SlT Evt.enc 9 H c xs) (hw : xs = [] ∨ slB c < H.next ∧ ¬ W (slB c)) : RelW H W (vs ++ [c]) (xss ++ [xs]) := by
  refine ⟨by rw [List.length_append, List.length_append, h.1]; rfl, fun i d ys h1 h2 => ?_⟩
  by_cases hi : i < vs.length
  · rw [List.getElem?_append_left hi] at h1
    rw [List.getElem?_append_left (by rw [← h.1]; exact hi)] at h2
    exact h.2 i d ys h1 h2
  · rw [List.getElem?_append_right (by omega)] at h1
    rw [List.getElem?_append_right (by have := h.1; omega)] at h2
    have e : i - vs.length = 0 := by have := (List.getElem?_eq_some_iff.1 h1).1; simp at this; omega
    have e2 : i - xss.length = 0 := by rw [← h.1]; exact e
    rw [e] at h1; rw [e2] at h2
    simp at h1 h2; subst h1; subst h2; exact ⟨hc, hw⟩
theorem NewE.apart {H0 H : AHeap} {v : AV} {xs : List Evt} (h : NewE H0 H v xs) {W : Nat → Prop} (hw : ∀ b, W b → b < H0.next) : xs = [] ∨ slB v < H.next ∧ ¬ W (slB v) := by
  by_cases hn : v = .nils
  · subst hn; exact .inl (List.length_eq_zero_iff.1 h.sl.2)
  · exact .inr ⟨Own.lt h.own _ ⟨hn, rfl⟩, fun q => by have := hw _ q; have := h.fresh _ ⟨hn, rfl⟩; omega⟩
def Ord2 (x y : Evt) : Prop := x.time < y.time ∨ x.time = y.time ∧ x.core ≤ y.core
theorem Ord2.trans {x y z : Evt} (h : Ord2 x y) (h' : Ord2 y z) : Ord2 x z := by unfold Ord2 at *; omega
theorem ord_of {l : List Evt} (h : ∀ (k : Nat) x y, l[k]? = some x → l[k + 1]? = some y → Ord2 x y) : l.Pairwise Ord2 := by
  induction l with
  | nil => exact List.Pairwise.nil
  | cons a l ih =>
    have hl := ih fun k x y h1 h2 => h (k + 1) x y h1 h2
    refine List.pairwise_cons.2 ⟨fun y hy => ?_, hl⟩
    cases l with
    | nil => cases hy
    | cons b l =>
      have hab := h 0 a b rfl rfl
      rcases List.mem_cons.1 hy with rfl | hy
      · exact hab
      · exact hab.trans ((List.pairwise_cons.1 hl).1 y hy)
theorem merge_cores {h : List Evt} (hb : ∀ x ∈ h, 0 ≤ x.core ∧ x.core < 4 ∧ 0 ≤ x.time) (ho : h.Pairwise Ord2) : merge ((List.range 4).map fun c : Nat => h.filter fun x : Evt => decide (x.core = ((c : Nat) : Int))) = h := by
  have := merge_parts (n := 4) (key := fun x => x.core.toNat) h (fun x hx => by have := hb x hx; omega) (List.Pairwise.imp_of_mem (fun {x y} hx hy q => by have := hb x hx; have := hb y hy; unfold Ord2 at q; omega) ho)
  have e : ((List.range 4).map fun c : Nat => h.filter fun x : Evt => decide (x.core = ((c : Nat) : Int))) = (List.range 4).map fun c => h.filter fun x => decide (x.core.toNat = c) :=
    List.map_congr_left fun c _ => List.filter_congr fun x hx => by
      have := hb x hx
      exact decide_eq_decide.2 ⟨fun q => by omega, fun q => by omega⟩
  rw [e, this]
theorem merge_times {h : List Evt} {t : Int} (hb : ∀ x ∈ h, 0 ≤ x.core ∧ x.core < 4 ∧ 0 ≤ x.time) (ho : h.Pairwise Ord2) (h0 : 0 ≤ t) (h1 : t ≤ 4611686018427387904)
    (hl : (h.filter fun x => decide (0 ≤ x.time ∧ x.time < t)).length + (h.filter fun x => decide (t ≤ x.time ∧ x.time < 4611686018427387904)).length + (h.filter fun x => decide (4611686018427387904 ≤ x.time ∧ x.time < 9223372036854775807)).length = h.length) :
    merge [h.filter fun x => decide (0 ≤ x.time ∧ x.time < t), h.filter fun x => decide (t ≤ x.time ∧ x.time < 4611686018427387904), h.filter fun x => decide (4611686018427387904 ≤ x.time ∧ x.time < 9223372036854775807)] = h := by
  have hall := (filter_len3 h (fun x => decide (0 ≤ x.time ∧ x.time < t)) (fun x => decide (t ≤ x.time ∧ x.time < 4611686018427387904)) (fun x => decide (4611686018427387904 ≤ x.time ∧ x.time < 9223372036854775807)) (fun x => by
    simp only [decide_eq_true_eq]; omega)).2 hl
  let key : Evt → Nat := fun x => if x.time < t then 0 else if x.time < 4611686018427387904 then 1 else 2
  have hk : ∀ x, key x = if x.time < t then 0 else if x.time < 4611686018427387904 then 1 else 2 := fun x => rfl
  have := merge_parts (n := 3) (key := key) h (fun x _ => by rw [hk]; (split; omega; (split <;> omega))) (List.Pairwise.imp_of_mem (fun {x y} hx hy q => by
    unfold Ord2 at q
    rw [hk, hk]
    rcases q with q | q
    · exact .inl q
    · refine .inr ⟨q.1, ?_⟩; rw [q.1]; exact Nat.le_refl _) ho)
  have e0 : (h.filter fun x => decide (key x = 0)) = h.filter fun x => decide (0 ≤ x.time ∧ x.time < t) := List.filter_congr fun x hx => decide_eq_decide.2 (by
    have := hb x hx; have := hk x
    constructor
    · intro q; rw [hk] at q; split at q
      · omega
      · split at q <;> omega
    · intro q; rw [hk, if_pos q.2])
  have e1 : (h.filter fun x => decide (key x = 1)) = h.filter fun x => decide (t ≤ x.time ∧ x.time < 4611686018427387904) := List.filter_congr fun x hx => decide_eq_decide.2 (by
    constructor
    · intro q; rw [hk] at q; split at q
      · omega
      · split at q <;> omega
    · intro q; rw [hk, if_neg (by omega), if_pos q.2])
  have e2 : (h.filter fun x => decide (key x = 2)) = h.filter fun x => decide (4611686018427387904 ≤ x.time ∧ x.time < 9223372036854775807) := List.filter_congr fun x hx => decide_eq_decide.2 (by
    have hx2 := hall x hx
    simp only [decide_eq_true_eq] at hx2
    constructor
    · intro q; rw [hk] at q; split at q
      · omega
      · split at q <;> omega
    · intro q; rw [hk, if_neg (by omega), if_neg (by omega)])
  have er : (List.range 3).map (fun c => h.filter fun x => decide (key x = c)) = [h.filter fun x => decide (key x = 0), h.filter fun x => decide (key x = 1), h.filter fun x => decide (key x = 2)] := rfl
  rw [er, e0, e1, e2] at this
  exact this
theorem build3 (e : Nat) (x y z : AV) (hx : x.cells = [x]) (hy : y.cells = [y]) (hz : z.cells = [z]) : Op.buildSlice e 3 [.nils] [(0, 1), (1, 1), (2, 1)] [x, y, z] = some (.row [x, y, z] e (0, 0) true, Op.sliceTo 3 3) := by
  simp [Op.buildSlice, repl, appL_eq, fillAt, lenL_eq, hx, hy, hz, putAt_eq, Op.sliceTo]
theorem SlT.cells1' {α : Type} {enc : α → List AV} {size : Nat} {H : AHeap} {v : AV} {xs : List α} (h : SlT enc size H v xs) : v.cells = [v] := by
  have := h.one
  cases v <;> first | rfl | cases this
theorem TraceMerged_law {H : AHeap} (hal : CALLQ M N_law23_alive [] H fun v H' => v = .bool true ∧ H' = H) {a : AV} {h : List Evt} {at' : Int} (ha : SlT Evt.enc 9 H a h) :
    CALLQ M N_law23_TraceMerged [a, .int .i64 at'] H fun v _ => v = .bool true := by
  refine law23_TraceMerged_s ?_
  simp only [CTL3, OPS3, cast0, reduceIte, Nat.reduceEqDiff, law23_TraceMerged_w]
  refine C3.q hal fun v H' ⟨hv, hH⟩ => ?_
  subst hv; subst hH
  by_cases hbig : 300 < h.length
  · have e0 : (300 : Int) < (h.length : Nat) := by omega
    simp only [CTL3, OPS3, cast0, reduceIte, Nat.reduceEqDiff, law23_TraceMerged_w, ha.len, e0]
  have e0 : ¬ (300 : Int) < (h.length : Nat) := by omega
  simp only [CTL3, OPS3, cast0, reduceIte, Nat.reduceEqDiff, law23_TraceMerged_w, ha.len, e0]
  refine LOOP3.intro (fun n E H2 => ∃ i, H2 = H' ∧ E = [(0, a), (1, .int .i64 at'), (5, .bool true), (26, .int .i64 h.length), (27, .int .i64 (i : Nat))] ∧ n = h.length - i ∧ i ≤ h.length ∧ (∀ x ∈ h.take i, 0 ≤ x.core ∧ x.core < 4 ∧ 0 ≤ x.time) ∧ ∀ (k : Nat) x y, k + 1 < i → h[k]? = some x → h[k + 1]? = some y → Ord2 x y) ?_ ?_
  · exact ⟨_, _, ⟨0, rfl, rfl, rfl, by omega, by simp, fun k x y q => by omega⟩, by simp only [CTL3, OPS3, cast0, reduceIte, Nat.reduceEqDiff]⟩
  rintro n E H2 ⟨i, rfl, rfl, rfl, hi, hbd, hor⟩
  simp only [CTL3, OPS3, cast0, reduceIte, Nat.reduceEqDiff, law23_TraceMerged_w]
  refine IF3.dec (fun hlt => ?_) (fun hge => ?_)
  · have hlt : i < h.length := by omega
    obtain ⟨x, hx⟩ : ∃ x, h[i]? = some x := ⟨h[i], by simp [hlt]⟩
    have ew : wrapI .i64 ((i : Nat) + 1 : Int) = ((i + 1 : Nat) : Int) := wrap_i64 (by omega) (by omega)
    have htk : h.take (i + 1) = h.take i ++ [x] := by rw [List.take_add_one, hx]; rfl
    by_cases b1 : x.core < 0
    · simp only [CTL3, OPS3, cast0, reduceIte, Nat.reduceEqDiff, law23_TraceMerged_w, ha.idx hx rfl, ha.load1 Evt.len hx (j := 2) (by omega), ha.load1 Evt.len hx (j := 1) (by omega), Evt.enc, b1]
    by_cases b2 : 4 ≤ x.core
    · simp only [CTL3, OPS3, cast0, reduceIte, Nat.reduceEqDiff, law23_TraceMerged_w, ha.idx hx rfl, ha.load1 Evt.len hx (j := 2) (by omega), ha.load1 Evt.len hx (j := 1) (by omega), Evt.enc, b1, b2]
    by_cases b3 : x.time < 0
    · simp only [CTL3, OPS3, cast0, reduceIte, Nat.reduceEqDiff, law23_TraceMerged_w, ha.idx hx rfl, ha.load1 Evt.len hx (j := 2) (by omega), ha.load1 Evt.len hx (j := 1) (by omega), Evt.enc, b1, b2, b3]
    have hbd' : ∀ y ∈ h.take (i + 1), 0 ≤ y.core ∧ y.core < 4 ∧ 0 ≤ y.time := fun y hy => by
      rw [htk] at hy
      rcases List.mem_append.1 hy with q | q
      · exact hbd y q
      · simp at q; subst q; omega
    cases i with
    | zero =>
      have c0 : ¬ (0 : Int) < 0 := by omega
      simp only [CTL3, OPS3, cast0, reduceIte, Nat.reduceEqDiff, law23_TraceMerged_w, ha.idx hx (z := 0) rfl, ha.load1 Evt.len hx (j := 2) (by omega), ha.load1 Evt.len hx (j := 1) (by omega), Evt.enc, b1, b2, b3, c0]
      exact ⟨_, _, ⟨1, rfl, rfl, by omega, hbd', fun k x y q => by omega⟩, by simp only [CTL3, OPS3, cast0, reduceIte, Nat.reduceEqDiff]; rfl, by omega⟩
    | succ i =>
      obtain ⟨y, hy⟩ : ∃ y, h[i]? = some y := ⟨h[i]'(by omega), by simp [show i < h.length by omega]⟩
      have c0 : (0 : Int) < ((i + 1 : Nat) : Int) := by omega
      have ek : wrapI .i64 (((i + 1 : Nat) : Int) - 1) = (i : Nat) := by rw [wrap_i64 (by omega) (by omega)]; omega
      by_cases d1 : x.time < y.time
      · simp only [CTL3, OPS3, cast0, reduceIte, Nat.reduceEqDiff, law23_TraceMerged_w, ha.idx hx rfl, ha.idx hy rfl, ek, ha.load1 Evt.len hx (j := 2) (by omega), ha.load1 Evt.len hx (j := 1) (by omega), ha.load1 Evt.len hy (j := 2) (by omega), ha.load1 Evt.len hy (j := 1) (by omega), Evt.enc, b1, b2, b3, c0, d1]
      have hor' : Ord2 y x → ∀ (k : Nat) u w, k + 1 < i + 1 + 1 → h[k]? = some u → h[k + 1]? = some w → Ord2 u w := fun ho k u w q h1 h2 => by
        by_cases e : k = i
        · subst e; rw [hy] at h1; rw [hx] at h2; injection h1 with h1; injection h2 with h2; subst h1; subst h2; exact ho
        · exact hor k u w (by omega) h1 h2
      by_cases d2 : x.time = y.time
      · by_cases d3 : x.core < y.core
        · simp only [CTL3, OPS3, cast0, reduceIte, Nat.reduceEqDiff, law23_TraceMerged_w, ha.idx hx rfl, ha.idx hy rfl, ek, ha.load1 Evt.len hx (j := 2) (by omega), ha.load1 Evt.len hx (j := 1) (by omega), ha.load1 Evt.len hy (j := 2) (by omega), ha.load1 Evt.len hy (j := 1) (by omega), Evt.enc, b1, b2, b3, c0, d1, d2, d3, (show ¬ y.time < 0 by omega), Int.lt_irrefl]
        · simp only [CTL3, OPS3, cast0, reduceIte, Nat.reduceEqDiff, law23_TraceMerged_w, ha.idx hx rfl, ha.idx hy rfl, ek, ha.load1 Evt.len hx (j := 2) (by omega), ha.load1 Evt.len hx (j := 1) (by omega), ha.load1 Evt.len hy (j := 2) (by omega), ha.load1 Evt.len hy (j := 1) (by omega), Evt.enc, b1, b2, b3, c0, d1, d2, d3, ew, (show ¬ y.time < 0 by omega), Int.lt_irrefl]
          exact ⟨_, _, ⟨i + 1 + 1, rfl, rfl, by omega, hbd', hor' (by unfold Ord2; omega)⟩, by simp only [CTL3, OPS3, cast0, reduceIte, Nat.reduceEqDiff], by omega⟩
      · simp only [CTL3, OPS3, cast0, reduceIte, Nat.reduceEqDiff, law23_TraceMerged_w, ha.idx hx rfl, ha.idx hy rfl, ek, ha.load1 Evt.len hx (j := 2) (by omega), ha.load1 Evt.len hx (j := 1) (by omega), ha.load1 Evt.len hy (j := 2) (by omega), ha.load1 Evt.len hy (j := 1) (by omega), Evt.enc, b1, b2, b3, c0, d1, d2, ew]
        exact ⟨_, _, ⟨i + 1 + 1, rfl, rfl, by omega, hbd', hor' (by unfold Ord2; omega)⟩, by simp only [CTL3, OPS3, cast0, reduceIte, Nat.reduceEqDiff], by omega⟩
  have hi : i = h.length := by omega
  subst hi
  rw [List.take_length] at hbd
  have hord := ord_of fun k x y h1 h2 => hor k x y (List.getElem?_eq_some_iff.1 h2).1 h1 h2
  simp only [CTL3, OPS3, cast0, reduceIte, Nat.reduceEqDiff, law23_TraceMerged_w]
  let parts : Nat → List (List Evt) := fun n => (List.range n).map fun c : Nat => h.filter fun x : Evt => decide (x.core = ((c : Nat) : Int))
  have hparts : ∀ n, parts (n + 1) = parts n ++ [h.filter fun x : Evt => decide (x.core = ((n : Nat) : Int))] := fun n => by simp [parts, List.range_succ]
  have hpl : ∀ n, (parts n).length = n := fun n => by simp [parts]
  refine LOOP3.intro (fun n E H3 => ∃ (c : Nat) (vl : AV) (vs : List AV), E = [(0, a), (1, .int .i64 at'), (5, .bool true), (7, vl), (8, .int .i64 (c : Nat))] ∧ n = 4 - c ∧ c ≤ 4 ∧ New enc1 T__6 1 H2 H3 vl vs ∧ RelW H3 (OnS vl) vs (parts c)) ?_ ?_
  · exact ⟨_, _, ⟨0, .nils, [], rfl, rfl, by omega, New.nil H2, RelW.nil _ _⟩, by simp only [CTL3, OPS3, cast0, reduceIte, Nat.reduceEqDiff]⟩
  rintro n E H3 ⟨c, vl, vs, rfl, rfl, hc4, hvl, hrw⟩
  have hvlen : vs.length = c := by rw [hrw.1, hpl]
  simp only [CTL3, OPS3, cast0, reduceIte, Nat.reduceEqDiff, law23_TraceMerged_w]
  by_cases hc : c < 4
  · have hcI : ((c : Nat) : Int) < 4 := by omega
    have ew : wrapI .i64 ((c : Nat) + 1 : Int) = ((c + 1 : Nat) : Int) := wrap_i64 (by omega) (by omega)
    simp only [CTL3, OPS3, cast0, reduceIte, Nat.reduceEqDiff, law23_TraceMerged_w, hcI]
    refine C3.q (Of_spec (M := M) (c : Nat) (ha.em hvl.fr) (by omega)) fun w H4 hw => ?_
    have hvl4 := hvl.em hw.fr
    simp only [CTL3, OPS3, cast0, reduceIte, Nat.reduceEqDiff, law23_TraceMerged_w]
    refine hvl4.app3 (bytes := 24) (a := w) hw.sl.cells1' rfl rfl (by rw [allOne_eq]; simpa [enc1] using hw.sl.one) (by omega) (by omega) (by omega) fun vl' H5 hvl' hf hfr => ?_
    simp only [CTL3, OPS3, cast0, reduceIte, Nat.reduceEqDiff, law23_TraceMerged_w, ew]
    refine ⟨_, _, ⟨c + 1, vl', vs ++ [w], rfl, rfl, by omega, hvl', ?_⟩, by simp only [CTL3, OPS3, cast0, reduceIte, Nat.reduceEqDiff], by omega⟩
    rw [hparts]
    have h1 : RelW H4 (fun b => OnS vl b ∨ OnS vl' b) vs (parts c) := (hrw.fr hw.fr (fun b q => q.elim)).w fun b hb q => q.elim id fun q => (hfr b q).elim id fun r => by omega
    have h2 : RelW H4 (fun b => OnS vl b ∨ OnS vl' b) (vs ++ [w]) (parts c ++ [h.filter fun x : Evt => decide (x.core = ((c : Nat) : Int))]) := by
      refine h1.snoc hw.sl ?_
      by_cases hn : w = .nils
      · subst hn; exact .inl (List.length_eq_zero_iff.1 hw.sl.2)
      · have hlt := Own.lt hw.own _ ⟨hn, rfl⟩
        have hfr2 := hw.fresh _ ⟨hn, rfl⟩
        refine .inr ⟨hlt, fun q => ?_⟩
        have hno : ∀ b, OnS vl b → b < H3.next := fun b q => Own.lt hvl.own b q
        rcases q with q | q
        · have := hno _ q; omega
        · rcases hfr _ q with q | q
          · have := hno _ q; omega
          · omega
    exact (h2.fr hf fun b q => .inl (.inl q)).w fun b _ q => .inr q
  have hcI : ¬ ((c : Nat) : Int) < 4 := by omega
  have hc : c = 4 := by omega
  subst hc
  simp only [CTL3, OPS3, cast0, reduceIte, Nat.reduceEqDiff, law23_TraceMerged_w, hcI]
  have hmc := merge_cores hbd hord
  have hone : ∀ v ∈ vs, oneCell v = true := fun v hv => by
    obtain ⟨i, hi, e⟩ := List.mem_iff_getElem.1 hv
    obtain ⟨d, ys, g1, _, g3⟩ := hrw.rel.get (show i < (parts 4).length by rw [hpl]; omega)
    rw [List.getElem?_eq_getElem hi] at g1; injection g1 with g1; rw [← e, g1]; exact g3.one
  have hpt : total (parts 4) = h.length := by rw [← merge_length]; exact congrArg List.length hmc
  refine C3.q (Merge_spec (M := M) hvl.sl hrw.rel (by rw [hpl]; omega) (by omega) hone) fun w1 H4 hw1 => ?_
  have hw1 : NewE H3 H4 w1 h := by rw [show merge (parts 4) = h from hmc] at hw1; exact hw1
  have ha4 := (ha.em hvl.fr).em hw1.fr
  simp only [CTL3, OPS3, cast0, reduceIte, Nat.reduceEqDiff, law23_TraceMerged_w]
  refine C3.q (Between_spec (M := M) 0 at' ha4 (by omega)) fun p1 H5 hp1 => ?_
  simp only [CTL3, OPS3, cast0, reduceIte, Nat.reduceEqDiff, law23_TraceMerged_w]
  have ha5 := ha4.em hp1.fr
  refine C3.q (Between_spec (M := M) at' 4611686018427387904 ha5 (by omega)) fun p2 H6 hp2 => ?_
  simp only [CTL3, OPS3, cast0, reduceIte, Nat.reduceEqDiff, law23_TraceMerged_w]
  have ha6 := ha5.em hp2.fr
  refine C3.q (Between_spec (M := M) 4611686018427387904 9223372036854775807 ha6 (by omega)) fun p3 H7 hp3 => ?_
  have ha7 := ha6.em hp3.fr
  have g1 := (hp1.sl.em hp2.fr).em hp3.fr
  have g2 := hp2.sl.em hp3.fr
  have g3 := hp3.sl
  have l1 : (h.filter fun x => decide (0 ≤ x.time ∧ x.time < at')).length ≤ h.length := List.length_filter_le _ _
  have l2 : (h.filter fun x => decide (at' ≤ x.time ∧ x.time < 4611686018427387904)).length ≤ h.length := List.length_filter_le _ _
  have l3 : (h.filter fun x => decide (4611686018427387904 ≤ x.time ∧ x.time < 9223372036854775807)).length ≤ h.length := List.length_filter_le _ _
  have mt := fun q1 q2 => merge_times (t := at') hbd hord q1 q2
  generalize hf1 : (h.filter fun x => decide (0 ≤ x.time ∧ x.time < at')) = f1 at *
  generalize hf2 : (h.filter fun x => decide (at' ≤ x.time ∧ x.time < 4611686018427387904)) = f2 at *
  generalize hf3 : (h.filter fun x => decide (4611686018427387904 ≤ x.time ∧ x.time < 9223372036854775807)) = f3 at *
  have ed : wrapI .i64 (wrapI .i64 (wrapI .i64 ((h.length : Nat) - (f1.length : Nat) : Int) - (f2.length : Nat)) - (f3.length : Nat)) = (h.length : Nat) - (f1.length : Nat) - (f2.length : Nat) - (f3.length : Nat) := by
    rw [wrap_i64 (n := ((h.length : Nat) - (f1.length : Nat) : Int)) (by omega) (by omega), wrap_i64 (n := (h.length : Nat) - (f1.length : Nat) - (f2.length : Nat)) (by omega) (by omega), wrap_i64 (by omega) (by omega)]
  simp only [CTL3, OPS3, cast0, reduceIte, Nat.reduceEqDiff, law23_TraceMerged_w, ha7.len, g1.len, g2.len, g3.len, ed, build3 T__6 p1 p2 p3 g1.cells1' g2.cells1' g3.cells1']
  have hfa : Fr Em H7 (H7.alloc (.row [p1, p2, p3] T__6 (0, 0) true)) := (Fr.refl H7).alloc _
  have hsl3 : SlT enc1 1 (H7.alloc (.row [p1, p2, p3] T__6 (0, 0) true)) (Op.sliceTo 3 3 H7.next) [p1, p2, p3] := RowT.sl enc1_len (e := T__6) ⟨H7.next, rfl, by rw [alloc_next]; omega, get_alloc_new _ _⟩
  have hrel3 : RelS (H7.alloc (.row [p1, p2, p3] T__6 (0, 0) true)) [p1, p2, p3] [f1, f2, f3] := by
    refine ⟨rfl, fun i d ys q1 q2 => ?_⟩
    match i with
    | 0 => simp at q1 q2; subst q1; subst q2; exact g1.em hfa
    | 1 => simp at q1 q2; subst q1; subst q2; exact g2.em hfa
    | 2 => simp at q1 q2; subst q1; subst q2; exact g3.em hfa
    | i + 3 => simp at q1
  have ht3 : total [f1, f2, f3] = f1.length + f2.length + f3.length := by simp [total]; omega
  refine C3.q (Merge_spec (M := M) hsl3 hrel3 (by simp) (by omega) fun v hv => ?_) fun w2 H8 hw2 => ?_
  · simp at hv; rcases hv with rfl | rfl | rfl
    · exact g1.one
    · exact g2.one
    · exact g3.one
  have hf48 : Fr Em H4 H8 := (((hp1.fr.em hp2.fr).em hp3.fr).em hfa).em hw2.fr
  have hs1 := hw1.sl.em hf48
  have ha8 := ha4.em hf48
  have hml : (merge [f1, f2, f3]).length < 1000000 := by have := merge_len [f1, f2, f3]; omega
  by_cases c1 : at' < 0
  · simp only [CTL3, OPS3, cast0, reduceIte, Nat.reduceEqDiff, law23_TraceMerged_w, c1]
    refine C3.q (Same_spec (M := M) hs1 ha8 (by omega)) fun v H9 ⟨q1, q2⟩ => ?_
    subst q1; subst q2
    simp only [CTL3, OPS3, cast0, reduceIte, Nat.reduceEqDiff, law23_TraceMerged_w]
  by_cases c2 : 4611686018427387904 < at'
  · simp only [CTL3, OPS3, cast0, reduceIte, Nat.reduceEqDiff, law23_TraceMerged_w, c1, c2]
    refine C3.q (Same_spec (M := M) hs1 ha8 (by omega)) fun v H9 ⟨q1, q2⟩ => ?_
    subst q1; subst q2
    simp only [CTL3, OPS3, cast0, reduceIte, Nat.reduceEqDiff, law23_TraceMerged_w]
  by_cases c3 : ((h.length : Nat) : Int) - (f1.length : Nat) - (f2.length : Nat) - (f3.length : Nat) = 0
  · simp only [CTL3, OPS3, cast0, reduceIte, Nat.reduceEqDiff, law23_TraceMerged_w, c1, c2, c3]
    refine C3.q (Same_spec (M := M) hs1 ha8 (by omega)) fun v H9 ⟨q1, q2⟩ => ?_
    subst q1; subst q2
    simp only [CTL3, OPS3, cast0, reduceIte, Nat.reduceEqDiff, law23_TraceMerged_w]
    rw [mt (by omega) (by omega) (by omega)] at hw2
    refine C3.q (Same_spec (M := M) hw2.sl ha8 (by omega)) fun v H9 ⟨q1, q2⟩ => ?_
    subst q1; subst q2
    simp only [CTL3, OPS3, cast0, reduceIte, Nat.reduceEqDiff, law23_TraceMerged_w]
  · simp only [CTL3, OPS3, cast0, reduceIte, Nat.reduceEqDiff, law23_TraceMerged_w, c1, c2, c3]
    refine C3.q (Same_spec (M := M) hs1 ha8 (by omega)) fun v H9 ⟨q1, q2⟩ => ?_
    subst q1; subst q2
    simp only [CTL3, OPS3, cast0, reduceIte, Nat.reduceEqDiff, law23_TraceMerged_w]
end Go.Am
