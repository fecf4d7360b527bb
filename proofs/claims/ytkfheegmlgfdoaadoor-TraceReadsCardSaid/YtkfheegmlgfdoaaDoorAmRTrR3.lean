/- TrR3: RdD RdE RdF RdG RdH. -/
import Derived.Test.YtkfheegmlgfdoaaDoorAmRCodeR
import Derived.Test.YtkfheegmlgfdoaaDoorAmRTrR0
import Derived.Test.YtkfheegmlgfdoaaDoorAmRTrR2
set_option linter.unusedVariables false
set_option linter.unusedSimpArgs false
set_option linter.unusedSectionVars false
set_option maxRecDepth 100000
namespace Go.Am
open Tr
variable {M : Mac} [MK M]
def ixB (c : UInt8) (s : B) : Int := match wo c s 0 with
  | some i => i
  | none => -1
def Pu (r : AV) (H : AHeap) (v : AV) (H' : AHeap) : Prop := v = r ∧ H' = H
theorem qyg (x c : UInt8) : eqB x c = decide (x = c) := by
  rw [qt6]; by_cases h : x = c <;> simp [h]
theorem qvj (c x : UInt8) (l : B) (i : Nat) : wo c (x :: l) i = if x = c then some i else wo c l (i + 1) := by
  rw [wo, qyg]; by_cases h : x = c <;> simp [h]
theorem qjn {c : UInt8} : ∀ {s : B} {k j : Nat}, wo c s k = some j → ∃ w r, s = w ++ c :: r ∧ c ∉ w ∧ j = k + w.length
  | [], k, j, h => by simp [wo] at h
  | x :: l, k, j, h => by
    rw [qvj] at h
    split at h
    · rename_i hx; injection h with h; subst hx; exact ⟨[], l, rfl, by simp, by simp [h]⟩
    · rename_i hx
      obtain ⟨w, r, h1, h2, h3⟩ := qjn h
      exact ⟨x :: w, r, by rw [h1]; rfl, by simp [h2, Ne.symm hx], by simp; omega⟩
theorem qn8 {c : UInt8} : ∀ {s : B} {k : Nat}, wo c s k = none → c ∉ s
  | [], k, h => by simp
  | x :: l, k, h => by
    rw [qvj] at h
    split at h
    · cases h
    · rename_i hx; simp [Ne.symm hx, qn8 h]
theorem qw7 {c : UInt8} {w r : B} (h : c ∉ w) : ixB c (w ++ c :: r) = (w.length : Nat) := by
  unfold ixB
  cases q : wo c (w ++ c :: r) 0 with
  | none => exact absurd (by simp) (qn8 q)
  | some j =>
    obtain ⟨w', r', h1, h2, h3⟩ := qjn q
    have : w = w' := by
      have e := qeb c r w h
      have e' := qeb c r' w' h2
      rw [← h1, e] at e'
      exact (List.cons.inj e').1
    subst this
    show ((j : Nat) : Int) = _
    omega
theorem ix_none {c : UInt8} {s : B} (h : c ∉ s) : ixB c s = -1 := by
  unfold ixB
  cases q : wo c s 0 with
  | none => rfl
  | some j => obtain ⟨w, r, h1, -, -⟩ := qjn q; exact absurd (by rw [h1]; simp) h
theorem qog {c : UInt8} {s : B} (h : c ∈ s) : ∃ w r, s = w ++ c :: r ∧ c ∉ w := by
  cases q : wo c s 0 with
  | none => exact absurd h (qn8 q)
  | some j => obtain ⟨w, r, h1, h2, -⟩ := qjn q; exact ⟨w, r, h1, h2⟩
theorem qbr (c : UInt8) : ∀ (s : B), countB c s + 1 = (splitB c s).length
  | [] => rfl
  | x :: l => by
    have ih := qbr c l
    rw [countB, qyg, splitB]
    by_cases h : x = c
    · simp [h, ih]
    · simp only [h, decide_false, cond_false, if_false]
      cases q : splitB c l with
      | nil => exact absurd q (qfn c l)
      | cons w ws => rw [q] at ih; simpa using ih
theorem o_ixB (s : B) (c : UInt8) : Op.indexByteString [.str s, .int .u8 c.toNat] = some (.int .i64 (ixB c s)) := by
  have e : UInt8.ofNat ((c.toNat : Nat) : Int).toNat = c := by simp
  simp only [Op.indexByteString, e, goIntV, ixB]; rfl
theorem o_cntB (s : B) (c : UInt8) : Op.countString [.str s, .int .u8 c.toNat] = some (.int .i64 (countB c s : Nat)) := by
  have e : UInt8.ofNat ((c.toNat : Nat) : Int).toNat = c := by simp
  simp only [Op.countString, e, goIntV]; rfl
theorem o_ix0 (c : UInt8) : Op.indexStr [.str [c], .int .i64 0] = some (.int .u8 c.toNat) := vv (i := 0) rfl rfl
theorem qgp {H : AHeap} {s : B} {c : UInt8} : CALLQ M xe [.str s, .int .u8 c.toNat] H (Pu (.int .i64 (ixB c s)) H) := by
  refine qbm ?_
  simp only [↓JN_eq, CTL3, OPS3, cast0, reduceIte, Nat.reduceEqDiff, qbp, o_ixB]
  exact ⟨rfl, rfl⟩
theorem qqm {H : AHeap} {s : B} {c : UInt8} : CALLQ M zl [.str s, .int .u8 c.toNat] H (Pu (.int .i64 (ixB c s)) H) := by
  refine qjd ?_
  simp only [↓JN_eq, CTL3, OPS3, cast0, reduceIte, Nat.reduceEqDiff, qeh]
  refine C3.q (qgp (M := M)) fun v H' ⟨hv, hH⟩ => ?_
  subst hv; subst hH
  simp only [↓JN_eq, CTL3, OPS3, cast0, reduceIte, Nat.reduceEqDiff, qeh]
  exact ⟨rfl, rfl⟩
theorem q0y {H : AHeap} {s : B} {c : UInt8} : CALLQ M kr [.str s, .str [c]] H (Pu (.int .i64 (ixB c s)) H) := by
  refine qnj ?_
  simp only [↓JN_eq, CTL3, OPS3, cast0, reduceIte, Nat.reduceEqDiff, qhb]
  have h1 : CALLQ M xk [.str s, .str [c]] H (Pu (.int .i64 (ixB c s)) H) := by
    refine qc6 ?_
    have hl : Op.lenStr [.str [c]] = some (.int .i64 1) := rfl
    obtain ⟨w0, w4, -⟩ := qdn M ⟨none, xk⟩
    by_cases hs : [c] = s
    · subst hs
      simp only [↓JN_eq, CTL3, OPS3, cast0, reduceIte, Nat.reduceEqDiff, w0, w4, hl, Int.reduceEq]
      exact ⟨by rw [show ixB c [c] = 0 from qw7 (w := []) (r := []) (by simp)], rfl⟩
    · simp only [↓JN_eq, CTL3, OPS3, cast0, reduceIte, Nat.reduceEqDiff, w0, w4, hl, Int.reduceEq, hs, o_ix0]
      refine C3.q (qgp (M := M)) fun v H' ⟨hv, hH⟩ => ?_
      subst hv; subst hH
      simp only [↓JN_eq, CTL3, OPS3, cast0, reduceIte, Nat.reduceEqDiff]
      exact ⟨rfl, rfl⟩
  refine C3.q h1 fun v H' ⟨hv, hH⟩ => ?_
  subst hv; subst hH
  simp only [↓JN_eq, CTL3, OPS3, cast0, reduceIte, Nat.reduceEqDiff, qhb]
  exact ⟨rfl, rfl⟩
theorem q0z {H : AHeap} {s : B} {c : UInt8} : CALLQ M ko [.str s, .str [c]] H (Pu (.int .i64 (countB c s : Nat)) H) := by
  refine qnh ?_
  have hl : Op.lenStr [.str [c]] = some (.int .i64 1) := rfl
  simp only [↓JN_eq, CTL3, OPS3, cast0, reduceIte, Nat.reduceEqDiff, qpi, hl, Int.reduceEq, o_ix0, o_cntB]
  exact ⟨rfl, rfl⟩
theorem qiz {H : AHeap} {s t : B} (hl : s.length < 1000000) (ht : t.length < 1000000) : CALLQ M xd [.str s, .str t] H (Pu (.bool (decide (t.length ≤ s.length ∧ s.drop (s.length - t.length) = t))) H) := by
  refine qbo ?_
  by_cases h : t.length ≤ s.length
  · have h1 : ((t.length : Nat) : Int) ≤ (s.length : Nat) := by omega
    have w : wrapI .i64 (((s.length : Nat) : Int) - (t.length : Nat)) = ((s.length - t.length : Nat) : Int) := by rw [xc (by omega) (by omega)]; omega
    simp only [↓JN_eq, CTL3, OPS3, cast0, reduceIte, Nat.reduceEqDiff, yn, h1, w, qgk (Nat.sub_le _ _)]
    exact ⟨by simp [h], rfl⟩
  · have h1 : ¬ ((t.length : Nat) : Int) ≤ (s.length : Nat) := by omega
    simp only [↓JN_eq, CTL3, OPS3, cast0, reduceIte, Nat.reduceEqDiff, yn, h1]
    exact ⟨by simp [h], rfl⟩
theorem qon {H : AHeap} {s t : B} (hl : s.length < 1000000) (ht : t.length < 1000000) : CALLQ M zx [.str s, .str t] H (Pu (.str (if t.length ≤ s.length ∧ s.drop (s.length - t.length) = t then s.take (s.length - t.length) else s)) H) := by
  refine qic ?_
  simp only [↓JN_eq, CTL3, OPS3, cast0, reduceIte, Nat.reduceEqDiff, qcz]
  have h1 : CALLQ M xh [.str s, .str t] H (Pu (.str (if t.length ≤ s.length ∧ s.drop (s.length - t.length) = t then s.take (s.length - t.length) else s)) H) := by
    refine qbc ?_
    simp only [↓JN_eq, CTL3, OPS3, cast0, reduceIte, Nat.reduceEqDiff, ju]
    refine C3.q (qiz (M := M) hl ht) fun v H' ⟨hv, hH⟩ => ?_
    subst hv; subst hH
    by_cases h : t.length ≤ s.length ∧ s.drop (s.length - t.length) = t
    · have w : wrapI .i64 (((s.length : Nat) : Int) - (t.length : Nat)) = ((s.length - t.length : Nat) : Int) := by have := h.1; rw [xc (by omega) (by omega)]; omega
      simp only [↓JN_eq, CTL3, OPS3, cast0, reduceIte, Nat.reduceEqDiff, ju, decide_eq_true h, w, qjb (Nat.sub_le _ _)]
      exact ⟨by rw [if_pos h], rfl⟩
    · simp only [↓JN_eq, CTL3, OPS3, cast0, reduceIte, Nat.reduceEqDiff, ju, decide_eq_false h]
      exact ⟨by rw [if_neg h], rfl⟩
  refine C3.q h1 fun v H' ⟨hv, hH⟩ => ?_
  subst hv; subst hH
  simp only [↓JN_eq, CTL3, OPS3, cast0, reduceIte, Nat.reduceEqDiff, qcz]
  exact ⟨rfl, rfl⟩
theorem qpa {H : AHeap} {s t : B} (hl : s.length < 1000000) (ht : t.length < 1000000) : CALLQ M jf [.str s, .str t] H (Pu (.bool (decide (t.length ≤ s.length ∧ s.drop (s.length - t.length) = t))) H) := by
  refine qi2 ?_
  simp only [↓JN_eq, CTL3, OPS3, cast0, reduceIte, Nat.reduceEqDiff, qed]
  refine C3.q (qiz (M := M) hl ht) fun v H' ⟨hv, hH⟩ => ?_
  subst hv; subst hH
  simp only [↓JN_eq, CTL3, OPS3, cast0, reduceIte, Nat.reduceEqDiff, qed]
  exact ⟨rfl, rfl⟩
def SpQ (H : AHeap) (ws : List B) (v : AV) (H' : AHeap) : Prop := Fr Em H H' ∧ SlT encS 1 H' v ws
theorem qzm {c : UInt8} {s : B} (h : (splitB c s).length = 1) : splitB c s = [s] := by
  by_cases hc : c ∈ s
  · obtain ⟨w, r, rfl, hw⟩ := qog hc
    rw [qeb c r w hw] at h
    have := qfn c r
    cases q : splitB c r with
    | nil => exact absurd q this
    | cons a l => rw [q] at h; simp at h
  · exact qhk c s hc
theorem qy5 {α : Type} {xs : List α} {i : Nat} (h : i < xs.length) (w : α) : (xs.set i w).take (i + 1) = xs.take i ++ [w] := by
  rw [List.take_add_one, List.getElem?_set_self h, List.take_set, List.set_eq_of_length_le (by simp; omega)]; rfl
theorem qh7 (c : UInt8) : ∀ (s : B), countB c s ≤ s.length
  | [] => Nat.le_refl _
  | x :: l => by
    have ih := qh7 c l
    rw [countB, qyg]
    by_cases h : x = c <;> simp [h] <;> omega
theorem qy3 (x : AV) : ∀ n : Nat, repl n [x] = List.replicate n x
  | 0 => rfl
  | n + 1 => by rw [repl, kv, qy3 x n, List.replicate_succ]; rfl
theorem qrz {H : AHeap} {s : B} {c : UInt8} (hl : s.length < 1000000) : CALLQ M jt [.str s, .str [c], .int .i64 0, .int .i64 (-1)] H (SpQ H (splitB c s)) := by
  refine qj2 ?_
  have hcs := qbr c s
  obtain ⟨n, hnn⟩ : ∃ n, n = (splitB c s).length := ⟨_, rfl⟩
  rw [← hnn] at hcs
  have hn : n ≤ s.length + 1 := by
    have := qh7 c s
    omega
  have hne : ¬ ([c] : B) = [] := by simp
  have w1 : wrapI .i64 (((countB c s : Nat) : Int) + 1) = ((n : Nat) : Int) := by rw [xc (by omega) (by omega)]; omega
  have w2 : wrapI .i64 (((s.length : Nat) : Int) + 1) = ((s.length + 1 : Nat) : Int) := by rw [xc (by omega) (by omega)]; omega
  have mm : Op.minmax false [.int .i64 ((n : Nat) : Int), .int .i64 ((s.length + 1 : Nat) : Int)] = some (.int .i64 ((n : Nat) : Int)) := by
    simp only [Op.minmax, Op.minmaxGo, Option.bind_some, cond_false, qfe, show ¬ ((s.length + 1 : Nat) : Int) < (n : Nat) by omega, decide_false]
  have w3 : wrapI .i64 (((n : Nat) : Int) - 1) = ((n - 1 : Nat) : Int) := by rw [xc (by omega) (by omega)]; omega
  simp only [↓JN_eq, CTL3, OPS3, cast0, reduceIte, Nat.reduceEqDiff, k8, Int.reduceEq, hne, Int.reduceLT]
  refine C3.q (q0z (M := M)) fun v H' ⟨hv, hH⟩ => ?_
  subst hv; subst hH
  simp only [↓JN_eq, CTL3, OPS3, cast0, reduceIte, Nat.reduceEqDiff, k8, w1, w2, mm, qu5 qm 16 [.str []] n .i64 .i64 (by omega) (by omega), w3]
  have hf0 : Fr Em H' (H'.alloc (.row (repl n [.str []]) qm (0, 0) true)) := (Fr.refl H').alloc _
  have hrow : RowT encS qm 1 (H'.alloc (.row (repl n [.str []]) qm (0, 0) true)) (.slice H'.next 0 n n) (List.replicate n ([] : B)) := by
    refine ⟨H'.next, by rw [List.length_replicate], by rw [z6]; omega, ?_⟩
    rw [qn, qy3, qhe, List.map_replicate]
  have hrl : (List.replicate n ([] : B)).length = n := List.length_replicate ..
  refine LOOP3.intro (fun m E Hx => ∃ i xs r, E = [(10, .int .i64 (i : Nat)), (9, .slice H'.next 0 n n), (3, .int .i64 ((n - 1 : Nat) : Int)), (2, .int .i64 0), (1, .str [c]), (0, .str r)] ∧ m = n - i ∧ i < n ∧ xs.length = n ∧ r.length ≤ s.length ∧ RowT encS qm 1 Hx (.slice H'.next 0 n n) xs ∧ Fr Em H' Hx ∧ xs.take i ++ splitB c r = splitB c s) ?_ ?_
  · exact ⟨_, _, ⟨0, _, s, rfl, rfl, by omega, hrl, Nat.le_refl _, hrow, hf0, by simp⟩, by simp only [↓JN_eq, CTL3, OPS3, cast0, reduceIte, Nat.reduceEqDiff]; rfl⟩
  rintro m E Hx ⟨i, xs, r, rfl, rfl, hi, hxl, hrs, hrw, hfr, hsp⟩
  have hlen := congrArg List.length hsp
  rw [List.length_append, List.length_take, Nat.min_eq_left (by omega), ← hnn] at hlen
  have hsl := hrw.sl kh
  have wi : wrapI .i64 ((i : Int) + 1) = ((i + 1 : Nat) : Int) := by rw [xc (by omega) (by omega)]; omega
  obtain ⟨x, hx⟩ : ∃ x, xs[i]? = some x := ⟨xs[i], by simp [hxl, hi]⟩
  by_cases hlt : i < n - 1
  · have e1 : (i : Int) < ((n - 1 : Nat) : Int) := by omega
    have hcr : c ∈ r := by
      by_cases q : c ∈ r
      · exact q
      · rw [qhk c r q] at hlen; simp at hlen; omega
    obtain ⟨w, r', rfl, hw⟩ := qog hcr
    rw [qeb c r' w hw] at hsp hlen
    rw [List.length_append] at hrs
    simp only [List.length_cons] at hrs hlen
    simp only [↓JN_eq, CTL3, OPS3, cast0, reduceIte, Nat.reduceEqDiff, k8, e1]
    refine C3.q (q0y (M := M)) fun v H2 ⟨hv, hH⟩ => ?_
    subst hv; subst hH
    rw [qw7 hw]
    obtain ⟨H3, s1, s2, s3⟩ := hrw.set1 kh hx (j := 0) (y := w) (by omega) (u := .str w) rfl rfl
    rw [Nat.add_zero] at s1
    have e2 : ¬ ((w.length : Nat) : Int) < 0 := by omega
    have e3 : wrapI .i64 (((w.length : Nat) : Int) + 0) = ((w.length : Nat) : Int) := by rw [xc (by omega) (by omega)]; omega
    have e4 : wrapI .i64 (((w.length : Nat) : Int) + 1) = ((w.length + 1 : Nat) : Int) := by rw [xc (by omega) (by omega)]; omega
    have f1 : Op.sliceStr [none, some 0] [.str (w ++ c :: r'), .int .i64 ((w.length : Nat) : Int)] = some (.str w) := by
      rw [qjb (by simp)]; simp
    have f2 : Op.sliceStr [some 0, none] [.str (w ++ c :: r'), .int .i64 ((w.length + 1 : Nat) : Int)] = some (.str r') := by
      rw [qgk (by simp)]; simp
    have hl1 : Op.lenStr [.str [c]] = some (.int .i64 1) := rfl
    simp only [↓JN_eq, CTL3, OPS3, cast0, reduceIte, Nat.reduceEqDiff, k8, e2, e3, e4, f1, f2, hsl.idx hx rfl, s1, hl1, wi]
    refine ⟨_, _, ⟨i + 1, xs.set i w, r', rfl, rfl, by omega, by rw [List.length_set, hxl], by omega, s2, hfr.trans s3 fun x (q : x = H'.next) => .inr (by omega), ?_⟩, by simp only [↓JN_eq, CTL3, OPS3, cast0, reduceIte, Nat.reduceEqDiff], by omega⟩
    rw [qy5 (by omega), List.append_assoc]
    exact hsp
  · have e1 : ¬ (i : Int) < ((n - 1 : Nat) : Int) := by omega
    have hr1 := qzm (c := c) (s := r) (by omega)
    rw [hr1] at hsp
    obtain ⟨H3, s1, s2, s3⟩ := hrw.set1 kh hx (j := 0) (y := r) (by omega) (u := .str r) rfl rfl
    rw [Nat.add_zero] at s1
    have hxi : (xs.set i r).length = n := by rw [List.length_set, hxl]
    obtain ⟨v', u1, u2, u3⟩ := (s2.sl kh).upto kh (k := i + 1) (by omega) (z := ((i + 1 : Nat) : Int)) rfl .i64
    simp only [↓JN_eq, CTL3, OPS3, cast0, reduceIte, Nat.reduceEqDiff, k8, e1, hsl.idx hx rfl, s1, wi, u1]
    refine ⟨hfr.trans s3 fun x (q : x = H'.next) => .inr (by omega), ?_⟩
    rw [qy5 (by omega), hsp] at u2
    exact u2
theorem qz6 {H : AHeap} {s : B} {c : UInt8} (hl : s.length < 1000000) : CALLQ M kj [.str s, .str [c]] H (SpQ H (splitB c s)) := by
  refine qne ?_
  simp only [↓JN_eq, CTL3, OPS3, cast0, reduceIte, Nat.reduceEqDiff, qhi]
  refine C3.q (qrz (M := M) hl) fun v H' hv => ?_
  simp only [↓JN_eq, CTL3, OPS3, cast0, reduceIte, Nat.reduceEqDiff, qhi]
  exact hv
theorem qu4 {H : AHeap} {w : AV} {ws : List B} {x : B} (hw : SlT encS 1 H w ws) (hl : ws.length < 1000000) : CALLQ M zq [w, .str x] H (Pu (.int .i64 (if ws.idxOf x < ws.length then ((ws.idxOf x : Nat) : Int) else -1)) H) := by
  refine qht ?_
  simp only [↓JN_eq, CTL3, OPS3, cast0, reduceIte, Nat.reduceEqDiff, ye, hw.len]
  refine LOOP3.intro (fun m E Hx => ∃ i, E = [(8, .int .i64 (i : Nat)), (7, .int .i64 (ws.length : Nat)), (1, .str x), (0, w)] ∧ m = ws.length - i ∧ Hx = H ∧ i ≤ ws.length ∧ x ∉ ws.take i) ?_ ?_
  · exact ⟨_, _, ⟨0, rfl, rfl, rfl, by omega, by simp⟩, by simp only [↓JN_eq, CTL3, OPS3, cast0, reduceIte, Nat.reduceEqDiff]⟩
  rintro m E Hx ⟨i, rfl, rfl, rfl, hi, hx⟩
  by_cases h : i < ws.length
  · have e1 : (i : Int) < (ws.length : Nat) := by omega
    obtain ⟨y, hy⟩ : ∃ y, ws[i]? = some y := ⟨ws[i], by simp [h]⟩
    have lx : Op.load1 [.ptr (slB w) (slO 1 w i)] Hx = some (.str y) := by rw [hw.load0 kh hy (by omega)]; rfl
    have wi : wrapI .i64 ((i : Int) + 1) = ((i + 1 : Nat) : Int) := by rw [xc (by omega) (by omega)]; omega
    by_cases hxy : x = y
    · subst hxy
      simp only [↓JN_eq, CTL3, OPS3, cast0, reduceIte, Nat.reduceEqDiff, ye, e1, hw.idx hy rfl, lx]
      have hix : ws.idxOf x = i := by
        have e : ws = ws.take i ++ x :: ws.drop (i + 1) := by
          conv => lhs; rw [← List.take_append_drop i ws, List.drop_eq_getElem_cons h]
          congr 2
          simpa [h] using hy
        rw [e, List.idxOf_append, if_neg hx]
        simp; omega
      exact ⟨by rw [hix, if_pos h], rfl⟩
    · simp only [↓JN_eq, CTL3, OPS3, cast0, reduceIte, Nat.reduceEqDiff, ye, e1, hw.idx hy rfl, lx, hxy, wi]
      refine ⟨_, _, ⟨i + 1, rfl, rfl, by omega, ?_⟩, by simp only [↓JN_eq, CTL3, OPS3, cast0, reduceIte, Nat.reduceEqDiff], by omega⟩
      rw [List.take_add_one, hy]
      simp [hx, hxy]
  · have hi : i = ws.length := by omega
    subst hi
    have e1 : ¬ ((ws.length : Nat) : Int) < (ws.length : Nat) := by omega
    rw [List.take_length] at hx
    simp only [↓JN_eq, CTL3, OPS3, cast0, reduceIte, Nat.reduceEqDiff, ye, e1]
    exact ⟨by rw [if_neg (by rw [List.idxOf_lt_length_iff]; exact hx)], rfl⟩
theorem qm5 (c : UInt8) : ∀ (s : B), ∀ w ∈ splitB c s, w.length ≤ s.length
  | [], w, h => by simp [splitB] at h; simp [h]
  | d :: s, w, h => by
    have ih := qm5 c s
    rw [splitB] at h
    split at h
    · rcases List.mem_cons.1 h with rfl | h
      · simp
      · have := ih w h; simp; omega
    · split at h
      · simp at h; simp [h]
      · rename_i w' ws hq
        rw [hq] at ih
        rcases List.mem_cons.1 h with rfl | h
        · have := ih w' (List.mem_cons_self ..); simp; omega
        · have := ih w (List.mem_cons_of_mem _ h); simp; omega
end Go.Am
namespace Go.Am
open Tr Go.Proofs
open Lang (dec)
variable {M : Mac} [MK M]
def EmQ (r : AV) (H : AHeap) (v : AV) (H' : AHeap) : Prop := v = r ∧ Fr Em H H'
theorem qrd {H : AHeap} {s : B} (hl : s.length < 1000000) : CALLQ M xm [.str s] H (EmQ (.str s) H) := by
  refine qdb ?_
  by_cases hs : s.length = 0
  · have : s = [] := List.length_eq_zero_iff.1 hs
    subst this
    have hl0 : Op.lenStr [.str []] = some (.int .i64 0) := rfl
    simp only [↓JN_eq, CTL3, OPS3, cast0, reduceIte, Nat.reduceEqDiff, w5, hl0]
    exact ⟨rfl, Fr.refl _⟩
  have e0 : ¬ ((s.length : Nat) : Int) = 0 := by omega
  have hb0 : ∀ k : Nat, k ≠ 0 → Nat.beq k 0 = false := fun k hk => by cases k with
    | zero => exact absurd rfl hk
    | succ k => rfl
  have hb1 : ∀ k : Nat, Nat.beq k k = true := fun k => by simp
  have hrepl : ∀ n : Nat, (repl n [AV.int .u8 0]).length = n := fun n => by
    induction n with
    | zero => rfl
    | succ n ih => rw [repl, kv, List.length_append, ih, List.length_singleton]; omega
  have hall : allOne (s.map fun c => AV.int .u8 c.toNat) = true := by rw [qaq]; simp [oneCell]
  have hcp : Op.copy 1 [Op.sliceTo s.length s.length H.next, .str s] (H.alloc (.row (repl s.length [.int .u8 0]) j6 (0, 0) true)) = some (.int .i64 (s.length : Nat), H.alloc (.row (s.map fun c => AV.int .u8 c.toNat) j6 (0, 0) true)) := by
    show ((lenV (Op.sliceTo s.length s.length H.next)).bind fun dn => (lenV (.str s)).bind fun rn => (firstCells (H.alloc (.row (repl s.length [.int .u8 0]) j6 (0, 0) true)) 1 (min rn dn) (.str s)).bind fun l =>
      cond (Nat.beq (min rn dn) 0) (some (goIntV 0, H.alloc (.row (repl s.length [.int .u8 0]) j6 (0, 0) true))) ((elemAt 1 (Op.sliceTo s.length s.length H.next) 0).bind fun p => (AHeap.store (H.alloc (.row (repl s.length [.int .u8 0]) j6 (0, 0) true)) p.1 p.2 l).bind fun H' => some (goIntV (min rn dn), H'))) = _
    have h1 : lenV (Op.sliceTo s.length s.length H.next) = some s.length := rfl
    have h2 : elemAt 1 (Op.sliceTo s.length s.length H.next) 0 = some (H.next, 0) := by
      show cond (Nat.blt 0 s.length) (some (H.next, 0 + 0 * 1)) none = _
      rw [qdr (by omega)]; rfl
    have h3 : thawed (0, 0) 0 s.length = true := by simp [thawed]
    simp only [h1, lenV_str, Option.bind_some, Nat.min_self, q05, hb0 _ hs, cond_false, h2, AHeap.store, hall, cond_true, qn, kx, List.length_map, h3, qav, hrepl, Nat.zero_add, Nat.le_refl, if_true, vr]
    rw [List.take_zero, List.nil_append, List.drop_eq_nil_of_le (by rw [hrepl]; omega), List.append_nil, Int.min_self]; rfl
  have hix : Op.indexSl 1 [Op.sliceTo s.length s.length H.next, .int .i64 0] = some (.ptr H.next 0) := by
    have hw : SlT encB 1 (H.alloc (.row (s.map fun c => AV.int .u8 c.toNat) j6 (0, 0) true)) (.slice H.next 0 s.length s.length) s := by
      have := sl_row H (s.map fun c => AV.int .u8 c.toNat) j6 (0, 0) true
      unfold SlT; rw [qng]; simpa using this
    obtain ⟨c, hc⟩ : ∃ c, s[0]? = some c := ⟨s[0]'(by omega), List.getElem?_eq_getElem (by omega)⟩
    exact hw.idx hc rfl .i64
  have hst : Op.strOfPtr j6 [.ptr H.next 0, .int .i64 (s.length : Nat)] (H.alloc (.row (s.map fun c => AV.int .u8 c.toNat) j6 (0, 0) true)) = some (.str s, (H.alloc (.row (s.map fun c => AV.int .u8 c.toNat) j6 (0, 0) true)).set H.next (.row (s.map fun c => AV.int .u8 c.toNat) j6 (0, s.length) true)) := by
    have k1 : eqI (s.length : Int) 0 = false := by rw [qcv]; exact decide_eq_false e0
    have k2 : (ltI (s.length : Int) 0 || ltI 140737488355328 (s.length : Int)) = false := by rw [qfe, qfe]; simp; omega
    have k4 : takeAt (s.map fun c => AV.int .u8 c.toNat) 0 s.length = some (s.map fun c => AV.int .u8 c.toNat) := by
      rw [jb, if_pos (by simp), List.drop_zero, List.take_of_length_le (by simp)]
    have k5 : Op.fzJoin (0, 0) 0 s.length = (0, s.length) := by
      show cond (Nat.beq 0 0) _ _ = _
      rw [hb1]; simp
    simp only [Op.strOfPtr, k1, k2, cond_false, qn, hb1, cond_true, Int.toNat_natCast, k4, Option.bind_some, qi3, k5]
  simp only [↓JN_eq, CTL3, OPS3, cast0, reduceIte, Nat.reduceEqDiff, w5, e0, qu5 j6 1 [.int .u8 0] s.length .i64 .i64 (by omega) (by omega), hcp, hix, hst]
  have hls : Op.lenSl [Op.sliceTo s.length s.length H.next] = some (.int .i64 (s.length : Nat)) := rfl
  simp only [↓JN_eq, CTL3, OPS3, cast0, reduceIte, Nat.reduceEqDiff, hls, hst]
  exact ⟨rfl, ((Fr.refl H).alloc _).set (.inr (Nat.le_refl _)) _⟩
def ErrV (H : AHeap) (g : Nat) : Prop := g < H.next ∧ ∃ x, H.cellsAt g = some [x] ∧ x.cells = [x] ∧ oneCell x = true
theorem ErrV.em {H H' : AHeap} {g : Nat} (h : ErrV H g) (f : Fr Em H H') : ErrV H' g := by
  obtain ⟨h0, x, h1, h2⟩ := h
  exact ⟨Nat.lt_of_lt_of_le h0 f.next, x, by rw [f.cells h0 id, h1], h2⟩
def PtrQ (H : AHeap) (v : AV) (H' : AHeap) : Prop := (∃ b, v = .ptr b 0) ∧ Fr Em H H'
theorem q1o {H H' : AHeap} (f : Fr Em H H') {g : Nat} (h : g < H.next) : H'.cellsAt g = H.cellsAt g := f.cells h id
theorem qmo {H : AHeap} {f s : B} (hs : s.length < 1000000) (he : ErrV H zm) : CALLQ M zp [.str f, .str s] H (PtrQ H) := by
  refine qg2 ?_
  obtain ⟨h0, x, h1, h2, h3⟩ := he
  have l1 : Op.load1 [.ptr zm 0] H = some x := by rw [yv h1]; rfl
  simp only [↓JN_eq, CTL3, OPS3, cast0, reduceIte, Nat.reduceEqDiff, qb9, l1]
  refine C3.q (qrd (M := M) hs) fun v H' ⟨hv, hf⟩ => ?_
  subst hv
  have l2 : Op.load1 [.ptr zm 0] H' = some x := by rw [yv ((q1o hf h0).trans h1)]; rfl
  have b1 : Op.build [.str [], .str [], .nili] [(0, 1), (1, 1), (2, 1)] [.str f, .str s, x] = some (.agg [.str f, .str s, x]) := by
    simp [Op.build, fillAt, h2, qav, kx]; rfl
  simp only [↓JN_eq, CTL3, OPS3, cast0, reduceIte, Nat.reduceEqDiff, qb9, l2, b1, qgl]
  exact ⟨⟨_, rfl⟩, hf.alloc _⟩
theorem qo4 {H : AHeap} {f s : B} (hs : s.length < 1000000) (he : ErrV H z4) : CALLQ M zy [.str f, .str s] H (PtrQ H) := by
  refine qid ?_
  obtain ⟨h0, x, h1, h2, h3⟩ := he
  have l1 : Op.load1 [.ptr z4 0] H = some x := by rw [yv h1]; rfl
  simp only [↓JN_eq, CTL3, OPS3, cast0, reduceIte, Nat.reduceEqDiff, qc0, l1]
  refine C3.q (qrd (M := M) hs) fun v H' ⟨hv, hf⟩ => ?_
  subst hv
  have l2 : Op.load1 [.ptr z4 0] H' = some x := by rw [yv ((q1o hf h0).trans h1)]; rfl
  have b1 : Op.build [.str [], .str [], .nili] [(0, 1), (1, 1), (2, 1)] [.str f, .str s, x] = some (.agg [.str f, .str s, x]) := by
    simp [Op.build, fillAt, h2, qav, kx]; rfl
  simp only [↓JN_eq, CTL3, OPS3, cast0, reduceIte, Nat.reduceEqDiff, qc0, l2, b1, qgl]
  exact ⟨⟨_, rfl⟩, hf.alloc _⟩
theorem eqE (a b : Int) (H : AHeap) : Op.eq (.ifaces (ifT Tryd.prog)) false [.iface qj (.int .i64 a), .iface qj (.int .i64 b)] H = some (.bool (decide (a = b))) := by
  have h : ifT Tryd.prog qj = some .int := by kernel_rfl
  have hk : eqK .i64 .i64 = true := rfl
  simp [Op.eq, eqV, h, eqTree, hk, qcv]; rfl
def ErrQ (H : AHeap) (v : AV) (H' : AHeap) : Prop := (∃ b, v = .iface j9 (.ptr b 0)) ∧ Fr Em H H'
theorem qv7 {H : AHeap} {f s : B} {x y : AV} {k : Int} (hs : s.length < 1000000) (he : ErrV H zm) (he' : ErrV H z4) (hk : k = 1 ∨ k = 2) :
    CALLQ M jx [.str f, .str s, x, y, .iface qj (.int .i64 k)] H (ErrQ H) := by
  refine qlk ?_
  rcases hk with rfl | rfl
  · simp only [↓JN_eq, CTL3, OPS3, cast0, reduceIte, Nat.reduceEqDiff, qfb, eqE, Int.reduceEq]
    refine C3.q (qo4 (M := M) hs he') fun v H' ⟨⟨b, hv⟩, hf⟩ => ?_
    subst hv
    simp only [↓JN_eq, CTL3, OPS3, cast0, reduceIte, Nat.reduceEqDiff]
    exact ⟨⟨b, rfl⟩, hf⟩
  · simp only [↓JN_eq, CTL3, OPS3, cast0, reduceIte, Nat.reduceEqDiff, qfb, eqE, Int.reduceEq]
    refine C3.q (qmo (M := M) hs he) fun v H' ⟨⟨b, hv⟩, hf⟩ => ?_
    subst hv
    simp only [↓JN_eq, CTL3, OPS3, cast0, reduceIte, Nat.reduceEqDiff]
    exact ⟨⟨b, rfl⟩, hf⟩
theorem qqu {s : B} {i : Nat} {c : UInt8} (h : s[i]? = some c) : Tr.valOf (s.take (i + 1)) = Tr.valOf (s.take i) * 10 + (c.toNat - 48) := by
  rw [List.take_add_one, h]; exact qou _ _
theorem qwr (s : B) : ∀ a : Nat, a ≤ s.foldl (fun a c => a * 10 + (c.toNat - 48)) a := by
  induction s with
  | nil => intro a; exact Nat.le_refl _
  | cons c s ih => intro a; exact Nat.le_trans (show a ≤ a * 10 + (c.toNat - 48) by omega) (ih _)
theorem qri (s : B) (i : Nat) : Tr.valOf (s.take i) ≤ Tr.valOf s := by
  conv => rhs; rw [← List.take_append_drop i s]
  unfold Tr.valOf
  rw [List.foldl_append]
  exact qwr _ _
theorem qlq {H : AHeap} {c : UInt8} : CALLQ M qz [.int .u8 c.toNat] H (Pu (.int .u8 ((c.toNat ||| 32 : Nat) : Int)) H) := by
  refine qff ?_
  have e : Op.bin .or [.int .u8 (c.toNat : Int), .int .u8 32] = some (.int .u8 ((c.toNat ||| 32 : Nat) : Int)) := by
    have key : ∀ n : Fin 256, wrapI .u8 ((BitVec.ofInt 8 ((n.1 : Nat) : Int) ||| BitVec.ofInt 8 32).toNat : Int) = ((n.1 ||| 32 : Nat) : Int) := by decide +kernel
    have := key ⟨c.toNat, c.toNat_lt⟩
    show some (AV.int .u8 (wrapI .u8 ((BitVec.ofInt 8 ((c.toNat : Nat) : Int) ||| BitVec.ofInt 8 32).toNat : Int))) = _
    rw [this]
  simp only [↓JN_eq, CTL3, OPS3, cast0, reduceIte, Nat.reduceEqDiff, qfg, e]
  exact ⟨rfl, rfl⟩
def PuQ (s : B) (H : AHeap) (v : AV) (H' : AHeap) : Prop := Fr Em H H' ∧ ∃ (n : Nat) (err : AV), v = .tuple [.int .u64 (n : Nat), err] ∧ n < 18446744073709551616 ∧ (err = .nili ∨ ∃ k : Int, (k = 1 ∨ k = 2) ∧ err = .iface qj (.int .i64 k)) ∧ ∀ m, s = dec m → m < 18446744073709551616 → err = .nili ∧ n = m
theorem PuQ.bad {s : B} {H H' : AHeap} (f : Fr Em H H') {n : Nat} (hn : n < 18446744073709551616) {k : Int} (hk : k = 1 ∨ k = 2) (h : ∀ m, s = dec m → m < 18446744073709551616 → False) : PuQ s H (.tuple [.int .u64 (n : Nat), .iface qj (.int .i64 k)]) H' :=
  ⟨f, n, _, rfl, hn, .inr ⟨k, hk, rfl⟩, fun m h1 h2 => (h m h1 h2).elim⟩
theorem bytes_sl (H : AHeap) (s : B) : SlT encB 1 (H.alloc (.grown s.length 1 (s.map fun b => .int .u8 b.toNat) j6 (1, 0))) (.gslice H.next 0 s.length 1 0 s.length) s := by
  unfold SlT
  rw [qng]
  refine ⟨by simp, rfl, rfl, by omega, .inr ⟨by rw [z6]; omega, _, qkm (qn ..), ?_⟩⟩
  rw [jb, if_pos (by simp)]
  simp [List.take_of_length_le]
theorem qo7 {H : AHeap} {s : B} (hl : s.length < 1000000) : CALLQ M qx [.str s, .int .i64 10, .int .i64 64] H (PuQ s H) := by
  refine qc8 ?_
  obtain ⟨w0, w2, w10, w14, w54, -, w66, -, w68, w81, w85, w87, w153, w92, w161, w98, w152, w104, w123, w116, w131, w139, w143, w151⟩ := qdk M ⟨none, qx⟩
  by_cases hs : s = []
  · subst hs
    simp only [↓JN_eq, CTL3, OPS3, cast0, reduceIte, Nat.reduceEqDiff, w0, w2]
    exact PuQ.bad (n := 0) (Fr.refl _) (by omega) (.inr rfl) fun m h _ => Lang.dec_ne m h.symm
  have hbs : Op.bytesOfStr j6 [.str s] = some (.grown s.length 1 (s.map fun b => .int .u8 b.toNat) j6 (1, 0), Op.gsliceTo s.length s.length) := by
    show cond (Nat.ble s.length 140737488355328) _ none = _
    rw [qam (by omega)]; rfl
  have hsl := bytes_sl H s
  have hgs : Op.gsliceTo s.length s.length H.next = .gslice H.next 0 s.length 1 0 s.length := rfl
  have wsh : Op.bin .shl [.int .u64 1, .int .u64 64] = some (.int .u64 0) := by kernel_rfl
  have wm : wrapI .u64 (0 - 1) = 18446744073709551615 := by decide +kernel
  have w64 : wrapI .u64 64 = 64 := by decide +kernel
  simp only [↓JN_eq, CTL3, OPS3, cast0, reduceIte, Nat.reduceEqDiff, w0, w2, w10, w14, w54, w66, w68, w81, w85, w87, hs, Int.reduceEq, Int.reduceLE, Int.reduceLT, wsh, wm, w64, hbs, hgs, hsl.len]
  have hf1 : Fr Em H (H.alloc (.grown s.length 1 (s.map fun b => .int .u8 b.toNat) j6 (1, 0))) := (Fr.refl H).alloc _
  generalize (H.alloc (.grown s.length 1 (s.map fun b => .int .u8 b.toNat) j6 (1, 0))) = H1 at *
  generalize (AV.gslice H.next 0 s.length 1 0 s.length) = a at *
  refine LOOP3.intro (fun n E Hx => ∃ i x : Nat, Hx = H1 ∧ E = [(101, .int .i64 (i : Nat)), (100, .int .i64 (s.length : Nat)), (99, a), (13, .int .u64 (x : Nat)), (12, .bool false), (11, .int .u64 18446744073709551615), (10, .int .u64 1844674407370955162), (8, .bool false), (1, .int .i64 10)] ∧ n = s.length - i ∧ i ≤ s.length ∧ x < 18446744073709551616 ∧ ∀ m, s = dec m → m < 18446744073709551616 → x = Tr.valOf (s.take i)) ?_ ?_
  · exact ⟨_, _, ⟨0, 0, rfl, rfl, rfl, by omega, by omega, fun m _ _ => rfl⟩, by simp only [↓JN_eq, CTL3, OPS3, cast0, reduceIte, Nat.reduceEqDiff]⟩
  rintro n E Hx ⟨i, x, rfl, rfl, rfl, hi, hx, hgood⟩
  rcases Nat.lt_or_ge i s.length with hlt | hge
  · obtain ⟨c, hc⟩ : ∃ c, s[i]? = some c := ⟨s[i], by simp [hlt]⟩
    have e1 : (i : Int) < (s.length : Nat) := by omega
    have lx : Op.load1 [.ptr (slB a) (slO 1 a i)] Hx = some (.int .u8 c.toNat) := by rw [hsl.load0 qdl hc (by omega)]; rfl
    have wi : wrapI .i64 ((i : Int) + 1) = ((i + 1 : Nat) : Int) := by rw [xc (by omega) (by omega)]; omega
    have hdig : ∀ m, s = dec m → 48 ≤ c.toNat ∧ c.toNat ≤ 57 := fun m hm => qug m c (hm ▸ List.mem_of_getElem? hc)
    have hval := qqu hc
    have hle : ∀ m, s = dec m → m < 18446744073709551616 → Tr.valOf (s.take (i + 1)) < 18446744073709551616 := fun m hm hlt => by
      have := qri s (i + 1)
      rw [hm, qkv] at this
      rw [hm]; omega
    have hcl := c.toNat_lt
    simp only [↓JN_eq, CTL3, OPS3, cast0, reduceIte, Nat.reduceEqDiff, w92, w98, e1, hsl.idx hc rfl, lx]
    by_cases hd : 48 ≤ c.toNat ∧ c.toNat ≤ 57
    · obtain ⟨d1, d2⟩ := hd
      have c95 : ¬ (c.toNat : Int) = 95 := by omega
      have c48 : (48 : Int) ≤ (c.toNat : Int) := by omega
      have c57 : (c.toNat : Int) ≤ 57 := by omega
      have wd : wrapI .u8 ((c.toNat : Int) - 48) = ((c.toNat - 48 : Nat) : Int) := by rw [qr9 (by omega) (by omega)]; omega
      have w10' : wrapI .u8 10 = 10 := by decide +kernel
      have w10u : wrapI .u64 10 = 10 := by decide +kernel
      have cd : ¬ (10 : Int) ≤ ((c.toNat - 48 : Nat) : Int) := by omega
      by_cases hbig : 1844674407370955162 ≤ x
      · have hb : (1844674407370955162 : Int) ≤ (x : Int) := by omega
        simp only [↓JN_eq, CTL3, OPS3, cast0, reduceIte, Nat.reduceEqDiff, w104, w123, w131, c95, c48, c57, wd, w10', cd, hb]
        refine PuQ.bad (n := 18446744073709551615) hf1 (by omega) (.inl rfl) fun m hm hmlt => ?_
        have := hle m hm hmlt; have := hgood m hm hmlt; omega
      · have hb : ¬ (1844674407370955162 : Int) ≤ (x : Int) := by omega
        have wm10 : wrapI .u64 ((x : Int) * 10) = ((x * 10 : Nat) : Int) := by rw [qeo (by omega) (by omega)]; omega
        have wdu : wrapI .u64 ((c.toNat - 48 : Nat) : Int) = ((c.toNat - 48 : Nat) : Int) := w_u64 (by omega)
        by_cases hov : x * 10 + (c.toNat - 48) < 18446744073709551616
        · have ws : wrapI .u64 (((x * 10 : Nat) : Int) + ((c.toNat - 48 : Nat) : Int)) = ((x * 10 + (c.toNat - 48) : Nat) : Int) := by rw [qeo (by omega) (by omega)]; omega
          have n1 : ¬ ((x * 10 + (c.toNat - 48) : Nat) : Int) < ((x * 10 : Nat) : Int) := by omega
          have n2 : ¬ (18446744073709551615 : Int) < ((x * 10 + (c.toNat - 48) : Nat) : Int) := by omega
          simp only [↓JN_eq, CTL3, OPS3, cast0, reduceIte, Nat.reduceEqDiff, w104, w123, w131, w139, w143, w151, w152, c95, c48, c57, wd, w10', w10u, cd, hb, wm10, wdu, ws, n1, n2, wi]
          exact ⟨_, _, ⟨i + 1, x * 10 + (c.toNat - 48), rfl, rfl, by omega, hov, fun m hm hmlt => by rw [hval, hgood m hm hmlt]⟩, by simp only [↓JN_eq, CTL3, OPS3, cast0, reduceIte, Nat.reduceEqDiff], by omega⟩
        · have ws : wrapI .u64 (((x * 10 : Nat) : Int) + ((c.toNat - 48 : Nat) : Int)) = ((x * 10 + (c.toNat - 48) - 18446744073709551616 : Nat) : Int) := by rw [qo2]; omega
          have n1 : ((x * 10 + (c.toNat - 48) - 18446744073709551616 : Nat) : Int) < ((x * 10 : Nat) : Int) := by omega
          simp only [↓JN_eq, CTL3, OPS3, cast0, reduceIte, Nat.reduceEqDiff, w104, w123, w131, w139, w143, c95, c48, c57, wd, w10', w10u, cd, hb, wm10, wdu, ws, n1]
          refine PuQ.bad (n := 18446744073709551615) hf1 (by omega) (.inl rfl) fun m hm hmlt => ?_
          have := hle m hm hmlt; have := hgood m hm hmlt; omega
    · have hbad : ∀ m, s = dec m → m < 18446744073709551616 → False := fun m hm _ => hd (hdig m hm)
      have hlow : c.toNat ||| 32 < 256 := by
        have key : ∀ n : Fin 256, n.1 ||| 32 < 256 := by decide +kernel
        exact key ⟨c.toNat, hcl⟩
      have go : ∀ (E : Env) (QQ : Post3), lk E 15 = some (.int .u8 c.toNat) → lk E 1 = some (.int .i64 10) → (∀ E', QQ .ret ((7, .iface qj (.int .i64 2)) :: (6, .int .u64 0) :: E') [] Hx) → W M ⟨none, qx⟩ (qa 116) true (BLK3 5 (SEQ3 (W M ⟨none, qx⟩ (qa 123)) QQ)) E [] Hx := by
        intro E QQ q15 q1 hq
        simp only [↓JN_eq, CTL3, OPS3, cast0, reduceIte, Nat.reduceEqDiff, w116, q15]
        refine C3.q (qlq (M := M)) fun v H2 ⟨hv, hH⟩ => ?_
        subst hv; subst hH
        obtain ⟨d, hdd⟩ : ∃ d, d = c.toNat ||| 32 := ⟨_, rfl⟩
        rw [← hdd] at hlow ⊢
        by_cases hd1 : 97 ≤ d
        · have k1 : (97 : Int) ≤ (d : Int) := by omega
          simp only [↓JN_eq, CTL3, OPS3, cast0, reduceIte, Nat.reduceEqDiff, k1]
          refine C3.q (qlq (M := M)) fun v H2 ⟨hv, hH⟩ => ?_
          subst hv; subst hH
          rw [← hdd]
          by_cases hd2 : d ≤ 122
          · have k2 : (d : Int) ≤ 122 := by omega
            simp only [↓JN_eq, CTL3, OPS3, cast0, reduceIte, Nat.reduceEqDiff, k2, q15]
            refine C3.q (qlq (M := M)) fun v H2 ⟨hv, hH⟩ => ?_
            subst hv; subst hH
            rw [← hdd]
            have u1 : wrapI .u8 ((d : Int) - 97) = ((d - 97 : Nat) : Int) := by rw [qr9 (by omega) (by omega)]; omega
            have u2 : wrapI .u8 (((d - 97 : Nat) : Int) + 10) = ((d - 97 + 10 : Nat) : Int) := by rw [qr9 (by omega) (by omega)]; omega
            have u3 : (10 : Int) ≤ ((d - 97 + 10 : Nat) : Int) := by omega
            have w10' : wrapI .u8 10 = 10 := by decide +kernel
            simp only [↓JN_eq, CTL3, OPS3, cast0, reduceIte, Nat.reduceEqDiff, u1, u2, w123, q1, w10', u3]
            exact hq _
          · have k2 : ¬ (d : Int) ≤ 122 := by omega
            simp only [↓JN_eq, CTL3, OPS3, cast0, reduceIte, Nat.reduceEqDiff, k2]
            exact hq _
        · have k1 : ¬ (97 : Int) ≤ (d : Int) := by omega
          simp only [↓JN_eq, CTL3, OPS3, cast0, reduceIte, Nat.reduceEqDiff, k1]
          exact hq _
      rcases (show c.toNat = 95 ∨ (c.toNat ≠ 95 ∧ ¬ 48 ≤ c.toNat) ∨ (c.toNat ≠ 95 ∧ 48 ≤ c.toNat ∧ ¬ c.toNat ≤ 57) by omega) with h95 | ⟨h95, h48⟩ | ⟨h95, h48, h57⟩
      · have c95 : (c.toNat : Int) = 95 := by omega
        have c48 : (48 : Int) ≤ (c.toNat : Int) := by omega
        have c57 : ¬ (c.toNat : Int) ≤ 57 := by omega
        simp only [↓JN_eq, CTL3, OPS3, cast0, reduceIte, Nat.reduceEqDiff, w104, c48, c57, c95, Int.reduceLE]
        refine go _ _ (congrArg (fun z => some (AV.int .u8 z)) c95.symm) rfl fun E' => ?_
        simp only [↓JN_eq, CTL3, OPS3, cast0, reduceIte, Nat.reduceEqDiff]
        exact PuQ.bad (n := 0) hf1 (by omega) (.inr rfl) hbad
      · have c95 : ¬ (c.toNat : Int) = 95 := by omega
        have c48 : ¬ (48 : Int) ≤ (c.toNat : Int) := by omega
        simp only [↓JN_eq, CTL3, OPS3, cast0, reduceIte, Nat.reduceEqDiff, w104, c48, c95]
        refine go _ _ rfl rfl fun E' => ?_
        simp only [↓JN_eq, CTL3, OPS3, cast0, reduceIte, Nat.reduceEqDiff]
        exact PuQ.bad (n := 0) hf1 (by omega) (.inr rfl) hbad
      · have c95 : ¬ (c.toNat : Int) = 95 := by omega
        have c48 : (48 : Int) ≤ (c.toNat : Int) := by omega
        have c57 : ¬ (c.toNat : Int) ≤ 57 := by omega
        simp only [↓JN_eq, CTL3, OPS3, cast0, reduceIte, Nat.reduceEqDiff, w104, c48, c57, c95]
        refine go _ _ rfl rfl fun E' => ?_
        simp only [↓JN_eq, CTL3, OPS3, cast0, reduceIte, Nat.reduceEqDiff]
        exact PuQ.bad (n := 0) hf1 (by omega) (.inr rfl) hbad
  · have hi : i = s.length := by omega
    subst hi
    have e1 : ¬ ((s.length : Nat) : Int) < (s.length : Nat) := by omega
    simp only [↓JN_eq, CTL3, OPS3, cast0, reduceIte, Nat.reduceEqDiff, w92, w153, w161, e1]
    exact ⟨hf1, x, .nili, rfl, hx, .inl rfl, fun m hm hmlt => ⟨rfl, by rw [hgood m hm hmlt, List.take_length, hm, qkv]⟩⟩
end Go.Am
namespace Go.Am
open Tr Go.Proofs
open Lang (dec)
variable {M : Mac} [MK M]
structure Tbs (H : AHeap) : Prop where
  tab : Tab H
  e1 : ErrV H zm
  e2 : ErrV H z4
theorem Tbs.em {H H' : AHeap} (h : Tbs H) (f : Fr Em H H') : Tbs H' := ⟨h.tab.em f, h.e1.em f, h.e2.em f⟩
def PnQ (s : B) (H : AHeap) (v : AV) (H' : AHeap) : Prop := Fr Em H H' ∧ ∃ (n : Nat) (err : AV), v = .tuple [.int .u64 (n : Nat), err] ∧ n < 18446744073709551616 ∧ (err = .nili ∨ ∃ t b, err = .iface t (.ptr b 0)) ∧ ∀ m, s = dec m → m < 18446744073709551616 → err = .nili ∧ n = m
theorem eqN (H : AHeap) (q : Bool) : Op.eq .iface q [.nili, .nili] H = some (.bool (!q)) := by cases q <;> rfl
theorem eqNi (H : AHeap) (q : Bool) (t : Nat) (x : AV) : Op.eq .iface q [.iface t x, .nili] H = some (.bool q) := by cases q <;> rfl
theorem qqk {H : AHeap} {s : B} (hl : s.length < 1000000) (ht : Tbs H) : CALLQ M je [.str s, .int .i64 10, .int .i64 64] H (PnQ s H) := by
  refine qjj ?_
  simp only [↓JN_eq, CTL3, OPS3, cast0, reduceIte, Nat.reduceEqDiff, vj]
  refine C3.q (qo7 (M := M) hl) fun v H' ⟨hf, n, err, hv, hn, he, hg⟩ => ?_
  subst hv
  rcases he with rfl | ⟨k, hk, rfl⟩
  · simp only [↓JN_eq, CTL3, OPS3, cast0, reduceIte, Nat.reduceEqDiff, vj, qg, eqN]
    exact ⟨hf, n, .nili, rfl, hn, .inl rfl, hg⟩
  · simp only [↓JN_eq, CTL3, OPS3, cast0, reduceIte, Nat.reduceEqDiff, vj, qg, eqNi]
    refine C3.q (qv7 (M := M) hl (ht.e1.em hf) (ht.e2.em hf) hk) fun v H2 ⟨⟨b, hv⟩, hf2⟩ => ?_
    subst hv
    simp only [↓JN_eq, CTL3, OPS3, cast0, reduceIte, Nat.reduceEqDiff, vj]
    exact ⟨hf.em hf2, n, _, rfl, hn, .inr ⟨_, _, rfl⟩, fun m h1 h2 => nomatch (hg m h1 h2).1⟩
def NumQ (s : B) (H : AHeap) (v : AV) (H' : AHeap) : Prop := Fr Em H H' ∧ ∃ (n : Nat) (ok : Bool), v = .tuple [.int .u64 (n : Nat), .bool ok] ∧ n < 18446744073709551616 ∧ (ok = true → numS s = some n) ∧ (ok = false → numS s = none)
theorem qja {H : AHeap} {s : B} (hl : s.length < 1000000) (ht : Tbs H) : CALLQ M jz [.str s] H (NumQ s H) := by
  refine qqn ?_
  simp only [↓JN_eq, CTL3, OPS3, cast0, reduceIte, Nat.reduceEqDiff, qbz]
  refine C3.q (qqk (M := M) hl ht) fun v H' ⟨hf, n, err, hv, hn, he, hg⟩ => ?_
  subst hv
  have ht' := ht.em hf
  rcases he with rfl | ⟨t, b, rfl⟩
  · simp only [↓JN_eq, CTL3, OPS3, cast0, reduceIte, Nat.reduceEqDiff, qbz, qg, eqN]
    refine C3.q (qr4 (M := M) ht'.tab.pt.1 ht'.tab.pt.2 (show (0 : Int) ≤ (n : Nat) by omega) (by omega)) fun v H2 ⟨hv, hf2⟩ => ?_
    subst hv
    have e : (((n : Nat) : Int)).toNat = n := by omega
    rw [e]
    simp only [↓JN_eq, CTL3, OPS3, cast0, reduceIte, Nat.reduceEqDiff, qbz]
    refine ⟨hf.em hf2, n, _, rfl, hn, fun q => qbh.2 ⟨(of_decide_eq_true q).symm, hn⟩, fun q => ?_⟩
    cases hs : numS s with
    | none => rfl
    | some m =>
      obtain ⟨h1, h2⟩ := qbh.1 hs
      exact absurd (by rw [(hg m h1 h2).2, h1]) (of_decide_eq_false q)
  · simp only [↓JN_eq, CTL3, OPS3, cast0, reduceIte, Nat.reduceEqDiff, qbz, qg, eqNi]
    refine ⟨hf, n, _, rfl, hn, (fun q => nomatch q), fun _ => ?_⟩
    cases hs : numS s with
    | none => rfl
    | some m =>
      obtain ⟨h1, h2⟩ := qbh.1 hs
      exact nomatch (hg m h1 h2).1
end Go.Am
namespace Go.Am
open Tr Go.Proofs
open Lang (dec)
variable {M : Mac} [MK M]
structure LnM (H Hc : AHeap) (a : AV) (ws : List B) : Prop where
  h0 : 10 ≤ H.next
  fr : Fr Em H Hc
  t2 : Hc.get H.next = some (OR zE.enc qb)
  lt : H.next < Hc.next
  tbs : Tbs Hc
  sl : SlT encS 1 Hc a ws
theorem LnM.em {H H1 H2 : AHeap} {a : AV} {ws : List B} (h : LnM H H1 a ws) (f : Fr Em H1 H2) : LnM H H2 a ws :=
  ⟨h.h0, h.fr.em f, by rw [f.keep _ h.lt id, h.t2], Nat.lt_of_lt_of_le h.lt f.next, h.tbs.em f, h.sl.em f⟩
theorem ErrV.off {H H' : AHeap} {g b : Nat} (h : ErrV H g) (f : Fr (On b) H H') (hb : g ≠ b) : ErrV H' g := by
  obtain ⟨h0, x, h1, h2⟩ := h
  exact ⟨Nat.lt_of_lt_of_le h0 f.next, x, by rw [f.cells h0 hb, h1], h2⟩
theorem LnM.off {H H1 H2 : AHeap} {a : AV} {ws : List B} (h : LnM H H1 a ws) {b : Nat} (f : Fr (On b) H1 H2) (hb : H.next < b) (ha : slB a < b) : LnM H H2 a ws := by
  have hb10 : 10 ≤ b := by have := h.h0; omega
  exact ⟨h.h0, h.fr.trans f fun x (q : x = b) => .inr (by omega), by rw [f.keep _ h.lt (fun (q : H.next = b) => by omega), h.t2], Nat.lt_of_lt_of_le h.lt f.next, ⟨h.tbs.tab.off f hb10, h.tbs.e1.off f (by show 4 ≠ b; omega), h.tbs.e2.off f (by show 5 ≠ b; omega)⟩, h.sl.fr f fun (q : slB a = b) => by omega⟩
def LnQ (H : AHeap) (o : Option Evt) (v : AV) (H' : AHeap) : Prop := Fr Em H H' ∧ ∃ (y : Evt) (ok : Bool), v = .tuple [.agg y.enc, .bool ok] ∧ (ok = true → o = some y) ∧ (ok = false → o = none)
theorem LnM.bad {H Hc : AHeap} {a : AV} {ws : List B} {o : Option Evt} (h : LnM H Hc a ws) (ho : o = none) : LnQ H o (.tuple [.agg zE.enc, .bool false]) (Hc.set H.next (OR zE.enc qb)) :=
  ⟨h.fr.set (.inr (Nat.le_refl _)) _, zE, false, rfl, (fun q => nomatch q), fun _ => ho⟩
theorem qvo {l : UInt8} (h : l ≠ 108) (h' : l ≠ 99) (w : B) : fldB l w = numS w := by
  have : wordsOf l = [] := by unfold wordsOf; rw [if_neg h, if_neg h']
  unfold fldB; rw [this]; rfl
theorem qns {l : UInt8} (h : l = 108 ∨ l = 99) (w : B) : fldB l w = if 0 < (wordsOf l).idxOf w ∧ (wordsOf l).idxOf w < (wordsOf l).length then some ((wordsOf l).idxOf w) else none := by
  have : (wordsOf l).length ≠ 0 := by rcases h with rfl | rfl <;> decide
  unfold fldB; rw [if_neg this]
theorem max0 (a : Int) : Op.minmax true [.int .i64 a, .int .i64 0] = some (.int .i64 (if a < 0 then 0 else a)) := by
  simp only [Op.minmax, Op.minmaxGo, Option.bind_some, cond_true, qfe]
  by_cases h : a < 0 <;> simp [h]
theorem qq7 {y : Evt} : goRead [] [] y = some y := rfl
theorem qjg {l : UInt8} {ls w : B} {ws : List B} {y : Evt} : goRead (l :: ls) (w :: ws) y = match fldB l w with
    | none => none
    | some v => if (l = 118 ∨ v < 9223372036854775808) ∧ mayN l v then goRead ls ws (setN y l v) else none := rfl
theorem qtq {H H3 : AHeap} {a : AV} {ws : List B} {b5 : Nat} {y : Evt} {l : UInt8} {v : Nat} {okk : Bool} {E : Env} {Q : Post3} (h : LnM H H3 a ws) (hil : isL l) (h5 : H3.get b5 = some (OR y.enc qb)) (hb5 : H.next < b5) (hb5' : b5 < H3.next) (ha : slB a < b5) (hv : v < 18446744073709551616)
    (e15 : lk E 15 = some (.bool okk)) (e14 : lk E 14 = some (.int .u64 (v : Nat))) (e12 : lk E 12 = some (cI l)) (e6 : lk E 6 = some (.ptr b5 0)) (e2 : lk E 2 = some (.ptr H.next 0))
    (hbad : ∀ H4, LnM H H4 a ws → (okk = false ∨ ¬ ((l = 118 ∨ v < 9223372036854775808) ∧ mayN l v = true)) → Q .ret ((3, .bool false) :: E) [] (H4.set H.next (OR zE.enc qb)))
    (hgood : ∀ H4, LnM H H4 a ws → H4.get b5 = some (OR (setN y l v).enc qb) → Fr (On b5) H3 H4 → okk = true → ((l = 118 ∨ v < 9223372036854775808) ∧ mayN l v = true) → Q .normal E [] H4) :
    W M ⟨none, zz⟩ (qk 77) true Q E [] H3 := by
  obtain ⟨-, -, -, -, -, -, -, -, -, -, -, w49, w84, w54, w60, w65, w67, w77⟩ := qe2 M ⟨none, zz⟩
  cases okk with
  | false =>
    simp only [↓JN_eq, CTL3, OPS3, cast0, reduceIte, Nat.reduceEqDiff, w77, e15, yt, e2, st_ev h.t2]
    exact hbad _ h (.inl rfl)
  | true =>
    simp only [↓JN_eq, CTL3, OPS3, cast0, reduceIte, Nat.reduceEqDiff, w77, e15, e12, e14, e6]
    refine C3.q (qy0 (M := M) hil h5 hb5') fun u H4 ⟨hu, hf4⟩ => ?_
    have hm4 := h.off hf4 hb5 ha
    rcases hu with ⟨h118, rfl, hrow⟩ | ⟨h118, rfl, hrow⟩
    · simp only [↓JN_eq, CTL3, OPS3, cast0, reduceIte, Nat.reduceEqDiff]
      exact hgood _ hm4 hrow hf4 rfl ⟨.inl h118, by rw [h118]; rfl⟩
    · by_cases hc : v < 9223372036854775808
      · have e63 : (v : Int) ≤ 9223372036854775807 := by omega
        have ew : wrapI .i64 (v : Int) = (v : Int) := xc (by omega) (by omega)
        rw [ew] at hrow
        by_cases hmay : mayN l v = true
        · simp only [e63, decide_true, ew, hmay, Bool.and_self]
          simp only [↓JN_eq, CTL3, OPS3, cast0, reduceIte, Nat.reduceEqDiff]
          exact hgood _ hm4 hrow hf4 rfl ⟨.inr hc, hmay⟩
        · have hm' : mayN l v = false := by simpa using hmay
          simp only [e63, decide_true, ew, hm', Bool.and_false]
          simp only [↓JN_eq, CTL3, OPS3, cast0, reduceIte, Nat.reduceEqDiff, yt, e2, st_ev hm4.t2]
          exact hbad _ hm4 (.inr fun q => hmay q.2)
      · have e63 : ¬ (v : Int) ≤ 9223372036854775807 := by omega
        simp only [e63, decide_false, Bool.false_and]
        simp only [↓JN_eq, CTL3, OPS3, cast0, reduceIte, Nat.reduceEqDiff, yt, e2, st_ev hm4.t2]
        exact hbad _ hm4 (.inr fun q => q.1.elim h118 hc)
theorem q22 {H : AHeap} {s0 : B} {a : AV} {ws : List B} {y0 : Evt} {Hc : AHeap} {E : Env} {k : Nat} (h : LnM H Hc a ws) (hk1 : 1 ≤ k) (hk2 : k ≤ 8) (hwl : ∀ w ∈ ws, w.length < 1000000) (hn : ws.length = 3 + (named k).length)
    {b5 : Nat} (h5 : Hc.get b5 = some (OR y0.enc qb)) (hb5 : H.next < b5) (hb5' : b5 < Hc.next) (ha : slB a < b5) (hgo : goRead (named k) (ws.drop 3) y0 = readB s0)
    (e4 : lk E 4 = some a) (e2 : lk E 2 = some (.ptr H.next 0)) (e5 : lk E 5 = some (.int .i64 (k : Int))) (e6 : lk E 6 = some (.ptr b5 0)) :
    W M ⟨none, zz⟩ (qk 49) true (FIN3 M [.cellN 9 2, .tmp 3] (RT3 (LnQ H (readB s0)))) E [] Hc := by
  obtain ⟨n1, n2⟩ := h.tbs.tab.nm (show 1 ≤ (k : Int) by omega) (show (k : Int) ≤ 8 by omega)
  obtain ⟨-, -, -, -, -, -, -, -, -, -, -, w49, w84, w54, w60, w65, w67, w77⟩ := qe2 M ⟨none, zz⟩
  simp only [↓JN_eq, CTL3, OPS3, cast0, reduceIte, Nat.reduceEqDiff, w49, e5, n1, n2, qo9]
  obtain ⟨s, hs⟩ : ∃ s, s = named k := ⟨_, rfl⟩
  rw [← hs] at hgo hn ⊢
  have hsl : s.length ≤ 4 := by rw [hs]; unfold named; (repeat' split) <;> decide
  have hi0 : Fr Em Hc (Hc.alloc (.strIter s 0)) := (Fr.refl Hc).alloc _
  refine LOOP3.intro (fun n E Hx => ∃ q y, E = [(91, .ptr Hc.next 0), (6, .ptr b5 0), (4, a), (2, .ptr H.next 0)] ∧ n = s.length - q ∧ q ≤ s.length ∧ LnM H Hx a ws ∧ Hx.get b5 = some (OR y.enc qb) ∧ Hx.get Hc.next = some (.strIter s q) ∧ Hc.next < Hx.next ∧ goRead (s.drop q) (ws.drop (3 + q)) y = readB s0) ?_ ?_
  · exact ⟨_, _, ⟨0, y0, rfl, rfl, by omega, h.em hi0, by rw [zd hb5', h5], qn .., by rw [z6]; omega, hgo⟩, by simp only [↓JN_eq, CTL3, OPS3, cast0, reduceIte, Nat.reduceEqDiff, e4, e2, e6]⟩
  rintro n E Hx ⟨q, y, rfl, rfl, hq, hm, g5, gi, hlt, hgo⟩
  rcases Nat.lt_or_ge q s.length with hlq | hlq
  · obtain ⟨l, hl'⟩ : ∃ l, s[q]? = some l := ⟨s[q], by simp [hlq]⟩
    obtain ⟨hil, h128⟩ := qjv (hs ▸ List.mem_of_getElem? hl' : l ∈ named k)
    have hd : s.drop q = l :: s.drop (q + 1) := by rw [List.drop_eq_getElem_cons hlq]; congr 1; simpa [hlq] using hl'
    obtain ⟨w, hw⟩ : ∃ w, ws[3 + q]? = some w := ⟨ws[3 + q]'(by omega), List.getElem?_eq_getElem (by omega)⟩
    have hdw : ws.drop (3 + q) = w :: ws.drop (3 + (q + 1)) := by
      rw [List.drop_eq_getElem_cons (by omega)]; congr 1; simpa [show 3 + q < ws.length by omega] using hw
    rw [hd, hdw, qjg] at hgo
    have hwlen := hwl w (List.mem_of_getElem? hw)
    have hset : Fr (On Hc.next) Hx (Hx.set Hc.next (.strIter s (q + 1))) := (Fr.refl Hx).set (W := On Hc.next) (.inl rfl) _
    have hm1 : LnM H (Hx.set Hc.next (.strIter s (q + 1))) a ws := hm.off hset h.lt (by omega)
    have w3 : wrapI .i64 (3 + (q : Int)) = ((3 + q : Nat) : Int) := by rw [xc (by omega) (by omega)]; omega
    have lw : Op.load1 [.ptr (slB a) (slO 1 a (3 + q))] (Hx.set Hc.next (.strIter s (q + 1))) = some (.str w) := by rw [hm1.sl.load0 kh hw (by omega)]; rfl
    have g51 : (Hx.set Hc.next (.strIter s (q + 1))).get b5 = some (OR y.enc qb) := by rw [qr (by omega), g5]
    have gi1 : (Hx.set Hc.next (.strIter s (q + 1))).get Hc.next = some (.strIter s (q + 1)) := ql ..
    have hn1 : (Hx.set Hc.next (.strIter s (q + 1))).next = Hx.next := rfl
    simp only [↓JN_eq, CTL3, OPS3, cast0, reduceIte, Nat.reduceEqDiff, w54, w60, w65, qvk gi hl' h128, qg, w3, hm1.sl.idx hw rfl, lw]
    generalize Hx.set Hc.next (.strIter s (q + 1)) = H1 at *
    refine C3.q (qja (M := M) hwlen hm1.tbs) fun v H2 ⟨hf2, nn, ok, hv, hnn, hok1, hok2⟩ => ?_
    subst hv
    have hm2 := hm1.em hf2
    have g52 : H2.get b5 = some (OR y.enc qb) := by rw [hf2.keep _ (by omega) id, g51]
    have gi2 : H2.get Hc.next = some (.strIter s (q + 1)) := by rw [hf2.keep _ (by omega) id, gi1]
    have hn2 := hf2.next
    by_cases hw2 : l = 108 ∨ l = 99
    · have l118 : l ≠ 118 := by rcases hw2 with rfl | rfl <;> decide
      rw [qns hw2] at hgo
      have hN9 := qqv l
      obtain ⟨kk, hkk⟩ : ∃ kk, kk = (wordsOf l).idxOf w := ⟨_, rfl⟩
      obtain ⟨N, hN⟩ : ∃ N, N = (wordsOf l).length := ⟨_, rfl⟩
      rw [← hkk, ← hN] at hgo
      rw [← hN] at hN9
      rcases hw2 with hl8 | hl9
      all_goals first
        | (have e108 : Op.bin .eql [.int .i32 ((l.toNat : Nat) : Int), .int .i32 108] = some (.bool true) := by rw [hl8]; rfl
           simp only [↓JN_eq, CTL3, OPS3, cast0, reduceIte, Nat.reduceEqDiff, w67, e108, qg])
        | (have e108 : Op.bin .eql [.int .i32 ((l.toNat : Nat) : Int), .int .i32 108] = some (.bool false) := by rw [hl9]; rfl
           have e99 : Op.bin .eql [.int .i32 ((l.toNat : Nat) : Int), .int .i32 99] = some (.bool true) := by rw [hl9]; rfl
           simp only [↓JN_eq, CTL3, OPS3, cast0, reduceIte, Nat.reduceEqDiff, w67, e108, e99, qg])
      all_goals
        refine C3.q (qrg (M := M) hil l118) fun v H3 ⟨w2, hv, hf3, hws, _⟩ => ?_
        subst hv
        have hm3 := hm2.em hf3
        have g53 : H3.get b5 = some (OR y.enc qb) := by rw [hf3.keep _ (by omega) id, g52]
        have gi3 : H3.get Hc.next = some (.strIter s (q + 1)) := by rw [hf3.keep _ (by omega) id, gi2]
        have hn3 := hf3.next
        simp only [↓JN_eq, CTL3, OPS3, cast0, reduceIte, Nat.reduceEqDiff, qg]
        refine C3.q (qu4 (M := M) hws (by omega)) fun v H4 ⟨hv, hH⟩ => ?_
        subst hv; subst hH
        rw [← hkk, ← hN]
        by_cases hk : kk < N
        · have m1 : ¬ (kk : Int) < 0 := by omega
          have m2 : wrapI .u64 ((kk : Nat) : Int) = ((kk : Nat) : Int) := w_u64 (by omega)
          rw [if_pos hk]
          simp only [↓JN_eq, CTL3, OPS3, cast0, reduceIte, Nat.reduceEqDiff, max0, if_neg m1, m2]
          refine qtq (okk := decide ((0 : Int) < (kk : Nat))) hm3 hil g53 hb5 (by omega) ha (show kk < 18446744073709551616 by omega) rfl rfl rfl rfl rfl (fun H5 hm5 hor => ?_) fun H5 hm5 hrow hf5 hok hcond => ?_
          · simp only [↓JN_eq, CTL3, OPS3, cast0, reduceIte, Nat.reduceEqDiff, ld_z]
            refine hm5.bad ?_
            rw [← hgo]
            by_cases hk0 : 0 < kk
            · rw [if_pos ⟨hk0, hk⟩]
              simp only
              rw [if_neg (hor.resolve_left (by simp [hk0]))]
            · rw [if_neg (fun q => hk0 q.1)]
          · have hk0 : 0 < kk := by have := of_decide_eq_true hok; omega
            rw [if_pos ⟨hk0, hk⟩] at hgo
            simp only at hgo
            rw [if_pos hcond] at hgo
            simp only [↓JN_eq, CTL3, OPS3, cast0, reduceIte, Nat.reduceEqDiff]
            have hn5 := hf5.next
            exact ⟨_, _, ⟨q + 1, setN y l kk, rfl, rfl, by omega, hm5, hrow, by rw [hf5.keep _ (by omega) (fun (z : Hc.next = b5) => by omega), gi3], by omega, hgo⟩, by simp only [↓JN_eq, CTL3, OPS3, cast0, reduceIte, Nat.reduceEqDiff], by omega⟩
        · rw [if_neg hk]
          have m2 : wrapI .u64 0 = ((0 : Nat) : Int) := by decide +kernel
          simp only [↓JN_eq, CTL3, OPS3, cast0, reduceIte, Nat.reduceEqDiff, max0, Int.reduceLT, Int.reduceNeg, m2]
          refine qtq (v := 0) hm3 hil g53 hb5 (by omega) ha (by omega) rfl rfl rfl rfl rfl (fun H5 hm5 hor => ?_) fun H5 hm5 hrow hf5 hok hcond => nomatch hok
          simp only [↓JN_eq, CTL3, OPS3, cast0, reduceIte, Nat.reduceEqDiff, ld_z]
          refine hm5.bad ?_
          rw [← hgo, if_neg (fun q => hk q.2)]
    · have e108 : Op.bin .eql [.int .i32 ((l.toNat : Nat) : Int), .int .i32 108] = some (.bool false) := by
        rcases hil with rfl | rfl | rfl | rfl | rfl | rfl <;> first | rfl | exact absurd (by decide) hw2
      have e99 : Op.bin .eql [.int .i32 ((l.toNat : Nat) : Int), .int .i32 99] = some (.bool false) := by
        rcases hil with rfl | rfl | rfl | rfl | rfl | rfl <;> first | rfl | exact absurd (by decide) hw2
      rw [qvo (fun q => hw2 (.inl q)) fun q => hw2 (.inr q)] at hgo
      simp only [↓JN_eq, CTL3, OPS3, cast0, reduceIte, Nat.reduceEqDiff, w67, e108, e99, qg]
      refine qtq hm2 hil g52 hb5 (by omega) ha hnn rfl rfl rfl rfl rfl (fun H4 hm4 hor => ?_) fun H4 hm4 hrow hf4 hok hcond => ?_
      · simp only [↓JN_eq, CTL3, OPS3, cast0, reduceIte, Nat.reduceEqDiff, ld_z]
        refine hm4.bad ?_
        rw [← hgo]
        rcases hor with h | h
        · rw [hok2 h]
        · cases ok with
          | false => rw [hok2 rfl]
          | true => rw [hok1 rfl]; simp only; rw [if_neg h]
      · rw [hok1 hok] at hgo
        simp only at hgo
        rw [if_pos hcond] at hgo
        simp only [↓JN_eq, CTL3, OPS3, cast0, reduceIte, Nat.reduceEqDiff]
        have hn4 := hf4.next
        exact ⟨_, _, ⟨q + 1, setN y l nn, rfl, rfl, by omega, hm4, hrow, by rw [hf4.keep _ (by omega) (fun (z : Hc.next = b5) => by omega), gi2], by omega, hgo⟩, by simp only [↓JN_eq, CTL3, OPS3, cast0, reduceIte, Nat.reduceEqDiff], by omega⟩
  · have hq : q = s.length := by omega
    subst hq
    rw [List.drop_length, List.drop_eq_nil_of_le (by omega), qq7] at hgo
    simp only [↓JN_eq, CTL3, OPS3, cast0, reduceIte, Nat.reduceEqDiff, w54, w84, qt4 gi (Nat.le_refl _), qg, ld_ev g5, st_ev hm.t2, ld_z]
    exact ⟨hm.fr.set (.inr (Nat.le_refl _)) _, y, true, rfl, (fun _ => hgo.symm), fun q => nomatch q⟩
end Go.Am
namespace Go.Am
open Tr Go.Proofs
open Lang (dec)
variable {M : Mac} [MK M]
theorem qrb : ∀ {ls : B} {ws : List B} {y z : Evt}, goRead ls ws y = some z → ls.length = ws.length
  | [], [], _, _, _ => rfl
  | [], _ :: _, _, _, h => nomatch h
  | _ :: _, [], _, _, h => nomatch h
  | l :: ls, w :: ws, y, z, h => by
    rw [qjg] at h
    split at h
    · cases h
    · split at h
      · simp [qrb h]
      · cases h
theorem q2g {w : B} {j : Nat} (h1 : 1 ≤ j) (h2 : j ≤ 8) (h : kword (j : Nat) = w) : kindB w = j := by
  rw [← h, q0w (by omega) (by omega)]; omega
theorem kind_0 {w : B} (h : ∀ i : Nat, 1 ≤ i → i ≤ 8 → kword (i : Nat) ≠ w) : kindB w = 0 := by
  by_cases hk : kindB w = 0
  · exact hk
  · obtain ⟨h1, h2, h3⟩ := qrm hk
    exact absurd h3.symm (h _ h1 h2)
theorem qrp {t c k : B} {ws : List B} (h : (named (kindB k)).length ≠ ws.length) : readW (t :: c :: k :: ws) = none := by
  rw [readW]
  split
  · rfl
  · split
    · rfl
    · split
      · rfl
      · split
        · cases q : goRead (named (kindB k)) ws _ with
          | none => rfl
          | some z => exact absurd (qrb q) h
        · rfl
theorem qza {H : AHeap} {s0 : B} {a : AV} {t c kw : B} {rest : List B} {Hc : AHeap} {E : Env} {j : Nat} (h : LnM H Hc a (t :: c :: kw :: rest)) (hs : readB s0 = readW (t :: c :: kw :: rest)) (hj : j ≤ 8) (hk : kindB kw = j) (hl : ∀ w ∈ t :: c :: kw :: rest, w.length < 1000000) (hr : rest.length < 900000)
    (e4 : lk E 4 = some a) (e2 : lk E 2 = some (.ptr H.next 0)) (e5 : lk E 5 = some (.int .i64 (j : Int))) :
    W M ⟨none, zz⟩ (qk 25) true (FIN3 M [.cellN 9 2, .tmp 3] (RT3 (LnQ H (readB s0)))) E [] Hc := by
  obtain ⟨-, -, -, -, w25, -, w33, -, w37, w39, w47, -⟩ := qe2 M ⟨none, zz⟩
  have hlen : Op.lenSl [a] = some (.int .i64 ((3 + rest.length : Nat) : Int)) := by rw [h.sl.len]; congr 3; simp; omega
  by_cases h0 : j = 0
  · subst h0
    have e5 : lk E 5 = some (.int .i64 0) := e5
    simp only [↓JN_eq, CTL3, OPS3, cast0, reduceIte, Nat.reduceEqDiff, w25, e5, Int.reduceLT, yt, e2, st_ev h.t2, ld_z]
    exact h.bad (by rw [hs, readW, if_pos hk])
  have j1 : ¬ (j : Int) < 1 := by omega
  obtain ⟨n1, n2⟩ := h.tbs.tab.nm (show 1 ≤ (j : Int) by omega) (show (j : Int) ≤ 8 by omega)
  have hnl : (named j).length ≤ 4 := by unfold named; (repeat' split) <;> decide
  have w3 : wrapI .i64 (3 + (((named j).length : Nat) : Int)) = ((3 + (named j).length : Nat) : Int) := by rw [xc (by omega) (by omega)]; omega
  by_cases hn : rest.length = (named j).length
  · have n3 : ((3 + rest.length : Nat) : Int) = ((3 + (named j).length : Nat) : Int) := by omega
    rw [n3] at hlen
    simp only [↓JN_eq, CTL3, OPS3, cast0, reduceIte, Nat.reduceEqDiff, w25, w33, w37, e5, e4, j1, n1, n2, w3, hlen]
    refine C3.q (qre (M := M)) fun v H2 ⟨hv, hf2⟩ => ?_
    subst hv
    have hm2 := h.em hf2
    have hst : Op.store 9 [.ptr H2.next 0, .agg (fresh (j : Nat) 0 0).enc] (H2.alloc (OR zE.enc qb)) = some (.undef, (H2.alloc (OR zE.enc qb)).set H2.next (OR (fresh (j : Nat) 0 0).enc qb)) := st_ev (qn ..)
    have hslb : slB a < H2.next := by have := h.sl.bnd (by simp); have := hf2.next; omega
    have hm3 : LnM H ((H2.alloc (OR zE.enc qb)).set H2.next (OR (fresh (j : Nat) 0 0).enc qb)) a (t :: c :: kw :: rest) := (hm2.em ((Fr.refl H2).alloc _)).off ((Fr.refl _).set (W := On H2.next) (.inl rfl) _) hm2.lt hslb
    have h53 : ((H2.alloc (OR zE.enc qb)).set H2.next (OR (fresh (j : Nat) 0 0).enc qb)).get H2.next = some (OR (fresh (j : Nat) 0 0).enc qb) := ql ..
    have hn3 : ((H2.alloc (OR zE.enc qb)).set H2.next (OR (fresh (j : Nat) 0 0).enc qb)).next = H2.next + 1 := rfl
    rw [qe4] at hst hm3 h53 hn3
    have hw0 : (t :: c :: kw :: rest)[0]? = some t := rfl
    have hw1 : (t :: c :: kw :: rest)[1]? = some c := rfl
    have l0 : Op.load1 [.ptr (slB a) (slO 1 a 0)] ((H2.alloc (OR [.int .i64 0, .int .i64 0, .int .i64 0, .int .i64 0, .int .i64 0, .int .i64 0, .int .i64 0, .int .u64 0, .int .i64 0] qb)).set H2.next (OR (fresh (j : Nat) 0 0).enc qb)) = some (.str t) := by rw [hm3.sl.load0 kh hw0 (by omega)]; rfl
    have ix0 : Op.indexSl 1 [a, .int .i64 0] = some (.ptr (slB a) (slO 1 a 0)) := hm3.sl.idx hw0 rfl .i64
    have ix1 : Op.indexSl 1 [a, .int .i64 1] = some (.ptr (slB a) (slO 1 a 1)) := hm3.sl.idx hw1 rfl .i64
    simp only [↓JN_eq, CTL3, OPS3, cast0, reduceIte, Nat.reduceEqDiff, hst, ix0, l0, e4]
    have hlt2 := hm2.lt
    generalize ((H2.alloc (OR [.int .i64 0, .int .i64 0, .int .i64 0, .int .i64 0, .int .i64 0, .int .i64 0, .int .i64 0, .int .u64 0, .int .i64 0] qb)).set H2.next (OR (fresh (j : Nat) 0 0).enc qb)) = H3 at *
    refine C3.q (qja (M := M) (hl t (by simp)) hm3.tbs) fun v H4 ⟨hf4, nt, ok1, hv, hnt, ht1, ht2⟩ => ?_
    subst hv
    have hm4 := hm3.em hf4
    have h54 : H4.get H2.next = some (OR (fresh (j : Nat) 0 0).enc qb) := by rw [hf4.keep _ (by omega) id, h53]
    have hn4 := hf4.next
    have l1 : Op.load1 [.ptr (slB a) (slO 1 a 1)] H4 = some (.str c) := by rw [hm4.sl.load0 kh hw1 (by omega)]; rfl
    simp only [↓JN_eq, CTL3, OPS3, cast0, reduceIte, Nat.reduceEqDiff, w37, qg, ix1, l1, e4]
    refine C3.q (qja (M := M) (hl c (by simp)) hm4.tbs) fun v H5 ⟨hf5, nc, ok2, hv, hnc, hc1, hc2⟩ => ?_
    subst hv
    have hm5 := hm4.em hf5
    have h55 : H5.get H2.next = some (OR (fresh (j : Nat) 0 0).enc qb) := by rw [hf5.keep _ (by omega) id, h54]
    have hn5 := hf5.next
    have hrd : readW (t :: c :: kw :: rest) = match numS t with
      | none => none
      | some t => match numS c with
        | none => none
        | some c => if c < 4 ∧ t < 9223372036854775808 then goRead (named j) rest (fresh j c t) else none := by
      rw [readW, hk, if_neg h0]; rfl
    rw [← hs] at hrd
    have bad5 : readB s0 = none → LnQ H (readB s0) (.tuple [.agg zE.enc, .bool false]) (H5.set H.next (OR zE.enc qb)) := fun q => hm5.bad q
    cases ok1 with
    | false =>
      rw [ht2 rfl] at hrd
      simp only [↓JN_eq, CTL3, OPS3, cast0, reduceIte, Nat.reduceEqDiff, w39, qg, yt, e2, st_ev hm5.t2, ld_z]
      exact bad5 hrd
    | true =>
    rw [ht1 rfl] at hrd
    simp only at hrd
    cases ok2 with
    | false =>
      rw [hc2 rfl] at hrd
      simp only [↓JN_eq, CTL3, OPS3, cast0, reduceIte, Nat.reduceEqDiff, w39, qg, yt, e2, st_ev hm5.t2, ld_z]
      exact bad5 hrd
    | true =>
    rw [hc1 rfl] at hrd
    simp only at hrd
    by_cases d2 : nt < 9223372036854775808
    · have d2' : ¬ (9223372036854775807 : Int) < (nt : Int) := by omega
      by_cases d1 : nc < 4
      · have d1' : ¬ (4 : Int) ≤ (nc : Int) := by omega
        rw [if_pos ⟨d1, d2⟩] at hrd
        have w1 : wrapI .i64 (nc : Int) = (nc : Int) := xc (by omega) (by omega)
        have w2 : wrapI .i64 (nt : Int) = (nt : Int) := xc (by omega) (by omega)
        have s1 : Op.store 1 [.ptr H2.next 1, .int .i64 (nt : Int)] H5 = some (.undef, H5.set H2.next (OR (fresh j 0 nt).enc qb)) := st_1 h55 rfl rfl (by omega) (by simp [fresh, Evt.enc])
        have s2 : Op.store 1 [.ptr H2.next 2, .int .i64 (nc : Int)] (H5.set H2.next (OR (fresh j 0 nt).enc qb)) = some (.undef, (H5.set H2.next (OR (fresh j 0 nt).enc qb)).set H2.next (OR (fresh j nc nt).enc qb)) := st_1 (ql ..) rfl rfl (by omega) (by simp [fresh, Evt.enc])
        rw [qpc] at s2
        have hm6 : LnM H (H5.set H2.next (OR (fresh j nc nt).enc qb)) a (t :: c :: kw :: rest) := hm5.off ((Fr.refl _).set (W := On H2.next) (.inl rfl) _) hlt2 hslb
        simp only [↓JN_eq, CTL3, OPS3, cast0, reduceIte, Nat.reduceEqDiff, w39, w47, qg, d1', d2', w1, w2, s1, s2]
        exact q22 hm6 (by omega) hj hl (by simp; omega) (ql ..) hlt2 (show H2.next < H5.next by omega) hslb hrd.symm e4 e2 e5 rfl
      · have d1' : (4 : Int) ≤ (nc : Int) := by omega
        rw [if_neg (fun q => d1 q.1)] at hrd
        simp only [↓JN_eq, CTL3, OPS3, cast0, reduceIte, Nat.reduceEqDiff, w39, qg, d1', d2', yt, e2, st_ev hm5.t2, ld_z]
        exact bad5 hrd
    · have d2' : (9223372036854775807 : Int) < (nt : Int) := by omega
      rw [if_neg (fun q => d2 q.2)] at hrd
      simp only [↓JN_eq, CTL3, OPS3, cast0, reduceIte, Nat.reduceEqDiff, w39, qg, d2', yt, e2, st_ev hm5.t2, ld_z]
      exact bad5 hrd
  · have n3 : ¬ ((3 + rest.length : Nat) : Int) = ((3 + (named j).length : Nat) : Int) := by omega
    simp only [↓JN_eq, CTL3, OPS3, cast0, reduceIte, Nat.reduceEqDiff, w25, e5, e4, j1, n1, n2, w3, hlen, n3, yt, e2, st_ev h.t2, ld_z]
    exact h.bad (by rw [hs]; exact qrp (by rw [hk]; omega))
theorem q3b {H : AHeap} {s : B} (hl : s.length < 100000) (ht : Tbs H) : CALLQ M zz [.str s] H (LnQ H (readB s)) := by
  refine quz ?_
  obtain ⟨w0, w4, w12, w14, w25, w17, w33, w23, w37, w39, w47, -⟩ := qe2 M ⟨none, zz⟩
  have ha : Fr Em H (H.alloc (OR zE.enc qb)) := (Fr.refl H).alloc _
  have hg1 : (H.alloc (OR zE.enc qb)).get H.next = some (OR zE.enc qb) := qn ..
  have hl1 : H.next < (H.alloc (OR zE.enc qb)).next := by rw [z6]; omega
  rw [qe4] at ha hg1 hl1
  simp only [↓JN_eq, CTL3, OPS3, cast0, reduceIte, Nat.reduceEqDiff, w0]
  generalize H.alloc (OR [.int .i64 0, .int .i64 0, .int .i64 0, .int .i64 0, .int .i64 0, .int .i64 0, .int .i64 0, .int .u64 0, .int .i64 0] qb) = H1 at *
  refine C3.q (qz6 (M := M) (by omega)) fun a H2 ⟨hf2, hsl⟩ => ?_
  rw [← qe4] at hg1
  have hm : LnM H H2 a (splitB 32 s) := ⟨ht.tab.lt, ha.em hf2, by rw [hf2.keep _ hl1 id, hg1], Nat.lt_of_lt_of_le hl1 hf2.next, (ht.em ha).em hf2, hsl⟩
  have hcs := qbr 32 s
  have hcl := qh7 32 s
  have hrs : readB s = readW (splitB 32 s) := rfl
  have hwl := qm5 32 s
  generalize splitB 32 s = ws at *
  by_cases h3 : ws.length < 3
  · have e3 : ((ws.length : Nat) : Int) < 3 := by omega
    simp only [↓JN_eq, CTL3, OPS3, cast0, reduceIte, Nat.reduceEqDiff, w4, hsl.len, e3, yt, st_ev hm.t2, ld_z]
    refine hm.bad ?_
    rw [hrs]
    match ws, h3 with
    | [], _ => rfl
    | [_], _ => rfl
    | [_, _], _ => rfl
    | _ :: _ :: _ :: _, h => simp at h; omega
  have e3 : ¬ ((ws.length : Nat) : Int) < 3 := by omega
  obtain ⟨t, c, kw, rest, rfl⟩ : ∃ t c kw rest, ws = t :: c :: kw :: rest := by
    match ws, h3 with
    | [], h => simp at h
    | [_], h => simp at h
    | [_, _], h => simp at h
    | t :: c :: kw :: rest, _ => exact ⟨t, c, kw, rest, rfl⟩
  simp only [↓JN_eq, CTL3, OPS3, cast0, reduceIte, Nat.reduceEqDiff, w4, w12, w14, hsl.len, e3]
  refine LOOP3.intro (fun n E Hx => ∃ j : Nat, Hx = H2 ∧ E = [(5, .int .i64 (j : Nat)), (4, a), (2, .ptr H.next 0)] ∧ n = j ∧ j ≤ 8 ∧ ∀ i : Nat, j < i → i ≤ 8 → kword (i : Nat) ≠ kw) ?_ ?_
  · exact ⟨_, _, ⟨8, rfl, rfl, rfl, by omega, fun i h1 h2 => by omega⟩, by simp only [↓JN_eq, CTL3, OPS3, cast0, reduceIte, Nat.reduceEqDiff]; rfl⟩
  rintro j E Hx ⟨_, rfl, rfl, rfl, hj, hi⟩
  have hlw : ∀ w ∈ t :: c :: kw :: rest, w.length < 1000000 := fun w hw => by have := hwl w hw; omega
  have hrl : rest.length < 900000 := by simp at hcs; omega
  by_cases hj0 : j = 0
  · subst hj0
    have z0 : ((0 : Nat) : Int) = 0 := rfl
    simp only [↓JN_eq, CTL3, OPS3, cast0, reduceIte, Nat.reduceEqDiff, w17, z0, Int.reduceLT]
    exact qza hm hrs (by omega) (kind_0 fun i h1 h2 => hi i (by omega) h2) hlw hrl rfl rfl rfl
  · have j0 : (0 : Int) < (j : Int) := by omega
    obtain ⟨k1, k2⟩ := hm.tbs.tab.kd (show 1 ≤ (j : Int) by omega) (show (j : Int) ≤ 8 by omega)
    have hw2 : (t :: c :: kw :: rest)[2]? = some kw := rfl
    have l2 : Op.load1 [.ptr (slB a) (slO 1 a 2)] Hx = some (.str kw) := by rw [hsl.load0 kh hw2 (by omega)]; rfl
    have hix : Op.indexSl 1 [a, .int .i64 2] = some (.ptr (slB a) (slO 1 a 2)) := hsl.idx hw2 rfl .i64
    by_cases hkw : kword (j : Nat) = kw
    · simp only [↓JN_eq, CTL3, OPS3, cast0, reduceIte, Nat.reduceEqDiff, w17, j0, k1, k2, hix, l2, hkw]
      exact qza hm hrs hj (q2g (by omega) hj hkw) hlw hrl rfl rfl rfl
    · have wj : wrapI .i64 ((j : Int) - 1) = ((j - 1 : Nat) : Int) := by rw [xc (by omega) (by omega)]; omega
      simp only [↓JN_eq, CTL3, OPS3, cast0, reduceIte, Nat.reduceEqDiff, w17, w23, j0, k1, k2, hix, l2, hkw, wj]
      refine ⟨_, _, ⟨j - 1, rfl, rfl, by omega, fun i h1 h2 => ?_⟩, by simp only [↓JN_eq, CTL3, OPS3, cast0, reduceIte, Nat.reduceEqDiff], by omega⟩
      by_cases hij : i = j
      · rw [hij]; exact hkw
      · exact hi i (by omega) h2
end Go.Am
