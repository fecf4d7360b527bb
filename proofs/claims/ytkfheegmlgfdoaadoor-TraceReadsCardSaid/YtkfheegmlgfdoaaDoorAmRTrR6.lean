/- TrR6: RxF RxG RxH RxI RxJ RxK RxL. -/
import Derived.Test.YtkfheegmlgfdoaaDoorAmRTrR5
import Derived.Test.YtkfheegmlgfdoaaDoorAmRTrR4
set_option linter.unusedVariables false
set_option linter.unusedSimpArgs false
set_option linter.unusedSectionVars false
set_option maxRecDepth 100000
namespace Go.Am
open Tr Go.Proofs
variable {M : Mac} [MK M]
theorem q2h {H : AHeap} {s : B} (hl : s.length < 90000) (ht : Tbs H) (hread : ∀ H l, Tbs H → l.length < 90000 → CALLQ M x3 [.str l] H (LnQ H (readB l))) : CALLQ M jy [.str s] H (ParQ H (parseB s)) := by
  refine qtk ?_
  obtain ⟨w0, w4, w6, w39, w11, w17, w38, w21, w27, w29, w37⟩ := qsa M ⟨none, jy⟩
  simp only [↓JN_eq, CTL3, OPS3, cast0, reduceIte, Nat.reduceEqDiff, w0]
  have hsp := qny (M := M) (H := H) (s := s) (c := 10) (by omega)
  refine C3.q (show CALLQ M js [.str s, .int .u8 10] H fun v H' => NewW H H' v (splitB 10 s) from hsp) fun v5 H1 hv5 => ?_
  have hpb : parseB s = parseGo 0 (splitB 10 s) := rfl
  have hwl := qm5 10 s
  have hcs := qbr 10 s
  have hcl := qh7 10 s
  rw [hpb]
  generalize splitB 10 s = ws at *
  have hsl := hv5.sl
  have hwn : ws.length < 100000 := by omega
  have hw0 : 0 < ws.length := by omega
  simp only [↓JN_eq, CTL3, OPS3, cast0, reduceIte, Nat.reduceEqDiff, w4, w6]
  refine LOOP3.intro (fun n E Hx => ∃ (i : Nat) (w : AV) (xs : List Evt), E = [(7, .int .i64 (i : Nat)), (6, w), (5, v5)] ∧ n = ws.length - i ∧ i ≤ ws.length ∧ NewE H1 Hx w xs ∧ xs.length ≤ i ∧ parseGo 0 ws = (match parseGo i (ws.drop i) with
    | .ok h => .ok (xs ++ h)
    | .error k => .error k)) ?_ ?_
  · refine ⟨_, _, ⟨0, .nils, [], rfl, rfl, Nat.zero_le _, New.nil H1, Nat.le_refl _, ?_⟩, by simp only [↓JN_eq, CTL3, OPS3, cast0, reduceIte, Nat.reduceEqDiff]⟩
    rw [List.drop_zero]; cases parseGo 0 ws <;> rfl
  rintro n E Hx ⟨i, w, xs, rfl, rfl, hi, hw, hxl, hps⟩
  have hsx := hsl.em hw.fr
  have good : parseGo i (ws.drop i) = .ok [] → ParQ H (parseGo 0 ws) (.tuple [w, .int .i64 0, .int .i64 0]) Hx := fun q => by
    refine .inl ⟨xs, w, by rw [hps, q]; simp, rfl, hw.own, hv5.fr.em hw.fr, fun b hb => Nat.le_trans hv5.fr.next (hw.fresh b hb)⟩
  by_cases hlt : i < ws.length
  · have e1 : (i : Int) < (ws.length : Nat) := by omega
    have wl : wrapI .i64 (((ws.length : Nat) : Int) - 1) = ((ws.length - 1 : Nat) : Int) := by rw [xc (by omega) (by omega)]; omega
    have wi : wrapI .i64 ((i : Int) + 1) = ((i + 1 : Nat) : Int) := by rw [xc (by omega) (by omega)]; omega
    obtain ⟨l, hlg⟩ : ∃ l, ws[i]? = some l := ⟨ws[i], by simp [hlt]⟩
    have hd : ws.drop i = l :: ws.drop (i + 1) := by rw [List.drop_eq_getElem_cons hlt]; congr 1; simpa [hlt] using hlg
    have lx : Op.load1 [.ptr (slB v5) (slO 1 v5 i)] Hx = some (.str l) := by rw [hsx.load0 kh hlg (by omega)]; rfl
    have hll := hwl l (List.mem_of_getElem? hlg)
    have rd : ∀ (lst : Bool) (Q : Post3) (E : Env), lk E 5 = some v5 → lk E 7 = some (.int .i64 (i : Nat)) → lk E 8 = some (.bool lst) → lk E 6 = some w →
        (∀ E' H', Fr Em Hx H' → (readB l = none ∨ lst = true) → Q .ret ((4, .int .i64 230) :: (3, .int .i64 ((i + 1 : Nat) : Int)) :: (2, .nils) :: E') [] H') →
        (∀ E' H' v' y, NewE H1 H' v' (xs ++ [y]) → readB l = some y → lst = false → lk E' 5 = some v5 → lk E' 7 = some (.int .i64 (i : Nat)) → lk E' 6 = some v' → Q .normal E' [] H') →
        W M ⟨none, jy⟩ (xb 27) true Q E [] Hx := by
      intro lst Q E q5 q7 q8 q6 hbad hgood
      simp only [↓JN_eq, CTL3, OPS3, cast0, reduceIte, Nat.reduceEqDiff, w27, q5, q7, hsx.idx hlg rfl, lx]
      refine C3.q (hread Hx l (ht.em (hv5.fr.em hw.fr)) (by omega)) fun v H2 ⟨hf2, y, ok, hv, ho1, ho2⟩ => ?_
      subst hv
      have hst : Op.store 9 [.ptr H2.next 0, .agg y.enc] (H2.alloc (OR zE.enc qb)) = some (.undef, (H2.alloc (OR zE.enc qb)).set H2.next (OR y.enc qb)) := st_ev (qn ..)
      have hf3 : Fr Em Hx ((H2.alloc (OR zE.enc qb)).set H2.next (OR y.enc qb)) := (hf2.alloc _).set (.inr hf2.next) _
      have g9 : ((H2.alloc (OR zE.enc qb)).set H2.next (OR y.enc qb)).get H2.next = some (OR y.enc qb) := ql ..
      rw [qe4] at hst hf3 g9
      simp only [↓JN_eq, CTL3, OPS3, cast0, reduceIte, Nat.reduceEqDiff, qg, hst]
      generalize (H2.alloc (OR [.int .i64 0, .int .i64 0, .int .i64 0, .int .i64 0, .int .i64 0, .int .i64 0, .int .i64 0, .int .u64 0, .int .i64 0] qb)).set H2.next (OR y.enc qb) = H3 at *
      cases ok with
      | false =>
        simp only [↓JN_eq, CTL3, OPS3, cast0, reduceIte, Nat.reduceEqDiff, w29, q7, wi]
        exact hbad _ _ hf3 (.inl (ho2 rfl))
      | true =>
        cases lst with
        | true =>
          simp only [↓JN_eq, CTL3, OPS3, cast0, reduceIte, Nat.reduceEqDiff, w29, q7, q8, wi]
          exact hbad _ _ hf3 (.inr rfl)
        | false =>
          simp only [↓JN_eq, CTL3, OPS3, cast0, reduceIte, Nat.reduceEqDiff, w29, w37, q8, q6, ld_ev g9]
          refine (hw.em hf3).app4 (bytes := 72) (a := y) rfl rfl rfl rfl (by omega) (by omega) (by omega) fun v' H7 hv' hf7 => ?_
          simp only [↓JN_eq, CTL3, OPS3, cast0, reduceIte, Nat.reduceEqDiff]
          exact hgood _ _ v' y hv' (ho1 rfl) rfl q5 q7 rfl
    have bad : ∀ H', Fr Em Hx H' → parseGo i (ws.drop i) = .error (i + 1) → ParQ H (parseGo 0 ws) (.tuple [.nils, .int .i64 ((i + 1 : Nat) : Int), .int .i64 230]) H' := fun H' f q => .inr ⟨i + 1, by rw [hps, q], rfl, (hv5.fr.em hw.fr).em f⟩
    by_cases hlast : i = ws.length - 1
    · have hd1 : ws.drop i = [l] := by rw [hd, List.drop_eq_nil_of_le (by omega)]
      have hlen := hsx.len
      have hix := hsx.idx hlg rfl .i64
      have hq : ∀ (z : Int), Op.bin .eql [.int .i64 z, .int .i64 z] = some (.bool true) := fun z => by
        show some (AV.bool (eqI z z)) = _
        rw [qcv]; simp
      subst hlast
      by_cases hl0 : l = []
      · have hll0 : Op.lenStr [.str l] = some (.int .i64 0) := by rw [hl0]; rfl
        simp only [↓JN_eq, CTL3, OPS3, cast0, reduceIte, Nat.reduceEqDiff, w11, w17, w21, w39, hlen, e1, wl, hix, lx, hll0]
        exact good (by rw [hd1, parseGo, if_pos hl0])
      · have hll0 : ¬ ((l.length : Nat) : Int) = 0 := fun q => hl0 (List.length_eq_zero_iff.1 (by omega))
        simp only [↓JN_eq, CTL3, OPS3, cast0, reduceIte, Nat.reduceEqDiff, w11, w17, w21, hlen, e1, wl, hix, lx, hll0]
        refine rd true _ _ rfl rfl rfl rfl (fun E' H' f hor => ?_) fun E' H' v' y hv' hr hf _ _ _ => nomatch hf
        simp only [↓JN_eq, CTL3, OPS3, cast0, reduceIte, Nat.reduceEqDiff]
        exact bad H' f (by rw [hd1, parseGo, if_neg hl0])
    · have k1 : ¬ (i : Int) = ((ws.length - 1 : Nat) : Int) := by omega
      simp only [↓JN_eq, CTL3, OPS3, cast0, reduceIte, Nat.reduceEqDiff, w11, w17, w21, w38, hsx.len, e1, wl, k1]
      refine rd false _ _ rfl rfl rfl rfl (fun E' H' f hor => ?_) fun E' H' v' y hv' hr _ r5 r7 r6 => ?_
      · simp only [↓JN_eq, CTL3, OPS3, cast0, reduceIte, Nat.reduceEqDiff]
        refine bad H' f ?_
        rw [hd]
        have hne : ws.drop (i + 1) ≠ [] := fun q => by have := congrArg List.length q; rw [List.length_drop] at this; simp at this; omega
        cases h : ws.drop (i + 1) with
        | nil => exact absurd h hne
        | cons a r => rw [parseGo, hor.resolve_right (by simp)]
      · simp only [↓JN_eq, CTL3, OPS3, cast0, reduceIte, Nat.reduceEqDiff, w38, r7, wi]
        refine ⟨_, _, ⟨i + 1, v', xs ++ [y], rfl, rfl, hlt, hv', by simp; omega, ?_⟩, by simp only [↓JN_eq, CTL3, OPS3, cast0, reduceIte, Nat.reduceEqDiff, r5, r6], by omega⟩
        rw [hps, hd]
        have hne : ws.drop (i + 1) ≠ [] := fun q => by have := congrArg List.length q; rw [List.length_drop] at this; simp at this; omega
        cases h : ws.drop (i + 1) with
        | nil => exact absurd h hne
        | cons a r => rw [parseGo, hr]; simp only; cases parseGo (i + 1) (a :: r) <;> simp
  · have hi : i = ws.length := by omega
    subst hi
    have e1 : ¬ ((ws.length : Nat) : Int) < (ws.length : Nat) := by omega
    simp only [↓JN_eq, CTL3, OPS3, cast0, reduceIte, Nat.reduceEqDiff, w11, w39, hsx.len, e1]
    exact good (by rw [List.drop_length, parseGo])
end Go.Am
namespace Go.Am
open Tr Go.Proofs
variable {M : Mac} [MK M]
theorem word_idx {l : UInt8} (hw : l = 108 ∨ l = 99) {j : Nat} {w : B} (h : (wordsOf l)[j]? = some w) : (wordsOf l).idxOf w = j := by
  have hj : j < (wordsOf l).length := (List.getElem?_eq_some_iff.1 h).1
  have he : (wordsOf l)[j] = w := (List.getElem?_eq_some_iff.1 h).2
  rcases hw with rfl | rfl
  · have key : ∀ j : Fin (wordsOf 108).length, (wordsOf 108).idxOf ((wordsOf 108)[j.1]'j.2) = j.1 := by decide
    have := key ⟨j, hj⟩
    rw [← he]; exact this
  · have key : ∀ j : Fin (wordsOf 99).length, (wordsOf 99).idxOf ((wordsOf 99)[j.1]'j.2) = j.1 := by decide
    have := key ⟨j, hj⟩
    rw [← he]; exact this
theorem fld_at {l : UInt8} (hw : l = 108 ∨ l = 99) {j : Nat} {w : B} (h1 : 1 ≤ j) (h : (wordsOf l)[j]? = some w) : fldB l w = some j := by
  have hj : j < (wordsOf l).length := (List.getElem?_eq_some_iff.1 h).1
  rw [qns hw, word_idx hw h, if_pos ⟨h1, hj⟩]
theorem fld_no {l : UInt8} (hw : l = 108 ∨ l = 99) {w : B} (h : ∀ j, 1 ≤ j → (wordsOf l)[j]? ≠ some w) : fldB l w = none := by
  rw [qns hw]
  by_cases q : 0 < (wordsOf l).idxOf w ∧ (wordsOf l).idxOf w < (wordsOf l).length
  · exact absurd (by rw [List.getElem?_eq_getElem q.2, List.getElem_idxOf]) (h _ q.1)
  · rw [if_neg q]
theorem rlook {H : AHeap} {E : Env} {Q : Post3} {a w2 : AV} {ws : List B} {l : UInt8} {q v0 : Nat} {w nm : B} {b2 b13 : Nat} (hw2 : l = 108 ∨ l = 99) (ha : SlT encS 1 H a ws) (hws : SlT encS 1 H w2 (wordsOf l)) (hw : ws[3 + q]? = some w) (hq : q < 100) (hv0 : v0 < 18446744073709551616)
    (e17 : lk E 17 = some w2) (e4 : lk E 4 = some a) (e14 : lk E 14 = some (.int .i64 (q : Int))) (e13 : lk E 13 = some (.ptr b13 0)) (e8 : lk E 8 = some (.str nm)) (e2 : lk E 2 = some (.ptr b2 0)) (e15 : lk E 15 = some (.int .u64 (v0 : Nat))) (e16 : lk E 16 = some (.bool false))
    (hk : ∀ (E' : Env) (v : Nat) (ok : Bool), lk E' 4 = some a → lk E' 14 = some (.int .i64 (q : Int)) → lk E' 13 = some (.ptr b13 0) → lk E' 8 = some (.str nm) → lk E' 2 = some (.ptr b2 0) → lk E' 15 = some (.int .u64 (v : Nat)) → lk E' 16 = some (.bool ok) → v < 18446744073709551616 → (ok = true → fldB l w = some v) → (ok = false → fldB l w = none) → Q .normal E' [] H) :
    W M ⟨none, x3⟩ (qf 82) true Q E [] H := by
  obtain ⟨-, -, -, -, -, -, -, -, -, -, -, -, -, -, -, -, -, -, -, w82, -, w86, -, w92, w101⟩ := qcg M ⟨none, x3⟩
  have hN9 := qqv l
  simp only [↓JN_eq, CTL3, OPS3, cast0, reduceIte, Nat.reduceEqDiff, w82]
  refine LOOP3.intro (fun n E Hx => ∃ (i v : Nat) (f : Bool), Hx = H ∧ E = [(18, .int .i64 (i : Nat)), (17, w2), (16, .bool f), (15, .int .u64 (v : Nat)), (14, .int .i64 (q : Int)), (13, .ptr b13 0), (8, .str nm), (4, a), (2, .ptr b2 0)] ∧ n = 10 - i ∧ 1 ≤ i ∧ i ≤ 10 ∧ v < 18446744073709551616 ∧ (f = true → ∃ j, 1 ≤ j ∧ (wordsOf l)[j]? = some w ∧ v = j) ∧ (f = false → ∀ j, 1 ≤ j → j < i → (wordsOf l)[j]? ≠ some w)) ?_ ?_
  · exact ⟨_, _, ⟨1, v0, false, rfl, rfl, rfl, Nat.le_refl _, by omega, hv0, (fun q => nomatch q), fun _ j h1 h2 => by omega⟩, by simp only [↓JN_eq, CTL3, OPS3, cast0, reduceIte, Nat.reduceEqDiff, e17, e4, e14, e13, e8, e2, e15, e16]; rfl⟩
  rintro n E Hx ⟨i, v, f, rfl, rfl, rfl, hi1, hi10, hv, hf1, hf2⟩
  by_cases hlt : i < (wordsOf l).length
  · have e1 : (i : Int) < ((wordsOf l).length : Nat) := by omega
    obtain ⟨x, hx⟩ : ∃ x, (wordsOf l)[i]? = some x := ⟨(wordsOf l)[i], by simp [hlt]⟩
    have lx : Op.load1 [.ptr (slB w2) (slO 1 w2 i)] Hx = some (.str x) := by rw [hws.load0 kh hx (by omega)]; rfl
    have lw : Op.load1 [.ptr (slB a) (slO 1 a (3 + q))] Hx = some (.str w) := by rw [ha.load0 kh hw (by omega)]; rfl
    have w3 : wrapI .i64 (3 + (q : Int)) = ((3 + q : Nat) : Int) := by rw [xc (by omega) (by omega)]; omega
    have wi : wrapI .i64 ((i : Int) + 1) = ((i + 1 : Nat) : Int) := by rw [xc (by omega) (by omega)]; omega
    have wu : wrapI .u64 ((i : Nat) : Int) = ((i : Nat) : Int) := w_u64 (by omega)
    by_cases hxw : x = w
    · have he : Op.bin .eql [.str x, .str w] = some (.bool true) := by show some (AV.bool (eqS x w)) = _; rw [hxw, qki]; simp
      simp only [↓JN_eq, CTL3, OPS3, cast0, reduceIte, Nat.reduceEqDiff, w86, w92, w101, hws.len, e1, hws.idx hx rfl, lx, w3, ha.idx hw rfl, lw, decide_eq_true hxw, wu, wi]
      exact ⟨_, _, ⟨i + 1, i, true, rfl, rfl, by omega, by omega, by omega, fun _ => ⟨i, hi1, hxw ▸ hx, rfl⟩, fun q => nomatch q⟩, by simp only [↓JN_eq, CTL3, OPS3, cast0, reduceIte, Nat.reduceEqDiff], by omega⟩
    · simp only [↓JN_eq, CTL3, OPS3, cast0, reduceIte, Nat.reduceEqDiff, w86, w92, w101, hws.len, e1, hws.idx hx rfl, lx, w3, ha.idx hw rfl, lw, hxw, wi]
      refine ⟨_, _, ⟨i + 1, v, f, rfl, rfl, by omega, by omega, hv, hf1, fun hf j h1 h2 => ?_⟩, by simp only [↓JN_eq, CTL3, OPS3, cast0, reduceIte, Nat.reduceEqDiff], by omega⟩
      by_cases hji : j = i
      · subst hji; rw [hx]; exact fun q => hxw (Option.some.inj q)
      · exact hf2 hf j h1 (by omega)
  · have e1 : ¬ (i : Int) < ((wordsOf l).length : Nat) := by omega
    simp only [↓JN_eq, CTL3, OPS3, cast0, reduceIte, Nat.reduceEqDiff, w86, hws.len, e1]
    refine hk _ v f rfl rfl rfl rfl rfl rfl rfl hv (fun hf => ?_) fun hf => fld_no hw2 fun j h1 => ?_
    · obtain ⟨j, h1, h2, rfl⟩ := hf1 hf
      exact fld_at hw2 h1 h2
    · by_cases hj : j < i
      · exact hf2 hf j h1 hj
      · rw [List.getElem?_eq_none (by omega)]; exact fun q => nomatch q
end Go.Am
namespace Go.Am
open Tr Go.Proofs
variable {M : Mac} [MK M]
theorem q3e {H H3 : AHeap} {a : AV} {ws : List B} {b5 q : Nat} {y : Evt} {l : UInt8} {v : Nat} {okk : Bool} {s : B} {E : Env} {Q : Post3} (h : LnM H H3 a ws) (hil : isL l) (h5 : H3.get b5 = some (OR y.enc qb)) (hb5 : H.next < b5) (hb5' : b5 < H3.next) (ha : slB a < b5) (hv : v < 18446744073709551616) (hsq : s[q]? = some l)
    (e16 : lk E 16 = some (.bool okk)) (e15 : lk E 15 = some (.int .u64 (v : Nat))) (e8 : lk E 8 = some (.str s)) (e14 : lk E 14 = some (.int .i64 (q : Int))) (e13 : lk E 13 = some (.ptr b5 0)) (e2 : lk E 2 = some (.ptr H.next 0)) (e4 : lk E 4 = some a)
    (hbad : ∀ E' H4, lk E' 2 = some (.ptr H.next 0) → LnM H H4 a ws → (okk = false ∨ ¬ ((l = 118 ∨ v < 9223372036854775808) ∧ mayN l v = true)) → Q .ret ((3, .bool false) :: E') [] (H4.set H.next (OR zE.enc qb)))
    (hgood : ∀ E' H4, lk E' 8 = some (.str s) → lk E' 14 = some (.int .i64 (q : Int)) → lk E' 13 = some (.ptr b5 0) → lk E' 2 = some (.ptr H.next 0) → lk E' 4 = some a → LnM H H4 a ws → b5 < H4.next → H4.get b5 = some (OR (setN y l v).enc qb) → okk = true → ((l = 118 ∨ v < 9223372036854775808) ∧ mayN l v = true) → Q .normal E' [] H4) :
    W M ⟨none, x3⟩ (qf 103) true Q E [] H3 := by
  obtain ⟨-, -, -, -, -, -, -, -, -, -, -, -, -, -, -, -, -, -, w103, -, w105, -, w113, -⟩ := qcg M ⟨none, x3⟩
  have ix : Op.indexStr [.str s, .int .i64 (q : Int)] = some (.int .u8 l.toNat) := vv rfl hsq
  simp only [↓JN_eq, CTL3, OPS3, cast0, reduceIte, Nat.reduceEqDiff, w103, e13, ld_ev h5, e8, e14, ix, e15]
  refine C3.q (qt1 (M := M) hil (show (0 : Int) ≤ (v : Nat) by omega) (by omega)) fun u H4 ⟨⟨z, qq, hu, hz1, hz2⟩, hf4⟩ => ?_
  subst hu
  have hst : Op.store 9 [.ptr H4.next 0, .agg z.enc] (H4.alloc (OR zE.enc qb)) = some (.undef, (H4.alloc (OR zE.enc qb)).set H4.next (OR z.enc qb)) := st_ev (qn ..)
  have hf5 : Fr Em H3 ((H4.alloc (OR zE.enc qb)).set H4.next (OR z.enc qb)) := (hf4.alloc _).set (.inr hf4.next) _
  have g19 : ((H4.alloc (OR zE.enc qb)).set H4.next (OR z.enc qb)).get H4.next = some (OR z.enc qb) := ql ..
  rw [qe4] at hst hf5 g19
  simp only [↓JN_eq, CTL3, OPS3, cast0, reduceIte, Nat.reduceEqDiff, qg, hst]
  generalize (H4.alloc (OR [.int .i64 0, .int .i64 0, .int .i64 0, .int .i64 0, .int .i64 0, .int .i64 0, .int .i64 0, .int .u64 0, .int .i64 0] qb)).set H4.next (OR z.enc qb) = H5 at *
  have hm5 := h.em hf5
  have g5 : H5.get b5 = some (OR y.enc qb) := by rw [hf5.keep _ hb5' id, h5]
  cases okk with
  | false =>
    simp only [↓JN_eq, CTL3, OPS3, cast0, reduceIte, Nat.reduceEqDiff, w105, e16, yt, e2, st_ev hm5.t2]
    exact hbad _ _ e2 hm5 (.inl rfl)
  | true =>
    cases qq with
    | true =>
      have hz := hz2 rfl
      subst hz
      have hmay : l = 118 → mayN l v = true := fun h => by rw [h]; rfl
      have hcond : (l = 118 ∨ v < 9223372036854775808) ∧ mayN l v = true := by
        rcases hz1.1 rfl with h | ⟨h, h'⟩
        · exact ⟨.inl h, hmay h⟩
        · exact ⟨.inr (by omega), h'⟩
      simp only [↓JN_eq, CTL3, OPS3, cast0, reduceIte, Nat.reduceEqDiff, w105, w113, e16, e13, ld_ev g19, st_ev g5]
      exact hgood _ _ e8 e14 e13 e2 e4 (hm5.off ((Fr.refl H5).set (W := On b5) (.inl rfl) _) hb5 ha) (Nat.lt_of_lt_of_le hb5' hf5.next) (ql ..) rfl hcond
    | false =>
      have hcond : ¬ ((l = 118 ∨ v < 9223372036854775808) ∧ mayN l v = true) := fun h => by
        have : false = true := hz1.2 (by
          by_cases h1 : l = 118
          · exact .inl h1
          · exact .inr ⟨by have := h.1.resolve_left h1; omega, h.2⟩)
        cases this
      simp only [↓JN_eq, CTL3, OPS3, cast0, reduceIte, Nat.reduceEqDiff, w105, e16, yt, e2, st_ev hm5.t2]
      exact hbad _ _ e2 hm5 (.inr hcond)
end Go.Am
namespace Go.Am
open Tr Go.Proofs
variable {M : Mac} [MK M]
theorem qz2 {H : AHeap} {s0 : B} {a : AV} {ws : List B} {y0 : Evt} {Hc : AHeap} {E : Env} {k : Nat} (h : LnM H Hc a ws) (hk1 : 1 ≤ k) (hk2 : k ≤ 8) (hn : ws.length = 3 + (named k).length)
    {b5 : Nat} (h5 : Hc.get b5 = some (OR y0.enc qb)) (hb5 : H.next < b5) (hb5' : b5 < Hc.next) (ha : slB a < b5) (hgo : goRead (named k) (ws.drop 3) y0 = readB s0)
    (e4 : lk E 4 = some a) (e2 : lk E 2 = some (.ptr H.next 0)) (e8 : lk E 8 = some (.str (named k))) (e13 : lk E 13 = some (.ptr b5 0)) :
    W M ⟨none, x3⟩ (qf 59) true (FIN3 M [.cellN 9 2, .tmp 3] (RT3 (LnQ H (readB s0)))) E [] Hc := by
  obtain ⟨-, -, -, -, -, -, -, -, -, -, -, -, w59, w115, w64, w70, w114, w76, -⟩ := qcg M ⟨none, x3⟩
  obtain ⟨s, hs⟩ : ∃ s, s = named k := ⟨_, rfl⟩
  rw [← hs] at hgo hn e8
  have hsl : s.length ≤ 4 := by rw [hs]; unfold named; (repeat' split) <;> decide
  simp only [↓JN_eq, CTL3, OPS3, cast0, reduceIte, Nat.reduceEqDiff, w59]
  refine LOOP3.intro (fun n E Hx => ∃ q y, E = [(14, .int .i64 (q : Nat)), (13, .ptr b5 0), (8, .str s), (4, a), (2, .ptr H.next 0)] ∧ n = s.length - q ∧ q ≤ s.length ∧ LnM H Hx a ws ∧ Hx.get b5 = some (OR y.enc qb) ∧ b5 < Hx.next ∧ goRead (s.drop q) (ws.drop (3 + q)) y = readB s0) ?_ ?_
  · exact ⟨_, _, ⟨0, y0, rfl, rfl, by omega, h, h5, hb5', hgo⟩, by simp only [↓JN_eq, CTL3, OPS3, cast0, reduceIte, Nat.reduceEqDiff, e4, e2, e8, e13]⟩
  rintro n E Hx ⟨q, y, rfl, rfl, hq, hm, g5, hbx, hgo⟩
  rcases Nat.lt_or_ge q s.length with hlq | hlq
  · have e1 : (q : Int) < (s.length : Nat) := by omega
    obtain ⟨l, hl'⟩ : ∃ l, s[q]? = some l := ⟨s[q], by simp [hlq]⟩
    obtain ⟨hil, h128⟩ := qjv (hs ▸ List.mem_of_getElem? hl' : l ∈ named k)
    have hd : s.drop q = l :: s.drop (q + 1) := by rw [List.drop_eq_getElem_cons hlq]; congr 1; simpa [hlq] using hl'
    obtain ⟨w, hw⟩ : ∃ w, ws[3 + q]? = some w := ⟨ws[3 + q]'(by omega), List.getElem?_eq_getElem (by omega)⟩
    have hdw : ws.drop (3 + q) = w :: ws.drop (3 + (q + 1)) := by
      rw [List.drop_eq_getElem_cons (by omega)]; congr 1; simpa [show 3 + q < ws.length by omega] using hw
    rw [hd, hdw, qjg] at hgo
    have w3 : wrapI .i64 (3 + (q : Int)) = ((3 + q : Nat) : Int) := by rw [xc (by omega) (by omega)]; omega
    have wq : wrapI .i64 ((q : Int) + 1) = ((q + 1 : Nat) : Int) := by rw [xc (by omega) (by omega)]; omega
    have lw : Op.load1 [.ptr (slB a) (slO 1 a (3 + q))] Hx = some (.str w) := by rw [hm.sl.load0 kh hw (by omega)]; rfl
    have ix : Op.indexStr [.str s, .int .i64 (q : Int)] = some (.int .u8 l.toNat) := vv rfl hl'
    simp only [↓JN_eq, CTL3, OPS3, cast0, reduceIte, Nat.reduceEqDiff, w64, w70, e1, w3, hm.sl.idx hw rfl, lw]
    refine C3.q (qhq (M := M)) fun v H2 ⟨hf2, nn, ok, hv, hnn, hok1, hok2⟩ => ?_
    subst hv
    simp only [↓JN_eq, CTL3, OPS3, cast0, reduceIte, Nat.reduceEqDiff, qg, ix]
    refine C3.q (qwl (M := M) hil) fun w2 H3 ⟨hf3, hws⟩ => ?_
    have hm3 := (hm.em hf2).em hf3
    have hf23 := hf2.em hf3
    have g53 : H3.get b5 = some (OR y.enc qb) := by rw [hf23.keep _ hbx id, g5]
    have hb3 : b5 < H3.next := Nat.lt_of_lt_of_le hbx hf23.next
    have fin : ∀ (E' : Env) (v : Nat) (okk : Bool), v < 18446744073709551616 → (okk = true → fldB l w = some v) → (okk = false → fldB l w = none) → lk E' 16 = some (.bool okk) → lk E' 15 = some (.int .u64 (v : Nat)) → lk E' 8 = some (.str s) → lk E' 14 = some (.int .i64 (q : Int)) → lk E' 13 = some (.ptr b5 0) → lk E' 2 = some (.ptr H.next 0) → lk E' 4 = some a →
        W M ⟨none, x3⟩ (qf 103) true (BLK3 3 (SEQ3 (W M ⟨none, x3⟩ (qf 114)) (LQ3 (fun n E Hx => ∃ q y, E = [(14, .int .i64 (q : Nat)), (13, .ptr b5 0), (8, .str s), (4, a), (2, .ptr H.next 0)] ∧ n = s.length - q ∧ q ≤ s.length ∧ LnM H Hx a ws ∧ Hx.get b5 = some (OR y.enc qb) ∧ b5 < Hx.next ∧ goRead (s.drop q) (ws.drop (3 + q)) y = readB s0) [] (s.length - q) (BLK3 2 (SEQ3 (W M ⟨none, x3⟩ (qf 115)) (FIN3 M [.cellN 9 2, .tmp 3] (RT3 (LnQ H (readB s0))))))))) E' [] H3 := by
      intro E' v okk hv ho1 ho2 q16 q15 q8 q14 q13 q2 q4
      refine q3e hm3 hil g53 hb5 hb3 ha hv hl' q16 q15 q8 q14 q13 q2 q4 (fun E2 H4 r2 hm4 hor => ?_) fun E2 H4 r8 r14 r13 r2 r4 hm4 hb4 hrow hok hcond => ?_
      · simp only [↓JN_eq, CTL3, OPS3, cast0, reduceIte, Nat.reduceEqDiff, r2, ld_z]
        refine hm4.bad ?_
        rw [← hgo]
        cases okk with
        | false => rw [ho2 rfl]
        | true => rw [ho1 rfl]; simp only; rw [if_neg (hor.resolve_left (by simp))]
      · rw [ho1 hok] at hgo
        simp only at hgo
        rw [if_pos hcond] at hgo
        simp only [↓JN_eq, CTL3, OPS3, cast0, reduceIte, Nat.reduceEqDiff, w114, r14, wq]
        exact ⟨_, _, ⟨q + 1, setN y l v, rfl, rfl, by omega, hm4, hrow, hb4, hgo⟩, by simp only [↓JN_eq, CTL3, OPS3, cast0, reduceIte, Nat.reduceEqDiff, r13, r8, r4, r2], by omega⟩
    have hlen := hws.len
    by_cases hw2 : l = 108 ∨ l = 99
    · have hN : (0 : Int) < (((wordsOf l).length : Nat) : Int) := by rcases hw2 with rfl | rfl <;> decide
      simp only [↓JN_eq, CTL3, OPS3, cast0, reduceIte, Nat.reduceEqDiff, w76, hlen, hN]
      refine rlook (l := l) (w := w) (q := q) hw2 hm3.sl hws hw (by omega) hnn rfl rfl rfl rfl rfl rfl rfl rfl fun E' v okk q4 q14 q13 q8 q2 q15 q16 hv ho1 ho2 => ?_
      simp only [↓JN_eq, CTL3, OPS3, cast0, reduceIte, Nat.reduceEqDiff]
      exact fin E' v okk hv ho1 ho2 q16 q15 q8 q14 q13 q2 q4
    · have hw0 : (wordsOf l).length = 0 := by unfold wordsOf; rw [if_neg (fun q => hw2 (.inl q)), if_neg (fun q => hw2 (.inr q))]; rfl
      have hlen0 : Op.lenSl [w2] = some (.int .i64 0) := by rw [hlen, hw0]; rfl
      simp only [↓JN_eq, CTL3, OPS3, cast0, reduceIte, Nat.reduceEqDiff, w76, hlen0, Int.reduceLT]
      rw [← qvo (fun q => hw2 (.inl q)) fun q => hw2 (.inr q)] at hok1 hok2
      exact fin _ nn ok hnn hok1 hok2 rfl rfl rfl rfl rfl rfl rfl
  · have hq : q = s.length := by omega
    subst hq
    have e1 : ¬ ((s.length : Nat) : Int) < (s.length : Nat) := by omega
    rw [List.drop_length, List.drop_eq_nil_of_le (by omega), qq7] at hgo
    simp only [↓JN_eq, CTL3, OPS3, cast0, reduceIte, Nat.reduceEqDiff, w64, w115, e1, ld_ev g5, st_ev hm.t2, ld_z]
    exact ⟨hm.fr.set (.inr (Nat.le_refl _)) _, y, true, rfl, (fun _ => hgo.symm), fun q => nomatch q⟩
end Go.Am
namespace Go.Am
open Tr Go.Proofs
variable {M : Mac} [MK M]
theorem q1g {H : AHeap} {s0 : B} {a : AV} {t c kw : B} {rest : List B} {Hc : AHeap} {E : Env} {j : Nat} (h : LnM H Hc a (t :: c :: kw :: rest)) (hs : readB s0 = readW (t :: c :: kw :: rest)) (hj : j ≤ 8) (hk : kindB kw = j) (hr : rest.length < 900000)
    (e4 : lk E 4 = some a) (e2 : lk E 2 = some (.ptr H.next 0)) (e5 : lk E 5 = some (.int .i64 (j : Int))) :
    W M ⟨none, x3⟩ (qf 35) true (FIN3 M [.cellN 9 2, .tmp 3] (RT3 (LnQ H (readB s0)))) E [] Hc := by
  obtain ⟨-, -, -, -, w35, -, w43, -, w47, -, w49, w57, -⟩ := qcg M ⟨none, x3⟩
  by_cases h0 : j = 0
  · subst h0
    have e5 : lk E 5 = some (.int .i64 0) := e5
    simp only [↓JN_eq, CTL3, OPS3, cast0, reduceIte, Nat.reduceEqDiff, w35, e5, yt, e2, st_ev h.t2, ld_z]
    exact h.bad (by rw [hs, readW, if_pos hk])
  have j0 : ¬ (j : Int) = 0 := by omega
  have hnl : (named j).length ≤ 4 := by unfold named; (repeat' split) <;> decide
  simp only [↓JN_eq, CTL3, OPS3, cast0, reduceIte, Nat.reduceEqDiff, w35, w43, e5, j0]
  refine C3.q (qo3 (M := M) (show (1 : Int) ≤ (j : Nat) by omega) (by omega)) fun v H1 ⟨hv, hf1⟩ => ?_
  subst hv
  have hm1 := h.em hf1
  have hw0 : (t :: c :: kw :: rest)[0]? = some t := rfl
  have hw1 : (t :: c :: kw :: rest)[1]? = some c := rfl
  have l0 : Op.load1 [.ptr (slB a) (slO 1 a 0)] H1 = some (.str t) := by rw [hm1.sl.load0 kh hw0 (by omega)]; rfl
  have ix0 : Op.indexSl 1 [a, .int .i64 0] = some (.ptr (slB a) (slO 1 a 0)) := hm1.sl.idx hw0 rfl .i64
  have ix1 : Op.indexSl 1 [a, .int .i64 1] = some (.ptr (slB a) (slO 1 a 1)) := hm1.sl.idx hw1 rfl .i64
  simp only [↓JN_eq, CTL3, OPS3, cast0, reduceIte, Nat.reduceEqDiff, e4, ix0, l0]
  refine C3.q (qhq (M := M)) fun v H4 ⟨hf4, nt, ok1, hv, hnt, ht1, ht2⟩ => ?_
  subst hv
  have hm4 := hm1.em hf4
  have l1 : Op.load1 [.ptr (slB a) (slO 1 a 1)] H4 = some (.str c) := by rw [hm4.sl.load0 kh hw1 (by omega)]; rfl
  simp only [↓JN_eq, CTL3, OPS3, cast0, reduceIte, Nat.reduceEqDiff, w47, qg, ix1, l1, e4]
  refine C3.q (qhq (M := M)) fun v H5 ⟨hf5, nc, ok2, hv, hnc, hc1, hc2⟩ => ?_
  subst hv
  have hm5 := hm4.em hf5
  have hlen : Op.lenSl [a] = some (.int .i64 ((3 + rest.length : Nat) : Int)) := by rw [h.sl.len]; congr 3; simp; omega
  have w3 : wrapI .i64 (3 + (((named j).length : Nat) : Int)) = ((3 + (named j).length : Nat) : Int) := by rw [xc (by omega) (by omega)]; omega
  have bad5 : readB s0 = none → LnQ H (readB s0) (.tuple [.agg zE.enc, .bool false]) (H5.set H.next (OR zE.enc qb)) := fun q => hm5.bad q
  by_cases hn : rest.length = (named j).length
  · have n3 : ((3 + rest.length : Nat) : Int) = ((3 + (named j).length : Nat) : Int) := by omega
    rw [n3] at hlen
    have hrd : readW (t :: c :: kw :: rest) = match numS t with
      | none => none
      | some t => match numS c with
        | none => none
        | some c => if c < 4 ∧ t < 9223372036854775808 then goRead (named j) rest (fresh j c t) else none := by
      rw [readW, hk, if_neg h0]; rfl
    rw [← hs] at hrd
    cases ok1 with
    | false =>
      rw [ht2 rfl] at hrd
      simp only [↓JN_eq, CTL3, OPS3, cast0, reduceIte, Nat.reduceEqDiff, w49, qg, e4, hlen, w3, yt, e2, st_ev hm5.t2, ld_z]
      exact bad5 hrd
    | true =>
    rw [ht1 rfl] at hrd
    simp only at hrd
    cases ok2 with
    | false =>
      rw [hc2 rfl] at hrd
      simp only [↓JN_eq, CTL3, OPS3, cast0, reduceIte, Nat.reduceEqDiff, w49, qg, e4, hlen, w3, yt, e2, st_ev hm5.t2, ld_z]
      exact bad5 hrd
    | true =>
    rw [hc1 rfl] at hrd
    simp only at hrd
    by_cases d2 : nt < 9223372036854775808
    · have d2' : ¬ (9223372036854775807 : Int) < (nt : Int) := by omega
      by_cases d1 : nc < 4
      · have d1' : ¬ (4 : Int) ≤ (nc : Int) := by omega
        rw [if_pos ⟨d1, d2⟩] at hrd
        have w1 : wrapI .i64 (nc : Int) = (nc : Int) := xc (by omega) (by omega)
        have w2 : wrapI .i64 (nt : Int) = (nt : Int) := xc (by omega) (by omega)
        simp only [↓JN_eq, CTL3, OPS3, cast0, reduceIte, Nat.reduceEqDiff, w49, w57, qg, e4, e5, hlen, w3, d1', d2', w1, w2]
        refine C3.q (qok (M := M)) fun v H6 ⟨hv, hf6⟩ => ?_
        subst hv
        have hm6 := hm5.em hf6
        have hst : Op.store 9 [.ptr H6.next 0, .agg (fresh (j : Nat) nc nt).enc] (H6.alloc (OR zE.enc qb)) = some (.undef, (H6.alloc (OR zE.enc qb)).set H6.next (OR (fresh (j : Nat) nc nt).enc qb)) := st_ev (qn ..)
        have hslb : slB a < H6.next := by have := h.sl.bnd (by simp); have := hf1.next; have := hf4.next; have := hf5.next; have := hf6.next; omega
        have hm7 : LnM H ((H6.alloc (OR zE.enc qb)).set H6.next (OR (fresh (j : Nat) nc nt).enc qb)) a (t :: c :: kw :: rest) := (hm6.em ((Fr.refl H6).alloc _)).off ((Fr.refl _).set (W := On H6.next) (.inl rfl) _) hm6.lt hslb
        have g7 : ((H6.alloc (OR zE.enc qb)).set H6.next (OR (fresh (j : Nat) nc nt).enc qb)).get H6.next = some (OR (fresh (j : Nat) nc nt).enc qb) := ql ..
        have hn7 : ((H6.alloc (OR zE.enc qb)).set H6.next (OR (fresh (j : Nat) nc nt).enc qb)).next = H6.next + 1 := rfl
        rw [qe4] at hst hm7 g7 hn7
        simp only [↓JN_eq, CTL3, OPS3, cast0, reduceIte, Nat.reduceEqDiff, hst]
        exact qz2 hm7 (by omega) hj (by simp; omega) g7 hm6.lt (by omega) hslb hrd.symm e4 e2 rfl rfl
      · have d1' : (4 : Int) ≤ (nc : Int) := by omega
        rw [if_neg (fun q => d1 q.1)] at hrd
        simp only [↓JN_eq, CTL3, OPS3, cast0, reduceIte, Nat.reduceEqDiff, w49, qg, e4, hlen, w3, d1', d2', yt, e2, st_ev hm5.t2, ld_z]
        exact bad5 hrd
    · have d2' : (9223372036854775807 : Int) < (nt : Int) := by omega
      rw [if_neg (fun q => d2 q.2)] at hrd
      simp only [↓JN_eq, CTL3, OPS3, cast0, reduceIte, Nat.reduceEqDiff, w49, qg, e4, hlen, w3, d2', yt, e2, st_ev hm5.t2, ld_z]
      exact bad5 hrd
  · have n3 : ¬ ((3 + rest.length : Nat) : Int) = ((3 + (named j).length : Nat) : Int) := by omega
    simp only [↓JN_eq, CTL3, OPS3, cast0, reduceIte, Nat.reduceEqDiff, w49, qg, e4, hlen, w3, n3, yt, e2, st_ev hm5.t2, ld_z]
    exact bad5 (by rw [hs]; exact qrp (by rw [hk]; omega))
end Go.Am
namespace Go.Am
open Tr Go.Proofs
variable {M : Mac} [MK M]
theorem qzx {H : AHeap} {s : B} (hl : s.length < 100000) (ht : Tbs H) : CALLQ M x3 [.str s] H (LnQ H (readB s)) := by
  refine qt2 ?_
  obtain ⟨w0, w4, w12, w14, -, w19, -, w25, -, w34, -⟩ := qcg M ⟨none, x3⟩
  have ha : Fr Em H (H.alloc (OR zE.enc qb)) := (Fr.refl H).alloc _
  have hg1 : (H.alloc (OR zE.enc qb)).get H.next = some (OR zE.enc qb) := qn ..
  have hl1 : H.next < (H.alloc (OR zE.enc qb)).next := by rw [z6]; omega
  rw [qe4] at ha hg1 hl1
  simp only [↓JN_eq, CTL3, OPS3, cast0, reduceIte, Nat.reduceEqDiff, w0]
  generalize H.alloc (OR [.int .i64 0, .int .i64 0, .int .i64 0, .int .i64 0, .int .i64 0, .int .i64 0, .int .i64 0, .int .u64 0, .int .i64 0] qb) = H1 at *
  have hsp := qny (M := M) (H := H1) (s := s) (c := 32) (by omega)
  refine C3.q (show CALLQ M js [.str s, .int .u8 32] H1 fun v H' => NewW H1 H' v (splitB 32 s) from hsp) fun a H2 hv5 => ?_
  have hf2 := hv5.fr
  have hsl := hv5.sl
  rw [← qe4] at hg1
  have hm : LnM H H2 a (splitB 32 s) := ⟨ht.tab.lt, ha.em hf2, by rw [hf2.keep _ hl1 id, hg1], Nat.lt_of_lt_of_le hl1 hf2.next, (ht.em ha).em hf2, hsl⟩
  have hcs := qbr 32 s
  have hcl := qh7 32 s
  have hrs : readB s = readW (splitB 32 s) := rfl
  clear hv5 hsp
  generalize splitB 32 s = ws at *
  by_cases h3 : ws.length < 3
  · have e3 : ((ws.length : Nat) : Int) < 3 := by omega
    simp only [↓JN_eq, CTL3, OPS3, cast0, reduceIte, Nat.reduceEqDiff, w4, hsl.len, e3, yt, st_ev hm.t2, ld_z]
    refine hm.bad ?_
    rw [hrs]
    match ws, h3 with
    | [], _ => rfl
    | [_], _ => rfl
    | [_, _], _ => rfl
    | _ :: _ :: _ :: _, h => simp at h; omega
  have e3 : ¬ ((ws.length : Nat) : Int) < 3 := by omega
  obtain ⟨t, c, kw, rest, rfl⟩ : ∃ t c kw rest, ws = t :: c :: kw :: rest := by
    match ws, h3 with
    | [], h => simp at h
    | [_], h => simp at h
    | [_, _], h => simp at h
    | t :: c :: kw :: rest, _ => exact ⟨t, c, kw, rest, rfl⟩
  simp only [↓JN_eq, CTL3, OPS3, cast0, reduceIte, Nat.reduceEqDiff, w4, w12, w14, hsl.len, e3]
  refine LOOP3.intro (fun n E Hx => ∃ (i j : Nat), E = [(6, .int .i64 (i : Nat)), (5, .int .i64 (j : Nat)), (4, a), (2, .ptr H.next 0)] ∧ n = 9 - i ∧ 1 ≤ i ∧ i ≤ 9 ∧ LnM H Hx a (t :: c :: kw :: rest) ∧ (j = 0 ∧ (∀ x : Nat, 1 ≤ x → x < i → kword (x : Nat) ≠ kw) ∨ 1 ≤ j ∧ j ≤ 8 ∧ kword (j : Nat) = kw)) ?_ ?_
  · exact ⟨_, _, ⟨1, 0, rfl, rfl, Nat.le_refl _, by omega, hm, .inl ⟨rfl, fun x h1 h2 => by omega⟩⟩, by simp only [↓JN_eq, CTL3, OPS3, cast0, reduceIte, Nat.reduceEqDiff]; rfl⟩
  rintro n E Hx ⟨i, j, rfl, rfl, hi1, hi9, hm, hj⟩
  have hrl : rest.length < 900000 := by simp at hcs; omega
  by_cases h9 : i = 9
  · subst h9
    have e1 : ¬ ((9 : Nat) : Int) ≤ 8 := by decide
    simp only [↓JN_eq, CTL3, OPS3, cast0, reduceIte, Nat.reduceEqDiff, w19, e1]
    refine q1g (j := j) hm hrs (by rcases hj with ⟨rfl, -⟩ | ⟨-, h, -⟩ <;> omega) ?_ hrl rfl rfl rfl
    rcases hj with ⟨rfl, h⟩ | ⟨h1, h2, h4⟩
    · exact kind_0 fun x h1 h2 => h x h1 (by omega)
    · exact q2g h1 h2 h4
  · have e1 : (i : Int) ≤ 8 := by omega
    simp only [↓JN_eq, CTL3, OPS3, cast0, reduceIte, Nat.reduceEqDiff, w19, w25, e1]
    refine C3.q (qz0 (M := M) (show (1 : Int) ≤ (i : Nat) by omega) (by omega)) fun v H3 ⟨hv, hf3⟩ => ?_
    subst hv
    have hm3 := hm.em hf3
    have hw2 : (t :: c :: kw :: rest)[2]? = some kw := rfl
    have l2 : Op.load1 [.ptr (slB a) (slO 1 a 2)] H3 = some (.str kw) := by rw [hm3.sl.load0 kh hw2 (by omega)]; rfl
    have hix : Op.indexSl 1 [a, .int .i64 2] = some (.ptr (slB a) (slO 1 a 2)) := hm3.sl.idx hw2 rfl .i64
    have wi : wrapI .i64 ((i : Int) + 1) = ((i + 1 : Nat) : Int) := by rw [xc (by omega) (by omega)]; omega
    by_cases hkw : kword (i : Nat) = kw
    · have he : Op.bin .eql [.str (kword (i : Nat)), .str kw] = some (.bool true) := by show some (AV.bool (eqS _ _)) = _; rw [hkw, qki]; simp
      have hd : decide (kword (i : Nat) = kw) = true := decide_eq_true hkw
      simp only [↓JN_eq, CTL3, OPS3, cast0, reduceIte, Nat.reduceEqDiff, hix, l2, hd, w34, wi]
      exact ⟨_, _, ⟨i + 1, i, rfl, rfl, by omega, by omega, hm3, .inr ⟨hi1, by omega, hkw⟩⟩, by simp only [↓JN_eq, CTL3, OPS3, cast0, reduceIte, Nat.reduceEqDiff], by omega⟩
    · have hd : decide (kword (i : Nat) = kw) = false := decide_eq_false hkw
      simp only [↓JN_eq, CTL3, OPS3, cast0, reduceIte, Nat.reduceEqDiff, hix, l2, hd, w34, wi]
      refine ⟨_, _, ⟨i + 1, j, rfl, rfl, by omega, by omega, hm3, ?_⟩, by simp only [↓JN_eq, CTL3, OPS3, cast0, reduceIte, Nat.reduceEqDiff], by omega⟩
      rcases hj with ⟨h0, h⟩ | h
      · refine .inl ⟨h0, fun x h1 h2 => ?_⟩
        by_cases hxi : x = i
        · rw [hxi]; exact hkw
        · exact h x h1 (by omega)
      · exact .inr h
theorem qwz {H : AHeap} {s : B} (hl : s.length < 90000) (ht : Tbs H) : CALLQ M jy [.str s] H (ParQ H (parseB s)) :=
  q2h hl ht fun H l ht hl => qzx (by omega) ht
end Go.Am
namespace Go.Am
open Tr Go.Proofs
variable {M : Mac} [MK M]
theorem DecQ.tell {H H' : AHeap} {o : Option (List Evt)} {v : AV} (h : DecQ H o v H') : Fr Em H H' ∧ ∃ w, v = .tuple [w, .int .i64 (if o.isSome then 0 else 230)] ∧ SlT Evt.enc 9 H' w (o.getD []) := by
  rcases h with ⟨l, w, rfl, rfl, hw⟩ | ⟨rfl, rfl, hf⟩
  · exact ⟨hw.fr, w, rfl, hw.sl⟩
  · exact ⟨hf, .nils, rfl, rfl, rfl⟩
def lOf : Except Nat (List Evt) → List Evt
  | .ok l => l
  | .error _ => []
def nOf : Except Nat (List Evt) → Int
  | .ok _ => 0
  | .error k => (k : Nat)
def fOf : Except Nat (List Evt) → Int
  | .ok _ => 0
  | .error _ => 230
theorem ParQ.tell {H H' : AHeap} {o : Except Nat (List Evt)} {v : AV} (h : ParQ H o v H') : Fr Em H H' ∧ ∃ w, v = .tuple [w, .int .i64 (nOf o), .int .i64 (fOf o)] ∧ SlT Evt.enc 9 H' w (lOf o) := by
  rcases h with ⟨l, w, rfl, rfl, hw⟩ | ⟨k, rfl, rfl, hf⟩
  · exact ⟨hw.fr, w, rfl, hw.sl⟩
  · exact ⟨hf, .nils, rfl, rfl, rfl⟩
theorem qv2 : ∀ l : List Evt, l.length ≤ (l.flatMap encE).length
  | [] => Nat.le_refl _
  | x :: l => by
    have ih := qv2 l
    have : 0 < (encE x).length := by cases h : encE x with
      | nil => exact absurd h (qxb x)
      | cons => simp
    rw [List.flatMap_cons, List.length_append, List.length_cons]; omega
theorem qus : ∀ l : List Evt, l.length ≤ (textB l).length
  | [] => Nat.le_refl _
  | x :: l => by
    have ih := qus l
    have e : textB (x :: l) = (lineB x ++ [10]) ++ textB l := by simp [textB]
    rw [e, List.length_append, List.length_append, List.length_cons]; simp; omega
theorem q23 (bs : B) : ((decB bs.length bs).getD []).length ≤ bs.length := by
  cases h : decB bs.length bs with
  | none => simp
  | some l => have := qv2 l; rw [← (q1t _ _ _ h).1] at this; exact this
theorem q1l (s : B) : (lOf (parseB s)).length ≤ s.length := by
  cases h : parseB s with
  | error k => simp [lOf]
  | ok l => have := qus l; rw [← (parse_ok h).1] at this; exact this
theorem qqi {H : AHeap} (ht : Tbs H) {v1 : AV} {b1 t2 : B} (hb : SlT encB 1 H v1 b1) : CALLQ M jr [v1, .str t2] H fun v _ => v = .bool true := by
  refine qkb ?_
  obtain ⟨w0, w2, w10, w14, w18, w22⟩ := qko M ⟨none, jr⟩
  by_cases hl2 : (5000 : Int) < (b1.length : Nat)
  · simp only [↓JN_eq, CTL3, OPS3, cast0, reduceIte, Nat.reduceEqDiff, w0, w2, hb.len, hl2]
  by_cases hl3 : (5000 : Int) < (t2.length : Nat)
  · simp only [↓JN_eq, CTL3, OPS3, cast0, reduceIte, Nat.reduceEqDiff, w0, w2, hb.len, hl2, hl3]
  simp only [↓JN_eq, CTL3, OPS3, cast0, reduceIte, Nat.reduceEqDiff, w0, w2, w10, hb.len, hl2, hl3]
  refine BI2.to3 (m := true) ((New.nil (enc := encB) (e := j6) (size := 1) H).appS (bytes := 1) hb encB_one (by decide) (by simp; omega) (by simp; omega) fun v5 H1 hv5 _ _ => ?_)
  rw [List.nil_append] at hv5
  refine hv5.app4 (bytes := 1) (a := 7) rfl rfl rfl rfl (by decide) (by omega) (by omega) fun v6 H2 hv6 hf2 => ?_
  have hb2 := hb.em hv6.fr
  have hlen : (b1 ++ [(7 : UInt8)]).length = b1.length + 1 := by simp
  obtain ⟨v7, u1, u2, u3⟩ := hv6.sl.upto qdl (k := b1.length) (by omega) (z := ((b1.length : Nat) : Int)) rfl .i64
  rw [List.take_left' rfl] at u2
  simp only [↓JN_eq, CTL3, OPS3, cast0, reduceIte, Nat.reduceEqDiff, w14, hb2.len, u1]
  refine C3.q (qyc (M := M) u2 (by omega) (ht.em hv6.fr).tab (Nat.le_refl _)) fun v H3 hd => ?_
  obtain ⟨hf3, wa, rfl, hsa⟩ := hd.tell
  simp only [↓JN_eq, CTL3, OPS3, cast0, reduceIte, Nat.reduceEqDiff, qg]
  refine C3.q (qvi (M := M) (hb2.em hf3) (by omega)) fun v H4 hd => ?_
  obtain ⟨hf4, wc, rfl, hsc⟩ := hd.tell
  simp only [↓JN_eq, CTL3, OPS3, cast0, reduceIte, Nat.reduceEqDiff, w18, qg]
  have hf04 := (hv6.fr.em hf3).em hf4
  refine C3.q (q0t (M := M) (by omega) (ht.em hf04)) fun v H5 hd => ?_
  obtain ⟨hf5, wd, rfl, hsd⟩ := hd.tell
  simp only [↓JN_eq, CTL3, OPS3, cast0, reduceIte, Nat.reduceEqDiff, qg]
  refine C3.q (qwz (M := M) (by omega) (ht.em (hf04.em hf5))) fun v H6 hd => ?_
  obtain ⟨hf6, wh, rfl, hsh⟩ := hd.tell
  simp only [↓JN_eq, CTL3, OPS3, cast0, reduceIte, Nat.reduceEqDiff, w22, qg]
  have hds := q23 b1
  have hps := q1l t2
  have hf36 := (hf4.em hf5).em hf6
  have hf26 := hf3.em hf36
  have hfin : ∀ H7, H7 = H6 → True := fun _ _ => trivial
  have str_sl : ∀ {v : AV} {xs : B}, SlT encB 1 H6 v xs → Op.strOfBytes [v] H6 = some (.str xs) := by
    intro v xs h
    have hs : Sl H6 1 v xs.length (xs.flatMap encB) := h
    have e : Op.strOfBytes [v] H6 = (lenV v).bind fun n => (firstCells H6 1 n v).bind fun l => (bytesOf l).bind fun s => some (.str s) := by
      cases v <;> first | rfl | exact hs.2.elim
    rw [e, Sl.lenV hs, Option.bind_some, Sl.first hs, Option.bind_some, qng, qi3]; rfl
  have s7 := str_sl (u2.em hf26)
  have s1 := str_sl (hb2.em hf26)
  have h7 : (b1 ++ [(7 : UInt8)])[b1.length]? = some 7 := by simp
  have ix7 := (hv6.em hf26).sl.idx h7 rfl .i64
  have lx7 : Op.load1 [.ptr (slB v6) (slO 1 v6 b1.length)] H6 = some (.int .u8 7) := by rw [(hv6.em hf26).sl.load0 qdl h7 (by omega)]; rfl
  refine C3.q (qwf (M := M) (hsa.em hf36) (hsc.em (hf5.em hf6)) (by omega)) fun v H7 ⟨hv, hH⟩ => ?_
  subst hv; subst hH
  rw [decide_eq_true rfl]
  simp only [↓JN_eq, CTL3, OPS3, cast0, reduceIte, Nat.reduceEqDiff]
  refine C3.q (qwf (M := M) (hsd.em hf6) hsh (by omega)) fun v H8 ⟨hv, hH⟩ => ?_
  subst hv; subst hH
  rw [decide_eq_true rfl]
  simp only [↓JN_eq, CTL3, OPS3, cast0, reduceIte, Nat.reduceEqDiff, hb2.len, u1, s7, s1, ix7, lx7]
end Go.Am
