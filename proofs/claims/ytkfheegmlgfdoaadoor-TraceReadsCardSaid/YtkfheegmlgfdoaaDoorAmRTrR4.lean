/- TrR4: RdI RdJ RdK RdL. -/
import Derived.Test.YtkfheegmlgfdoaaDoorAmRTrR3
import Derived.Test.YtkfheegmlgfdoaaDoorAmRTrR0
set_option linter.unusedVariables false
set_option linter.unusedSimpArgs false
set_option linter.unusedSectionVars false
set_option maxRecDepth 100000
namespace Go.Am
open Tr Go.Proofs
variable {M : Mac} [MK M]
def lnsG : List B → List B
  | [] => []
  | [w] => if w = [] then [] else [w]
  | w :: w' :: r => (w ++ [10]) :: lnsG (w' :: r)
def lnsB (s : B) : List B := lnsG (splitB 10 s)
theorem lns_nil : lnsB [] = [] := rfl
theorem lns_app {w r : B} (h : (10 : UInt8) ∉ w) : lnsB (w ++ 10 :: r) = (w ++ [10]) :: lnsB r := by
  unfold lnsB
  rw [qeb _ _ _ h]
  cases q : splitB 10 r with
  | nil => exact absurd q (qfn _ _)
  | cons a l => rw [lnsG]
theorem lns_one {w : B} (h : (10 : UInt8) ∉ w) (hn : w ≠ []) : lnsB w = [w] := by
  unfold lnsB
  rw [qhk _ _ h, lnsG, if_neg hn]
def ItQ (R : Nat → (Nat → Prop) → AHeap → Prop) (S : (Nat → Prop) → AHeap → Prop) (W0 O : Nat → Prop) (H : AHeap) (n : Nat) (v : AV) (H' : AHeap) : Prop := ∃ W' : Nat → Prop, Fr (fun b => W0 b ∨ O b) H H' ∧ (∀ b, W' b → b < H'.next ∧ (W0 b ∨ H.next ≤ b)) ∧ (R n W' H' ∨ S W' H')
theorem ix10 {H : AHeap} {s : B} : CALLQ M zl [.str s, .int .u8 10] H (Pu (.int .i64 (ixB 10 s)) H) := qqm (c := 10)
theorem qxh {H0 : AHeap} {b1 : Nat} {s : B} (h1 : H0.get b1 = some (OR [.str s] qm)) (hb : b1 < H0.next) (hl : s.length < 1000000) :
    ITERO M x7 [] [.ptr b1 0] (fun _ => False) (fun b => b = b1) H0 ((lnsB s).map fun l => [.str l]) := by
  intro L R S W0 H1 hnx hN hR0 hW0 loc locS step
  obtain ⟨-, k1, k2⟩ := hN b1 (.inr rfl)
  suffices h : CALLQ M x7 [.fn (.yield L) [] [], .ptr b1 0] H1 (ItQ R S W0 (fun b => b = b1) H1 ((lnsB s).map fun l => [AV.str l]).length) by
    obtain ⟨v, H', hc, W', q1, q2, q3⟩ := h.elim
    exact ⟨v, H', W', hc, q1, q2, q3⟩
  refine qll ?_
  simp only [↓JN_eq, CTL3, OPS3, cast0, reduceIte, Nat.reduceEqDiff, qfp]
  refine LOOP3.intro (fun n E Hx => ∃ i V r, E = [(1, .ptr b1 0), (0, .fn (.yield L) [] [])] ∧ n = r.length ∧ r.length ≤ s.length ∧ Hx.get b1 = some (OR [.str r] qm) ∧ lnsB s = (lnsB s).take i ++ lnsB r ∧ i ≤ (lnsB s).length ∧ R i V Hx ∧ (∀ b, V b → b < Hx.next ∧ (W0 b ∨ H1.next ≤ b)) ∧ Fr (fun b => W0 b ∨ b = b1) H1 Hx) ?_ ?_
  · exact ⟨_, _, ⟨0, W0, s, rfl, rfl, Nat.le_refl _, by rw [k1, h1], by simp, Nat.zero_le _, hR0, fun b hb => ⟨hW0 b hb, .inl hb⟩, Fr.refl _⟩, by simp only [↓JN_eq, CTL3, OPS3, cast0, reduceIte, Nat.reduceEqDiff]⟩
  rintro n E Hx ⟨i, V, r, rfl, rfl, hr, hg, hln, hi, hR, hW, hf⟩
  have l1 : Op.load1 [.ptr b1 0] Hx = some (.str r) := by rw [yv (zo hg)]; rfl
  have hbx : b1 < Hx.next := by have := hf.next; omega
  obtain ⟨-, w2, w8, w11, w19⟩ := qfp M ⟨none, x7⟩
  by_cases hr0 : r = []
  · subst hr0
    have hl0 : Op.lenStr [.str []] = some (.int .i64 0) := rfl
    simp only [↓JN_eq, CTL3, OPS3, cast0, reduceIte, Nat.reduceEqDiff, w2, l1, hl0, Int.reduceLT]
    rw [lns_nil, List.append_nil] at hln
    have hil : i = (lnsB s).length := by have := congrArg List.length hln; rw [List.length_take] at this; omega
    exact ⟨V, hf, hW, .inl (by rw [List.length_map, ← hil]; exact hR)⟩
  have hpos : 0 < r.length := by cases r with
    | nil => exact absurd rfl hr0
    | cons => simp
  have e0 : (0 : Int) < (r.length : Nat) := by omega
  have hW1 : ¬ V b1 := fun q => by rcases (hW b1 q).2 with q | q; exact k2 q; omega
  have round : ∀ (l r' : B) (E' : Env) (Q : Post3), lnsB r = l :: lnsB r' → lk E' 0 = some (.fn (.yield L) [] []) → lk E' 3 = some (.str l) →
      (∀ H2 W2, H2.get b1 = some (OR [.str r'] qm) → lnsB s = (lnsB s).take (i + 1) ++ lnsB r' → i + 1 ≤ (lnsB s).length → R (i + 1) W2 H2 → (∀ b, W2 b → b < H2.next ∧ (W0 b ∨ H1.next ≤ b)) → Fr (fun b => W0 b ∨ b = b1) H1 H2 → Q .normal E' [] H2) →
      (∀ H2 W2, S W2 H2 → (∀ b, W2 b → b < H2.next ∧ (W0 b ∨ H1.next ≤ b)) → Fr (fun b => W0 b ∨ b = b1) H1 H2 → Q .ret E' [] H2) →
      W M ⟨none, x7⟩ (xy 19) true Q E' [] (Hx.set b1 (OR [.str r'] qm)) := by
    intro l r' E' Q hlr q0 q3 hgood hstop
    have hf1 : Fr (On b1) Hx (Hx.set b1 (OR [.str r'] qm)) := (Fr.refl Hx).set (W := On b1) (.inl rfl) _
    have hfx : Fr (fun b => W0 b ∨ b = b1) H1 (Hx.set b1 (OR [.str r'] qm)) := hf.set (.inl (.inr rfl)) _
    have hgx : (Hx.set b1 (OR [.str r'] qm)).get b1 = some (OR [.str r'] qm) := ql ..
    have hRx := loc i V Hx (Hx.set b1 (OR [.str r'] qm)) hR (fun b hb => hf1.keep b (hW b hb).1 (fun (q : b = b1) => hW1 (q ▸ hb))) hf1.next
    have hWx : ∀ b, V b → b < (Hx.set b1 (OR [.str r'] qm)).next ∧ (W0 b ∨ H1.next ≤ b) := hW
    have hbx' : b1 < (Hx.set b1 (OR [.str r'] qm)).next := hbx
    generalize Hx.set b1 (OR [.str r'] qm) = Hy at *
    rw [hlr] at hln
    have hget : (lnsB s)[i]? = some l := by rw [hln, List.getElem?_append_right (by rw [List.length_take]; omega), List.length_take, Nat.min_eq_left hi, Nat.sub_self]; rfl
    have hil : i < (lnsB s).length := (List.getElem?_eq_some_iff.1 hget).1
    have hln2 : lnsB s = (lnsB s).take (i + 1) ++ lnsB r' := by
      rw [List.take_add_one, hget, List.append_assoc]; exact hln
    obtain ⟨bb, H2, W2, hrd, hfr, hW2, ht, hs⟩ := step i [.str l] (by rw [List.getElem?_map, hget]; rfl) V Hy hRx hWx hfx
    have hW2' : ∀ b, W2 b → b < H2.next ∧ (W0 b ∨ H1.next ≤ b) := fun b hb => ⟨(hW2 b hb).1, (hW2 b hb).2.elim (fun q => (hW b q).2) fun q => .inr (Nat.le_trans hfx.next q)⟩
    have hf2 : Fr (fun b => W0 b ∨ b = b1) H1 H2 := hfx.trans hfr fun x hx => (hW x hx).2.imp .inl id
    have hg2 : H2.get b1 = some (OR [.str r'] qm) := by rw [hfr.keep b1 hbx' hW1, hgx]
    have hv : ∀ K, V3 true [.fn (.yield L) [] [], .str l] K = K true (.yield L) [.str l] := fun K => qs7 L [] [.str l] K
    simp only [↓JN_eq, CTL3, OPS3, cast0, reduceIte, Nat.reduceEqDiff, w19, q0, q3, hv]
    refine C3.yret hrd ?_
    cases bb with
    | true =>
      simp only [↓JN_eq, CTL3, OPS3, cast0, reduceIte, Nat.reduceEqDiff]
      exact hgood H2 W2 hg2 hln2 hil (ht rfl) hW2' hf2
    | false =>
      simp only [↓JN_eq, CTL3, OPS3, cast0, reduceIte, Nat.reduceEqDiff]
      exact hstop H2 W2 (hs rfl) hW2' hf2
  have stq : ∀ x : B, Op.store 1 [.ptr b1 0, .str x] Hx = some (.undef, Hx.set b1 (OR [.str x] qm)) := fun x => by
    rw [qbl (o := 0) (n := 1) (v := .str x) hg rfl (by simp) rfl]; rfl
  by_cases hc : (10 : UInt8) ∈ r
  · obtain ⟨w, r', rfl, hw⟩ := qog hc
    have hlr := lns_app (r := r') hw
    have hrl : (w ++ 10 :: r').length = w.length + 1 + r'.length := by simp; omega
    rw [hrl] at hr hpos e0
    simp only [↓JN_eq, CTL3, OPS3, cast0, reduceIte, Nat.reduceEqDiff, w2, w8, w11, l1, hrl, e0]
    refine C3.q (ix10 (M := M)) fun v H2 ⟨hv, hH⟩ => ?_
    subst hv; subst hH
    rw [qw7 hw]
    have e2 : (0 : Int) ≤ ((w.length : Nat) : Int) := by omega
    have e4 : wrapI .i64 (((w.length : Nat) : Int) + 1) = ((w.length + 1 : Nat) : Int) := by rw [xc (by omega) (by omega)]; omega
    have f1 : Op.sliceStr [none, some 0] [.str (w ++ 10 :: r'), .int .i64 ((w.length + 1 : Nat) : Int)] = some (.str (w ++ [10])) := by
      rw [qjb (by simp), show w ++ 10 :: r' = (w ++ [10]) ++ r' by simp, List.take_left' (by simp)]
    have f2 : Op.sliceStr [some 0, none] [.str (w ++ 10 :: r'), .int .i64 ((w.length + 1 : Nat) : Int)] = some (.str r') := by
      rw [qgk (by simp)]; simp
    simp only [↓JN_eq, CTL3, OPS3, cast0, reduceIte, Nat.reduceEqDiff, e2, e4, f1, f2, l1, stq]
    refine round (w ++ [10]) r' _ _ hlr rfl rfl (fun H3 W3 a1 a2 a3 a4 a5 a6 => ?_) fun H3 W3 a1 a2 a3 => ?_
    · simp only [↓JN_eq, CTL3, OPS3, cast0, reduceIte, Nat.reduceEqDiff]
      exact ⟨_, _, ⟨i + 1, W3, r', rfl, rfl, by omega, a1, a2, a3, a4, a5, a6⟩, by simp only [↓JN_eq, CTL3, OPS3, cast0, reduceIte, Nat.reduceEqDiff], by omega⟩
    · simp only [↓JN_eq, CTL3, OPS3, cast0, reduceIte, Nat.reduceEqDiff]
      exact ⟨W3, a3, a2, .inr a1⟩
  · simp only [↓JN_eq, CTL3, OPS3, cast0, reduceIte, Nat.reduceEqDiff, w2, w8, w11, l1, e0]
    refine C3.q (ix10 (M := M)) fun v H2 ⟨hv, hH⟩ => ?_
    subst hv; subst hH
    rw [ix_none hc]
    simp only [↓JN_eq, CTL3, OPS3, cast0, reduceIte, Nat.reduceEqDiff, Int.reduceLE, Int.reduceNeg, l1, stq]
    refine round r [] _ _ (lns_one hc hr0) rfl rfl (fun H3 W3 a1 a2 a3 a4 a5 a6 => ?_) fun H3 W3 a1 a2 a3 => ?_
    · simp only [↓JN_eq, CTL3, OPS3, cast0, reduceIte, Nat.reduceEqDiff]
      exact ⟨_, _, ⟨i + 1, W3, [], rfl, rfl, by simp, a1, a2, a3, a4, a5, a6⟩, by simp only [↓JN_eq, CTL3, OPS3, cast0, reduceIte, Nat.reduceEqDiff], by simpa using hpos⟩
    · simp only [↓JN_eq, CTL3, OPS3, cast0, reduceIte, Nat.reduceEqDiff]
      exact ⟨W3, a3, a2, .inr a1⟩
end Go.Am
namespace Go.Am
open Tr Go.Proofs
variable {M : Mac} [MK M]
def hasB (l : B) : Bool := decide (1 ≤ l.length ∧ l.drop (l.length - 1) = [10])
def trimB (l : B) : B := if 1 ≤ l.length ∧ l.drop (l.length - 1) = [10] then l.take (l.length - 1) else l
def lnV (l : B) : List AV := [.str (trimB l), .bool (hasB l)]
theorem q2k {s : B} : ∀ l ∈ lnsB s, l.length ≤ s.length + 1 := by
  have key : ∀ ws : List B, (∀ w ∈ ws, w.length ≤ s.length) → ∀ l ∈ lnsG ws, l.length ≤ s.length + 1 := by
    intro ws
    induction ws with
    | nil => intro _ l h; cases h
    | cons w ws ih =>
      intro hw l h
      cases ws with
      | nil =>
        rw [lnsG] at h
        split at h
        · cases h
        · have := List.mem_singleton.1 h; subst this; have := hw l (List.mem_cons_self ..); omega
      | cons w' r =>
        rw [lnsG] at h
        rcases List.mem_cons.1 h with rfl | h
        · have := hw w (List.mem_cons_self ..); simp; omega
        · exact ih (fun x hx => hw x (List.mem_cons_of_mem _ hx)) l h
  exact key _ (qm5 10 s)
theorem qym {H : AHeap} {s : B} : CALLQ M kn [.str s] H (Pu (.fn (.func x7) [] [.ptr H.next 0]) (H.alloc (OR [.str s] qm))) := by
  refine qnt ?_
  simp only [↓JN_eq, CTL3, OPS3, cast0, reduceIte, Nat.reduceEqDiff, qo0]
  exact ⟨rfl, rfl⟩
theorem qxx {H0 : AHeap} {b1 : Nat} {s : B} (h1 : H0.get b1 = some (OR [.str s] qm)) (hb : b1 < H0.next) (hl : s.length < 900000) :
    ITERO M ja [] [.ptr b1 0] (fun b => b = b1) (fun _ => False) H0 ((lnsB s).map lnV) := by
  intro L R S W0 H1 hnx hN hR0 hW0 loc locS step
  obtain ⟨-, k1, k2⟩ := hN b1 (.inl rfl)
  suffices h : CALLQ M ja [.fn (.yield L) [] [], .ptr b1 0] H1 (ItQ R S W0 (fun _ => False) H1 ((lnsB s).map lnV).length) by
    obtain ⟨v, H', hc, W', q1, q2, q3⟩ := h.elim
    exact ⟨v, H', W', hc, q1, q2, q3⟩
  refine qno ?_
  have hcl : AV.cells (.fn (.yield L) [] []) = [.fn (.yield L) [] []] := rfl
  have hf1 : Fr Em H1 (H1.alloc (OR [.fn (.yield L) [] []] T__83)) := (Fr.refl H1).alloc _
  have l1 : Op.load1 [.ptr b1 0] (H1.alloc (OR [.fn (.yield L) [] []] T__83)) = some (.str s) := by rw [yv (zo (by rw [zd (by omega), k1, h1]))]; rfl
  have hg1 : (H1.alloc (OR [.fn (.yield L) [] []] T__83)).get H1.next = some (OR [.fn (.yield L) [] []] T__83) := qn ..
  have hn1 : (H1.alloc (OR [.fn (.yield L) [] []] T__83)).next = H1.next + 1 := rfl
  simp only [↓JN_eq, CTL3, OPS3, cast0, reduceIte, Nat.reduceEqDiff, qg3, hcl, l1]
  generalize H1.alloc (OR [.fn (.yield L) [] []] T__83) = H2 at *
  refine C3.q (qym (M := M)) fun v H3 ⟨hv, hH⟩ => ?_
  subst hv; subst hH
  have hf2 : Fr Em H2 (H2.alloc (OR [.str s] qm)) := (Fr.refl H2).alloc _
  have hg3 : (H2.alloc (OR [.str s] qm)).get H2.next = some (OR [.str s] qm) := qn ..
  have hg13 : (H2.alloc (OR [.str s] qm)).get H1.next = some (OR [.fn (.yield L) [] []] T__83) := by rw [zd (by omega), hg1]
  have hn3 : (H2.alloc (OR [.str s] qm)).next = H2.next + 1 := rfl
  generalize H2.alloc (OR [.str s] qm) = H3 at *
  have hf13 : Fr Em H1 H3 := hf1.em hf2
  refine RNG3.iter (fn := km) (lp := j7) (pa := qgm 0) (pb := qgo 0) qgn qfa.1 qfa.2 (by decide) ⟨rfl, qg8 j7.assign⟩ ⟨rfl, qg8 j7.body⟩
    (qxh (M := M) hg3 (by omega) (by omega)) (fun i W H' => R i W H') (fun e W H' => e = .ret ∧ S W H') W0 (Nat.le_refl _) ?_ ?_ ?_ ?_ ?_ ?_ ?_ ?_
  · rintro b (h | rfl)
    · exact h.elim
    · exact ⟨by omega, rfl, fun q => by have := hW0 _ q; omega⟩
  · exact fun b hb => by have := hW0 b hb; omega
  · exact loc 0 W0 H1 H3 hR0 (fun b hb => hf13.keep b (hW0 b hb) id) hf13.next
  · exact fun i W H' H'' h hs hn => loc i W H' H'' h hs hn
  · exact fun e W H' H'' h hs hn => ⟨h.1, locS W H' H'' h.2 hs hn⟩
  · intro L2 i lr lb x hx hL2 W' H4 hP hW hf4 hnL hL4 hgL
    rw [List.getElem?_map, Option.map_eq_some_iff] at hx
    obtain ⟨l, hll, rfl⟩ := hx
    have hlen := q2k l (List.mem_of_getElem? hll)
    refine ⟨_, rfl, ?_⟩
    obtain ⟨-, wa, wb⟩ := qg3 M ⟨some L2, ja⟩
    simp only [↓JN_eq, CTL3, OPS3, cast0, reduceIte, Nat.reduceEqDiff, wa, qrh]
    refine ⟨hgL, ?_⟩
    have hn2 : H1.next < H3.next := by omega
    have hW1 : ¬ W0 H1.next := fun q => by have := hW0 _ q; omega
    have g4 : H4.get H1.next = some (OR [.fn (.yield L) [] []] T__83) := by rw [hf4.keep _ hn2 (fun q => q.elim hW1 fun q => by omega), hg13]
    have hs5 : Fr (On L2) H4 (H4.set L2 lb) := (Fr.refl H4).set (W := On L2) (.inl rfl) _
    have g5 : (H4.set L2 lb).get H1.next = some (OR [.fn (.yield L) [] []] T__83) := by rw [qr (by omega), g4]
    have gL5 : (H4.set L2 lb).get L2 = some lb := ql ..
    have hR5 := loc i W' H4 (H4.set L2 lb) hP (fun b hb => hs5.keep b (hW b hb).1 (fun (q : b = L2) => hnL (q ▸ hb))) hs5.next
    have hW5 : ∀ b, W' b → b < (H4.set L2 lb).next ∧ (W0 b ∨ H1.next ≤ b) := fun b hb => ⟨(hW b hb).1, (hW b hb).2.imp id fun q => by omega⟩
    have hf5 : Fr (fun b => W0 b ∨ (fun _ => False) b) H1 (H4.set L2 lb) := by
      refine Fr.set ?_ (.inr (by omega)) _
      exact ⟨Nat.le_trans hf13.next hf4.next, fun b hb hw => by
        rw [hf4.keep b (by omega) (fun q => q.elim (fun q => hw (.inl q)) fun q => by omega), hf13.keep b hb id]⟩
    have hL5 : L2 < (H4.set L2 lb).next := hL4
    have hn45 : (H4.set L2 lb).next = H4.next := rfl
    generalize H4.set L2 lb = H5 at *
    have l7 : Op.load1 [.ptr H1.next 0] H5 = some (.fn (.yield L) [] []) := by rw [yv (zo g5)]; rfl
    simp only [↓JN_eq, CTL3, OPS3, cast0, reduceIte, Nat.reduceEqDiff, wb, l7]
    refine C3.q (qon (M := M) (by omega) (by decide)) fun v H' ⟨hv, hH⟩ => ?_
    subst hv; subst hH
    simp only [↓JN_eq, CTL3, OPS3, cast0, reduceIte, Nat.reduceEqDiff, l7, qgl]
    refine C3.q (qpa (M := M) (by omega) (by decide)) fun v H' ⟨hv, hH⟩ => ?_
    subst hv; subst hH
    have hv : ∀ K, V3 true [.fn (.yield L) [] [], .str (trimB l), .bool (hasB l)] K = K true (.yield L) (lnV l) := fun K => qs7 L [] _ K
    have ht : (if ([10] : B).length ≤ l.length ∧ l.drop (l.length - ([10] : B).length) = [10] then l.take (l.length - ([10] : B).length) else l) = trimB l := rfl
    have hh : decide (([10] : B).length ≤ l.length ∧ l.drop (l.length - ([10] : B).length) = [10]) = hasB l := rfl
    rw [ht, hh]
    simp only [↓JN_eq, CTL3, OPS3, cast0, reduceIte, Nat.reduceEqDiff, l7, qgl, hv]
    obtain ⟨bb, H6, W2, hrd, hfr, hW2, hbt, hbs⟩ := step i (lnV l) (by rw [List.getElem?_map, hll]; rfl) W' H' hR5 hW5 hf5
    refine C3.yret hrd ?_
    have bnd : ∀ b, W2 b → b < H6.next ∧ (W' b ∨ H4.next ≤ b) := fun b hb => ⟨(hW2 b hb).1, (hW2 b hb).2.imp id fun q => by omega⟩
    have hfr2 : Fr (fun b => W' b ∨ b = L2) H4 H6 := (hs5.mono (W' := fun b => W' b ∨ b = L2) fun x _ q => .inr q).trans hfr fun x hx => .inl (.inl hx)
    have hg6 : H6.get L2 = some lb := by rw [hfr.keep L2 hL5 hnL, gL5]
    cases bb with
    | true =>
      simp only [↓JN_eq, CTL3, OPS3, cast0, reduceIte, Nat.reduceEqDiff]
      exact ⟨rfl, hg6, W2, bnd, hfr2, .inl ⟨rfl, hbt rfl⟩⟩
    | false =>
      simp only [↓JN_eq, CTL3, OPS3, cast0, reduceIte, Nat.reduceEqDiff]
      exact ⟨rfl, hg6, W2, bnd, hfr2, .inr ⟨trivial, rfl, hbs rfl⟩⟩
  · intro d W' H' hd1 hd2 hd3 hf hW hP
    refine ⟨hd3, W', ?_, fun b hb => ⟨(hW b hb).1, (hW b hb).2.1.imp id fun q => by omega⟩, .inl ?_⟩
    · refine Fr.set ?_ (.inr (by omega)) _
      exact ⟨Nat.le_trans hf13.next hf.next, fun b hb hw => by
        rw [hf.keep b (by omega) (fun q => q.elim (fun q => hw (.inl q)) fun q => by omega), hf13.keep b hb id]⟩
    · rw [List.length_map]
      refine loc _ W' H' _ ?_ (fun b hb => qr (fun q => (hW b hb).2.2 q.symm) _) (Nat.le_refl _)
      rw [List.length_map] at hP
      exact hP
  · rintro e d W' H' hj hd1 hd2 hd3 hf hW ⟨rfl, hS⟩
    refine ⟨hd3, W', ?_, fun b hb => ⟨(hW b hb).1, (hW b hb).2.1.imp id fun q => by omega⟩, .inr ?_⟩
    · refine Fr.set ?_ (.inr (by omega)) _
      exact ⟨Nat.le_trans hf13.next hf.next, fun b hb hw => by
        rw [hf.keep b (by omega) (fun q => q.elim (fun q => hw (.inl q)) fun q => by omega), hf13.keep b hb id]⟩
    · exact locS W' H' _ hS (fun b hb => qr (fun q => (hW b hb).2.2 q.symm) _) (Nat.le_refl _)
end Go.Am
namespace Go.Am
open Tr Go.Proofs
variable {M : Mac} [MK M]
def parseL : Nat → List B → Except Nat (List Evt)
  | _, [] => .ok []
  | n, l :: r => match readB (trimB l) with
    | none => .error (n + 1)
    | some x => if hasB l = true then (match parseL (n + 1) r with
      | .ok h => .ok (x :: h)
      | .error k => .error k) else .error (n + 1)
theorem qyp (w : B) : trimB (w ++ [10]) = w ∧ hasB (w ++ [10]) = true := by
  have h : 1 ≤ (w ++ [10]).length ∧ (w ++ [10]).drop ((w ++ [10]).length - 1) = ([10] : B) := by simp
  exact ⟨by unfold trimB; rw [if_pos h]; simp, decide_eq_true h⟩
theorem trim_no {w : B} (h : (10 : UInt8) ∉ w) : trimB w = w ∧ hasB w = false := by
  have h : ¬ (1 ≤ w.length ∧ w.drop (w.length - 1) = ([10] : B)) := fun q => h (by
    have := List.mem_of_mem_drop (show (10 : UInt8) ∈ w.drop (w.length - 1) by rw [q.2]; simp)
    exact this)
  exact ⟨by unfold trimB; rw [if_neg h], decide_eq_false h⟩
theorem qys : ∀ (ws : List B) (n : Nat), (∀ w ∈ ws, (10 : UInt8) ∉ w) → parseL n (lnsG ws) = parseGo n ws
  | [], n, _ => rfl
  | [w], n, h => by
    rw [lnsG, parseGo]
    by_cases hw : w = []
    · rw [if_pos hw, if_pos hw]; rfl
    · rw [if_neg hw, if_neg hw, parseL]
      obtain ⟨h1, h2⟩ := trim_no (h w (List.mem_cons_self ..))
      rw [h1, h2]
      cases readB w <;> rfl
  | w :: w' :: r, n, h => by
    rw [lnsG, parseGo, parseL, (qyp w).1, (qyp w).2, qys (w' :: r) (n + 1) fun x hx => h x (List.mem_cons_of_mem _ hx)]
    cases readB w with
    | none => rfl
    | some x => simp only [if_true]; cases parseGo (n + 1) (w' :: r) <;> rfl
theorem qy7 (c : UInt8) : ∀ (s : B), ∀ w ∈ splitB c s, c ∉ w
  | [], w, h => by simp [splitB] at h; simp [h]
  | d :: s, w, h => by
    have ih := qy7 c s
    rw [splitB] at h
    split at h
    · rcases List.mem_cons.1 h with rfl | h
      · simp
      · exact ih w h
    · rename_i hd
      split at h
      · simp at h; simp [h, Ne.symm hd]
      · rename_i w' ws hq
        rw [hq] at ih
        rcases List.mem_cons.1 h with rfl | h
        · have := ih w' (List.mem_cons_self ..); simp [Ne.symm hd, this]
        · exact ih w (List.mem_cons_of_mem _ h)
theorem qzp (s : B) : parseL 0 (lnsB s) = parseB s := qys _ _ (qy7 10 s)
theorem q0k {H : AHeap} {s : B} : CALLQ M vo [.str s] H (Pu (.fn (.func ja) [] [.ptr H.next 0]) (H.alloc (OR [.str s] qm))) := by
  refine qs2 ?_
  simp only [↓JN_eq, CTL3, OPS3, cast0, reduceIte, Nat.reduceEqDiff, qsl]
  exact ⟨rfl, rfl⟩
structure PsP (H : AHeap) (s : B) (i : Nat) (V : Nat → Prop) (Hc : AHeap) : Prop where
  v2 : V H.next
  v3 : V (H.next + 1)
  v4 : V (H.next + 2)
  v5 : V (H.next + 3)
  v6 : V (H.next + 4)
  lt : H.next + 4 < Hc.next
  g2 : Hc.get H.next = some (OR [.nils] T__6)
  g3 : Hc.get (H.next + 1) = some (OR [.int .i64 0] T_int)
  g4 : Hc.get (H.next + 2) = some (OR [.int .i64 0] zn)
  g6 : Hc.get (H.next + 4) = some (OR [.int .i64 (i : Nat)] T_int)
  le : i ≤ (lnsB s).length
  ls : ∃ w xs, Hc.get (H.next + 3) = some (OR [w] T__6) ∧ OwnT Evt.enc qb 9 Hc w xs ∧ xs.length ≤ i ∧ (∀ b, OnS w b → V b ∧ H.next + 4 < b) ∧ parseL 0 (lnsB s) = (match parseL i ((lnsB s).drop i) with
    | .ok h => .ok (xs ++ h)
    | .error k => .error k)
theorem PsP.loc {H : AHeap} {s : B} {i : Nat} {V : Nat → Prop} {H1 H2 : AHeap} (h : PsP H s i V H1) (hs : ∀ b, V b → H2.get b = H1.get b) (hn : H1.next ≤ H2.next) : PsP H s i V H2 := by
  obtain ⟨w, xs, h1, h2, h3, h4, h5⟩ := h.ls
  exact ⟨h.v2, h.v3, h.v4, h.v5, h.v6, Nat.lt_of_lt_of_le h.lt hn, by rw [hs _ h.v2, h.g2], by rw [hs _ h.v3, h.g3], by rw [hs _ h.v4, h.g4], by rw [hs _ h.v6, h.g6], h.le,
    w, xs, by rw [hs _ h.v5, h1], Own.fr h2 (W := fun b => ¬ V b) ⟨hn, fun b _ q => hs b (Classical.not_not.1 q)⟩ fun x hx q => q (h4 x hx).1, h3, h4, h5⟩
structure PsS (H : AHeap) (s : B) (V : Nat → Prop) (Hc : AHeap) : Prop where
  v2 : V H.next
  v3 : V (H.next + 1)
  v4 : V (H.next + 2)
  bad : ∃ k : Nat, Hc.get H.next = some (OR [.nils] T__6) ∧ Hc.get (H.next + 1) = some (OR [.int .i64 (k : Nat)] T_int) ∧ Hc.get (H.next + 2) = some (OR [.int .i64 230] zn) ∧ parseL 0 (lnsB s) = .error k
theorem PsS.loc {H : AHeap} {s : B} {V : Nat → Prop} {H1 H2 : AHeap} (h : PsS H s V H1) (hs : ∀ b, V b → H2.get b = H1.get b) : PsS H s V H2 := by
  obtain ⟨k, h1, h2, h3, h4⟩ := h.bad
  exact ⟨h.v2, h.v3, h.v4, k, by rw [hs _ h.v2, h1], by rw [hs _ h.v3, h2], by rw [hs _ h.v4, h3], h4⟩
def ParQ (H : AHeap) (o : Except Nat (List Evt)) (v : AV) (H' : AHeap) : Prop := (∃ l w, o = .ok l ∧ v = .tuple [w, .int .i64 0, .int .i64 0] ∧ NewE H H' w l) ∨ (∃ k : Nat, o = .error k ∧ v = .tuple [.nils, .int .i64 (k : Nat), .int .i64 230] ∧ Fr Em H H')
end Go.Am
namespace Go.Am
open Tr Go.Proofs
variable {M : Mac} [MK M]
theorem st1c {H : AHeap} {b e : Nat} {x y : AV} (h : H.get b = some (OR [x] e)) (hy : y.cells = [y]) (h1 : oneCell y = true) : Op.store 1 [.ptr b 0, y] H = some (.undef, H.set b (OR [y] e)) := by
  rw [qbl (o := 0) (n := 1) (v := y) h (by rw [hy]; rfl) (by simp) (by rw [hy, qaq]; simp [h1])]
  simp [hy]
theorem ld1c {H : AHeap} {b e : Nat} {x : AV} (h : H.get b = some (OR [x] e)) : Op.load1 [.ptr b 0] H = some x := by rw [yv (zo h)]; rfl
theorem q08 (s : B) : (lnsB s).length ≤ s.length + 1 := by
  have key : ∀ ws : List B, (lnsG ws).length ≤ ws.length := by
    intro ws
    induction ws with
    | nil => exact Nat.le_refl _
    | cons w ws ih =>
      cases ws with
      | nil => rw [lnsG]; split <;> simp
      | cons w' r => rw [lnsG]; simp only [List.length_cons] at ih ⊢; omega
  have h1 := key (splitB 10 s)
  have h2 := qbr 10 s
  have h3 := qh7 10 s
  exact Nat.le_trans h1 (by omega)
theorem q0t {H : AHeap} {s : B} (hl : s.length < 90000) (ht : Tbs H) : CALLQ M kg [.str s] H (ParQ H (parseB s)) := by
  refine qtt ?_
  rw [← qzp]
  have h10 := ht.tab.lt
  obtain ⟨H5, hH5⟩ : ∃ H5, H5 = ((((H.alloc (OR [.nils] T__6)).alloc (OR [.int .i64 0] T_int)).alloc (OR [.int .i64 0] zn)).alloc (OR [.nils] T__6)).alloc (OR [.int .i64 0] T_int) := ⟨_, rfl⟩
  have hn5 : H5.next = H.next + 5 := by rw [hH5]; rfl
  have hf5 : Fr Em H H5 := by rw [hH5]; exact (((((Fr.refl H).alloc _).alloc _).alloc _).alloc _).alloc _
  have g2 : H5.get H.next = some (OR [.nils] T__6) := by rw [hH5, zd (show H.next < H.next + 4 by omega), zd (show H.next < H.next + 3 by omega), zd (show H.next < H.next + 2 by omega), zd (show H.next < H.next + 1 by omega)]; exact qn ..
  have g3 : H5.get (H.next + 1) = some (OR [.int .i64 0] T_int) := by rw [hH5, zd (show H.next + 1 < H.next + 4 by omega), zd (show H.next + 1 < H.next + 3 by omega), zd (show H.next + 1 < H.next + 2 by omega)]; exact qn ..
  have g4 : H5.get (H.next + 2) = some (OR [.int .i64 0] zn) := by rw [hH5, zd (show H.next + 2 < H.next + 4 by omega), zd (show H.next + 2 < H.next + 3 by omega)]; exact qn ..
  have g5 : H5.get (H.next + 3) = some (OR [.nils] T__6) := by rw [hH5, zd (show H.next + 3 < H.next + 4 by omega)]; exact qn ..
  have g6 : H5.get (H.next + 4) = some (OR [.int .i64 0] T_int) := by rw [hH5]; exact qn ..
  obtain ⟨w0, wa, wb0, w4, wb5, w6, wb13, w11⟩ := qj7 M ⟨none, kg⟩
  have hs0 : Op.store 1 [.ptr (H.next + 4) 0, .int .i64 0] H5 = some (.undef, H5.set (H.next + 4) (OR [.int .i64 0] T_int)) := st1c g6 rfl rfl
  have hf6 : Fr Em H (H5.set (H.next + 4) (OR [.int .i64 0] T_int)) := hf5.set (.inr (by omega)) _
  have k2 : (H5.set (H.next + 4) (OR [.int .i64 0] T_int)).get H.next = some (OR [.nils] T__6) := by rw [qr (by omega), g2]
  have k3 : (H5.set (H.next + 4) (OR [.int .i64 0] T_int)).get (H.next + 1) = some (OR [.int .i64 0] T_int) := by rw [qr (by omega), g3]
  have k4 : (H5.set (H.next + 4) (OR [.int .i64 0] T_int)).get (H.next + 2) = some (OR [.int .i64 0] zn) := by rw [qr (by omega), g4]
  have k5 : (H5.set (H.next + 4) (OR [.int .i64 0] T_int)).get (H.next + 3) = some (OR [.nils] T__6) := by rw [qr (by omega), g5]
  have k6 : (H5.set (H.next + 4) (OR [.int .i64 0] T_int)).get (H.next + 4) = some (OR [.int .i64 0] T_int) := ql ..
  have hn6 : (H5.set (H.next + 4) (OR [.int .i64 0] T_int)).next = H.next + 5 := hn5
  rw [hH5] at hs0 hf6 k2 k3 k4 k5 k6 hn6
  simp only [↓JN_eq, CTL3, OPS3, cast0, reduceIte, Nat.reduceEqDiff, w0, w4, w6, z6, Nat.add_assoc, Nat.reduceAdd, hs0]
  generalize AHeap.set _ (H.next + 4) _ = H6 at *
  clear hs0 g2 g3 g4 g5 g6 hf5 hn5 hH5 H5
  refine C3.q (q0k (M := M)) fun v H7 ⟨hv, hH⟩ => ?_
  subst hv; subst hH
  have hf67 : Fr Em H6 (H6.alloc (OR [.str s] qm)) := (Fr.refl H6).alloc _
  have hg7 : (H6.alloc (OR [.str s] qm)).get H6.next = some (OR [.str s] qm) := qn ..
  have hn7 : (H6.alloc (OR [.str s] qm)).next = H6.next + 1 := rfl
  generalize H6.alloc (OR [.str s] qm) = H7 at *
  have hf7 := hf6.em hf67
  refine RNG3.iter (fn := vf) (lp := yl) (pa := qiv 0) (pb := yj 0) qiu qhy.1 qhy.2 (by decide) ⟨rfl, qg8 yl.assign⟩ ⟨rfl, qg8 yl.body⟩
    (qxx (M := M) hg7 (by omega) (by omega)) (PsP H s) (fun e V H' => e = .ret ∧ PsS H s V H') (fun b => H.next ≤ b ∧ b < H.next + 5) (Nat.le_refl _) ?_ ?_ ?_ ?_ ?_ ?_ ?_ ?_
  · rintro b (rfl | h)
    · exact ⟨by omega, rfl, fun q => by omega⟩
    · exact h.elim
  · exact fun b hb => by omega
  · have kk : ∀ b, b < H.next + 5 → H7.get b = H6.get b := fun b hb => hf67.keep b (by omega) id
    refine ⟨⟨by omega, by omega⟩, ⟨by omega, by omega⟩, ⟨by omega, by omega⟩, ⟨by omega, by omega⟩, ⟨by omega, by omega⟩, by omega, by rw [kk _ (by omega), k2], by rw [kk _ (by omega), k3], by rw [kk _ (by omega), k4], by rw [kk _ (by omega), k6]; rfl, Nat.zero_le _,
      .nils, [], by rw [kk _ (by omega), k5], Own.nil _ _ _, Nat.le_refl _, fun b q => (q.1 rfl).elim, ?_⟩
    rw [List.drop_zero]; cases parseL 0 (lnsB s) <;> rfl
  · exact fun i V H1 H2 h hs hn => h.loc hs hn
  · exact fun e V H1 H2 h hs hn => ⟨h.1, h.2.loc hs⟩
  · intro L2 i lr lb x hx hL2 V H8 hP hV hf8 hnL hL8 hgL
    rw [List.getElem?_map, Option.map_eq_some_iff] at hx
    obtain ⟨l, hll, rfl⟩ := hx
    have hlen := q2k l (List.mem_of_getElem? hll)
    refine ⟨_, rfl, ?_⟩
    obtain ⟨w0, wa, wb0, w4, wb5, w6, wb13, w11⟩ := qj7 M ⟨some L2, kg⟩
    simp only [↓JN_eq, CTL3, OPS3, cast0, reduceIte, Nat.reduceEqDiff, wa, qrh]
    refine ⟨hgL, ?_⟩
    have hs9 : Fr (On L2) H8 (H8.set L2 lb) := (Fr.refl H8).set (W := On L2) (.inl rfl) _
    have hP9 := hP.loc (H2 := H8.set L2 lb) (fun b hb => hs9.keep b (hV b hb).1 (fun (q : b = L2) => hnL (q ▸ hb))) hs9.next
    have gL9 : (H8.set L2 lb).get L2 = some lb := ql ..
    have hf89 : Fr (fun b => V b ∨ b = L2) H8 (H8.set L2 lb) := hs9.mono fun x _ q => .inr q
    have hf9 : Fr Em H (H8.set L2 lb) := (hf7.trans hf8 (fun x hx => .inr (hx.elim (fun q => q.1) fun q => q.elim))).set (.inr (by omega)) _
    have hL9 : L2 < (H8.set L2 lb).next := hL8
    have hn89 : (H8.set L2 lb).next = H8.next := rfl
    generalize H8.set L2 lb = H9 at *
    have l6 : Op.load1 [.ptr (H.next + 4) 0] H9 = some (.int .i64 (i : Nat)) := ld1c hP9.g6
    have hil : i < (lnsB s).length := (List.getElem?_eq_some_iff.1 hll).1
    have hils : i < 1000000 := by have := q08 s; omega
    have wi : wrapI .i64 ((i : Int) + 1) = ((i + 1 : Nat) : Int) := by rw [xc (by omega) (by omega)]; omega
    have s6 : Op.store 1 [.ptr (H.next + 4) 0, .int .i64 ((i + 1 : Nat) : Int)] H9 = some (.undef, H9.set (H.next + 4) (OR [.int .i64 ((i + 1 : Nat) : Int)] T_int)) := st1c hP9.g6 rfl rfl
    simp only [↓JN_eq, CTL3, OPS3, cast0, reduceIte, Nat.reduceEqDiff, wb0, l6, wi, s6]
    obtain ⟨w, xs, g5, hown, hxl, hon, hps⟩ := hP9.ls
    have hLp : ∀ b, V b → b ≠ L2 := fun b hb q => hnL (q ▸ hb)
    have hs10 : Fr (On (H.next + 4)) H9 (H9.set (H.next + 4) (OR [.int .i64 ((i + 1 : Nat) : Int)] T_int)) := (Fr.refl H9).set (W := On (H.next + 4)) (.inl rfl) _
    have hf10 : Fr Em H (H9.set (H.next + 4) (OR [.int .i64 ((i + 1 : Nat) : Int)] T_int)) := hf9.set (.inr (by omega)) _
    have hf810 : Fr (fun b => V b ∨ b = L2) H8 (H9.set (H.next + 4) (OR [.int .i64 ((i + 1 : Nat) : Int)] T_int)) := hf89.set (.inl (.inl hP9.v6)) _
    have t2 : (H9.set (H.next + 4) (OR [.int .i64 ((i + 1 : Nat) : Int)] T_int)).get H.next = some (OR [.nils] T__6) := by rw [qr (by omega), hP9.g2]
    have t3 : (H9.set (H.next + 4) (OR [.int .i64 ((i + 1 : Nat) : Int)] T_int)).get (H.next + 1) = some (OR [.int .i64 0] T_int) := by rw [qr (by omega), hP9.g3]
    have t4 : (H9.set (H.next + 4) (OR [.int .i64 ((i + 1 : Nat) : Int)] T_int)).get (H.next + 2) = some (OR [.int .i64 0] zn) := by rw [qr (by omega), hP9.g4]
    have t5 : (H9.set (H.next + 4) (OR [.int .i64 ((i + 1 : Nat) : Int)] T_int)).get (H.next + 3) = some (OR [w] T__6) := by rw [qr (by omega), g5]
    have t6 : (H9.set (H.next + 4) (OR [.int .i64 ((i + 1 : Nat) : Int)] T_int)).get (H.next + 4) = some (OR [.int .i64 ((i + 1 : Nat) : Int)] T_int) := ql ..
    have tL : (H9.set (H.next + 4) (OR [.int .i64 ((i + 1 : Nat) : Int)] T_int)).get L2 = some lb := by rw [qr (by omega), gL9]
    have hown10 : OwnT Evt.enc qb 9 (H9.set (H.next + 4) (OR [.int .i64 ((i + 1 : Nat) : Int)] T_int)) w xs := Own.fr hown hs10 fun b hb (q : b = H.next + 4) => by have := (hon b hb).2; omega
    have hn10 : (H9.set (H.next + 4) (OR [.int .i64 ((i + 1 : Nat) : Int)] T_int)).next = H8.next := hn89
    generalize H9.set (H.next + 4) (OR [.int .i64 ((i + 1 : Nat) : Int)] T_int) = H10 at *
    have htl : (trimB l).length ≤ l.length := by unfold trimB; split <;> simp
    refine C3.q (q3b (M := M) (by omega) (ht.em hf10)) fun v H11 ⟨hf11, y, ok, hv, hok1, hok2⟩ => ?_
    subst hv
    have hst : Op.store 9 [.ptr H11.next 0, .agg y.enc] (H11.alloc (OR zE.enc qb)) = some (.undef, (H11.alloc (OR zE.enc qb)).set H11.next (OR y.enc qb)) := st_ev (qn ..)
    have hf12 : Fr Em H10 ((H11.alloc (OR zE.enc qb)).set H11.next (OR y.enc qb)) := (hf11.alloc _).set (.inr hf11.next) _
    have g9 : ((H11.alloc (OR zE.enc qb)).set H11.next (OR y.enc qb)).get H11.next = some (OR y.enc qb) := ql ..
    rw [qe4] at hst hf12 g9
    simp only [↓JN_eq, CTL3, OPS3, cast0, reduceIte, Nat.reduceEqDiff, qg, hst]
    generalize (H11.alloc (OR [.int .i64 0, .int .i64 0, .int .i64 0, .int .i64 0, .int .i64 0, .int .i64 0, .int .i64 0, .int .u64 0, .int .i64 0] qb)).set H11.next (OR y.enc qb) = H12 at *
    have hlt : H.next + 5 ≤ H10.next := by have := hP.lt; omega
    have u2 : H12.get H.next = some (OR [.nils] T__6) := by rw [hf12.keep _ (by omega) id, t2]
    have u3 : H12.get (H.next + 1) = some (OR [.int .i64 0] T_int) := by rw [hf12.keep _ (by omega) id, t3]
    have u4 : H12.get (H.next + 2) = some (OR [.int .i64 0] zn) := by rw [hf12.keep _ (by omega) id, t4]
    have u5 : H12.get (H.next + 3) = some (OR [w] T__6) := by rw [hf12.keep _ (by omega) id, t5]
    have u6 : H12.get (H.next + 4) = some (OR [.int .i64 ((i + 1 : Nat) : Int)] T_int) := by rw [hf12.keep _ (by omega) id, t6]
    have uL : H12.get L2 = some lb := by rw [hf12.keep _ (by omega) id, tL]
    have hown12 := Own.em hown10 hf12
    have hf812 := hf810.em hf12
    have hfH12 := hf10.em hf12
    have hn12 := hf12.next
    clear hf12 hf11 hown10 hf10 hf810 hs10 hown hP9 t2 t3 t4 t5 t6 tL hst s6 l6
    have hdrop : (lnsB s).drop i = l :: (lnsB s).drop (i + 1) := by
      rw [List.drop_eq_getElem_cons hil]; congr 1; simpa [hil] using hll
    rw [hdrop, parseL] at hps
    have s2 : Op.store 1 [.ptr H.next 0, .nils] H12 = some (.undef, H12.set H.next (OR [.nils] T__6)) := st1c u2 rfl rfl
    have m6 : Op.load1 [.ptr (H.next + 4) 0] H12 = some (.int .i64 ((i + 1 : Nat) : Int)) := ld1c u6
    have m6' : Op.load1 [.ptr (H.next + 4) 0] (H12.set H.next (OR [.nils] T__6)) = some (.int .i64 ((i + 1 : Nat) : Int)) := ld1c (by rw [qr (by omega)]; exact u6)
    have s3 : Op.store 1 [.ptr (H.next + 1) 0, .int .i64 ((i + 1 : Nat) : Int)] (H12.set H.next (OR [.nils] T__6)) = some (.undef, (H12.set H.next (OR [.nils] T__6)).set (H.next + 1) (OR [.int .i64 ((i + 1 : Nat) : Int)] T_int)) := st1c (by rw [qr (by omega)]; exact u3) rfl rfl
    have s4 : Op.store 1 [.ptr (H.next + 2) 0, .int .i64 230] ((H12.set H.next (OR [.nils] T__6)).set (H.next + 1) (OR [.int .i64 ((i + 1 : Nat) : Int)] T_int)) = some (.undef, ((H12.set H.next (OR [.nils] T__6)).set (H.next + 1) (OR [.int .i64 ((i + 1 : Nat) : Int)] T_int)).set (H.next + 2) (OR [.int .i64 230] zn)) := st1c (by rw [qr (by omega), qr (by omega)]; exact u4) rfl rfl
    have bad : parseL 0 (lnsB s) = .error (i + 1) → BD3 (PsP H s (i + 1)) (fun e V H' => e = .ret ∧ PsS H s V H') L2 lb V H8 .ret [] [] (((H12.set H.next (OR [.nils] T__6)).set (H.next + 1) (OR [.int .i64 ((i + 1 : Nat) : Int)] T_int)).set (H.next + 2) (OR [.int .i64 230] zn)) := fun q => by
      refine ⟨rfl, by rw [qr (by omega), qr (by omega), qr (by omega), uL], (fun b => b = H.next ∨ b = H.next + 1 ∨ b = H.next + 2), ?_, ((hf812.set (.inl (.inl hP.v2)) _).set (.inl (.inl hP.v3)) _).set (.inl (.inl hP.v4)) _, .inr ⟨trivial, rfl, .inl rfl, .inr (.inl rfl), .inr (.inr rfl), i + 1, ?_, ?_, ql .., q⟩⟩
      · rintro b (rfl | rfl | rfl)
        · exact ⟨by show H.next < H12.next; omega, .inl hP.v2⟩
        · exact ⟨by show H.next + 1 < H12.next; omega, .inl hP.v3⟩
        · exact ⟨by show H.next + 2 < H12.next; omega, .inl hP.v4⟩
      · rw [qr (by omega), qr (by omega), ql]
      · rw [qr (by omega), ql]
    cases ok with
    | false =>
      rw [hok2 rfl] at hps
      simp only [↓JN_eq, CTL3, OPS3, cast0, reduceIte, Nat.reduceEqDiff, wb5, m6, s2, m6', qgl, s3, s4]
      exact bad hps
    | true =>
    rw [hok1 rfl] at hps
    simp only at hps
    cases hh : hasB l with
    | false =>
      rw [hh, if_neg (by simp)] at hps
      simp only [↓JN_eq, CTL3, OPS3, cast0, reduceIte, Nat.reduceEqDiff, wb5, m6, s2, m6', qgl, s3, s4]
      exact bad hps
    | true =>
    rw [hh, if_pos rfl] at hps
    have m5 : Op.load1 [.ptr (H.next + 3) 0] H12 = some w := ld1c u5
    simp only [↓JN_eq, CTL3, OPS3, cast0, reduceIte, Nat.reduceEqDiff, wb5, wb13, m5, ld_ev g9]
    have hnew : NewE H H12 w xs := ⟨hown12, hfH12, fun b hb => by have := (hon b hb).2; omega⟩
    refine hnew.app4 (bytes := 72) (a := y) rfl rfl rfl rfl (by omega) (by omega) (by omega) fun v' H13 hv' hf13 => ?_
    have hc1 : AV.cells v' = [v'] := by
      have h1 : oneCell v' = true := SlT.one hv'.sl
      cases v' <;> first | rfl | cases h1
    have hno : ∀ b, b < H.next + 5 → ¬ OnS w b := fun b hb q => by have := (hon b q).2; omega
    have hnoL : ¬ OnS w L2 := fun q => hnL (hon L2 q).1
    have keep : ∀ b, b < H.next + 5 → H13.get b = H12.get b ∧ b < H13.next ∧ ¬ OnS v' b := fun b hb => hf13.get (by omega) (hno b hb)
    have hL13 := hf13.get (b := L2) (by omega) hnoL
    have s5 : Op.store 1 [.ptr (H.next + 3) 0, v'] H13 = some (.undef, H13.set (H.next + 3) (OR [v'] T__6)) := st1c ((keep _ (by omega)).1.trans u5) hc1 (SlT.one hv'.sl)
    simp only [↓JN_eq, CTL3, OPS3, cast0, reduceIte, Nat.reduceEqDiff, s5]
    have hv5 : V (H.next + 3) := hP.v5
    have hsz : (H13.set (H.next + 3) (OR [v'] T__6)).next = H13.next := rfl
    refine ⟨rfl, by rw [qr (by omega), hL13.1, uL], (fun b => (H.next ≤ b ∧ b < H.next + 5) ∨ OnS v' b), ?_, (hf812.trans hf13.fr fun x hx => .inl (.inl (hon x hx).1)).set (.inl (.inl hv5)) _, .inl ⟨rfl, ?_⟩⟩
    · rintro b (hb | hb)
      · refine ⟨(keep b hb.2).2.1, .inl ?_⟩
        rcases (show b = H.next ∨ b = H.next + 1 ∨ b = H.next + 2 ∨ b = H.next + 3 ∨ b = H.next + 4 by omega) with rfl | rfl | rfl | rfl | rfl
        · exact hP.v2
        · exact hP.v3
        · exact hP.v4
        · exact hP.v5
        · exact hP.v6
      · exact ⟨Own.lt hv'.own b hb, (hf13.on b hb).imp (fun q => (hon b q).1) fun q => by omega⟩
    · refine ⟨.inl ⟨by omega, by omega⟩, .inl ⟨by omega, by omega⟩, .inl ⟨by omega, by omega⟩, .inl ⟨by omega, by omega⟩, .inl ⟨by omega, by omega⟩, (keep (H.next + 4) (by omega)).2.1, by rw [qr (by omega), (keep _ (by omega)).1, u2], by rw [qr (by omega), (keep _ (by omega)).1, u3], by rw [qr (by omega), (keep _ (by omega)).1, u4], by rw [qr (by omega), (keep _ (by omega)).1, u6], hil,
        v', xs ++ [y], ql .., Own.fr hv'.own ((Fr.refl H13).set (W := On (H.next + 3)) (.inl rfl) _) fun b hb (q : b = H.next + 3) => (keep _ (by omega)).2.2 (q ▸ hb), by rw [List.length_append]; simp; omega, fun b hb => ⟨.inr hb, (hf13.on b hb).elim (fun q => (hon b q).2) fun q => by omega⟩, ?_⟩
      rw [hps]; cases parseL (i + 1) ((lnsB s).drop (i + 1)) <;> simp
  · intro d V H8 hd1 hd2 hd3 hf hV hP
    obtain ⟨w, xs, g5, hown, hxl, hon, hps⟩ := hP.ls
    rw [List.length_map] at hP hxl hps
    rw [List.drop_length, parseL] at hps
    have hc1 : AV.cells w = [w] := by
      have h1 : oneCell w = true := SlT.one (OwnT.sl hown)
      cases w <;> first | rfl | cases h1
    have m5 : Op.load1 [.ptr (H.next + 3) 0] H8 = some w := ld1c g5
    have s2 : Op.store 1 [.ptr H.next 0, w] H8 = some (.undef, H8.set H.next (OR [w] T__6)) := st1c hP.g2 hc1 (SlT.one (OwnT.sl hown))
    have s3 : Op.store 1 [.ptr (H.next + 1) 0, .int .i64 0] (H8.set H.next (OR [w] T__6)) = some (.undef, (H8.set H.next (OR [w] T__6)).set (H.next + 1) (OR [.int .i64 0] T_int)) := st1c (by rw [qr (by omega)]; exact hP.g3) rfl rfl
    have s4 : Op.store 1 [.ptr (H.next + 2) 0, .int .i64 0] ((H8.set H.next (OR [w] T__6)).set (H.next + 1) (OR [.int .i64 0] T_int)) = some (.undef, ((H8.set H.next (OR [w] T__6)).set (H.next + 1) (OR [.int .i64 0] T_int)).set (H.next + 2) (OR [.int .i64 0] zn)) := st1c (by rw [qr (by omega), qr (by omega)]; exact hP.g4) rfl rfl
    have hlt8 := hP.lt
    have hno : ∀ b, b < H.next + 5 → ¬ OnS w b := fun b hb q => by have := (hon b q).2; omega
    have hdw : ¬ OnS w d := fun q => (hV d (hon d q).1).2.2 rfl
    have hfH : Fr Em H H8 := hf7.trans hf fun x hx => .inr (hx.elim (fun q => q.1) fun q => q.elim)
    have hnw : NewE H H8 w xs := ⟨hown, hfH, fun b hb => by have := (hon b hb).2; omega⟩
    have hnw2 := ((((hnw.setOff (b := H.next) (Nat.le_refl _) (hno _ (by omega)) (OR [w] T__6)).setOff (b := H.next + 1) (by omega) (hno _ (by omega)) (OR [.int .i64 0] T_int)).setOff (b := H.next + 2) (by omega) (hno _ (by omega)) (OR [.int .i64 0] zn)).setOff (b := d) (by omega) hdw (.deferred none))
    have r2 : Op.load1 [.ptr H.next 0] ((((H8.set H.next (OR [w] T__6)).set (H.next + 1) (OR [.int .i64 0] T_int)).set (H.next + 2) (OR [.int .i64 0] zn)).set d (.deferred none)) = some w := ld1c (e := T__6) (by rw [qr (by omega), qr (by omega), qr (by omega), ql])
    have r3 : Op.load1 [.ptr (H.next + 1) 0] ((((H8.set H.next (OR [w] T__6)).set (H.next + 1) (OR [.int .i64 0] T_int)).set (H.next + 2) (OR [.int .i64 0] zn)).set d (.deferred none)) = some (.int .i64 0) := ld1c (e := T_int) (by rw [qr (by omega), qr (by omega), ql])
    have r4 : Op.load1 [.ptr (H.next + 2) 0] ((((H8.set H.next (OR [w] T__6)).set (H.next + 1) (OR [.int .i64 0] T_int)).set (H.next + 2) (OR [.int .i64 0] zn)).set d (.deferred none)) = some (.int .i64 0) := ld1c (e := zn) (by rw [qr (by omega), ql])
    simp only [↓JN_eq, CTL3, OPS3, cast0, reduceIte, Nat.reduceEqDiff, w11, m5, s2, s3, s4, qv4, r2, r3, r4]
    exact ⟨by rw [qr (by omega), qr (by omega), qr (by omega), hd3], .inl ⟨xs, w, by rw [hps]; simp, rfl, hnw2⟩⟩
  · rintro e d V H8 hj hd1 hd2 hd3 hf hV ⟨rfl, hS⟩
    obtain ⟨k, q2, q3, q4, q5⟩ := hS.bad
    have hfH : Fr Em H H8 := hf7.trans hf fun x hx => .inr (hx.elim (fun q => q.1) fun q => q.elim)
    have r2 : Op.load1 [.ptr H.next 0] (H8.set d (.deferred none)) = some .nils := ld1c (e := T__6) (by rw [qr (by omega), q2])
    have r3 : Op.load1 [.ptr (H.next + 1) 0] (H8.set d (.deferred none)) = some (.int .i64 (k : Nat)) := ld1c (e := T_int) (by rw [qr (by omega), q3])
    have r4 : Op.load1 [.ptr (H.next + 2) 0] (H8.set d (.deferred none)) = some (.int .i64 230) := ld1c (e := zn) (by rw [qr (by omega), q4])
    simp only [↓JN_eq, CTL3, OPS3, cast0, reduceIte, Nat.reduceEqDiff, qv4, r2, r3, r4]
    exact ⟨hd3, .inr ⟨k, q5, rfl, hfH.set (.inr (by omega)) _⟩⟩
end Go.Am
