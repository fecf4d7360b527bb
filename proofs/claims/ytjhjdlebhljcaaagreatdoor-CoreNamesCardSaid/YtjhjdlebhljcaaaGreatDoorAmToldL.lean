/- CALLS THAT ARE TOLD AT A HEAP THAT IS WRITTEN OUT: a long closed run, cut into many. -/
import Derived.Test.YtjhjdlebhljcaaaGreatDoorAmTold
namespace Go.Am
open Go.RowKit
set_option linter.unusedVariables false

/-! ### objects -/
def sameEs : List (AV × AV × Nat) → List (AV × AV × Nat) → Bool
  | [], [] => true
  | (a, b, c) :: x, (a', b', c') :: y => sameV a a' && (sameV b b' && (Nat.beq c c' && sameEs x y))
  | _, _ => false
def sameO : AObj → AObj → Bool
  | .row c e f o, .row c' e' f' o' => Nat.beq e e' && (Nat.beq f.1 f'.1 && (Nat.beq f.2 f'.2 && (cond o o' (!o') && sameL c c')))
  | .grown m s c e f, .grown m' s' c' e' f' => Nat.beq m m' && (Nat.beq s s' && (Nat.beq e e' && (Nat.beq f.1 f'.1 && (Nat.beq f.2 f'.2 && sameL c c'))))
  | .map es c, .map es' c' => Nat.beq c c' && sameEs es es'
  | _, _ => false
theorem sameEs_eq : ∀ (a b : List (AV × AV × Nat)), sameEs a b = true → a = b
  | [], [], _ => rfl
  | [], _ :: _, h => by simp [sameEs] at h
  | _ :: _, [], h => by simp [sameEs] at h
  | (a, b, c) :: x, (a', b', c') :: y, h => by
    simp only [sameEs, Bool.and_eq_true, Nat.beq_eq] at h
    rw [sameV_eq _ _ h.1, sameV_eq _ _ h.2.1, h.2.2.1, sameEs_eq _ _ h.2.2.2]
theorem sameO_eq {a b : AObj} (h : sameO a b = true) : a = b := by
  cases a <;> cases b <;> simp only [sameO, Bool.and_eq_true, Nat.beq_eq, Bool.false_eq_true] at h
  · rename_i c e f o c' e' f' o'
    obtain ⟨h1, h2, h3, h4, h5⟩ := h
    obtain ⟨f1, f2⟩ := f; obtain ⟨f1', f2'⟩ := f'
    simp only at h2 h3
    rw [sameL_eq _ _ h5, h1, h2, h3]
    cases o <;> cases o' <;> first | rfl | cases h4
  · rename_i m s c e f m' s' c' e' f'
    obtain ⟨h1, h2, h3, h4, h5, h6⟩ := h
    obtain ⟨f1, f2⟩ := f; obtain ⟨f1', f2'⟩ := f'
    simp only at h4 h5
    rw [sameL_eq _ _ h6, h1, h2, h3, h4, h5]
  · rw [sameEs_eq _ _ h.2, h.1]

/-! ### heaps -/
abbrev OL := List (Nat × AObj)
noncomputable section
def treeOf (l : OL) : T AObj := List.rec (motive := fun _ => T AObj) .nil (fun x _ ih => (T.putC (T.path x.1)).run (some x.2) ih) l
def heapOf (l : OL) (n : Nat) : AHeap := ⟨treeOf l, n⟩
def isO (o : AObj) : Option AObj → Bool
  | some o' => sameO o' o
  | none => false
def hasO (t : T AObj) (l : OL) : Bool := List.rec (motive := fun _ => Bool) true (fun x _ ih => cond (isO x.2 ((T.getC (T.path x.1)).run t)) ih false) l
theorem hasO_get {H : AHeap} : ∀ {l : OL}, hasO H.t l = true → ∀ {b : Nat} {o : AObj}, (b, o) ∈ l → H.get b = some o
  | [], _, b, o, h => by cases h
  | (b', o') :: l, hr, b, o, h => by
    have hr : cond (isO o' ((T.getC (T.path b')).run H.t)) (hasO H.t l) false = true := hr
    cases hc : isO o' ((T.getC (T.path b')).run H.t) with
    | false => rw [hc] at hr; cases hr
    | true =>
      rw [hc] at hr
      rcases List.mem_cons.1 h with e | h
      · injection e with e1 e2; subst e1; subst e2
        rw [T.getC_run] at hc
        unfold isO at hc
        split at hc
        · rename_i q hq; rw [← sameO_eq hc]; exact hq
        · cases hc
      · exact hasO_get hr h
theorem treeOf_get : ∀ {l : OL} {b : Nat} {o : AObj}, (treeOf l).get b = some o → (b, o) ∈ l
  | [], b, o, h => by
    have : (T.nil : T AObj).get b = none := T.get_nil b
    rw [show treeOf [] = T.nil from rfl, this] at h; cases h
  | (b', o') :: l, b, o, h => by
    have e : treeOf ((b', o') :: l) = (treeOf l).set b' o' := by
      show (T.putC (T.path b')).run (some o') (treeOf l) = _
      rw [T.putC_run]; rfl
    rw [e, T.get_set] at h
    by_cases hb : b' = b
    · subst hb; rw [if_pos rfl] at h; injection h with h; subst h; exact List.mem_cons_self ..
    · rw [if_neg hb] at h; exact List.mem_cons_of_mem _ (treeOf_get h)
theorem heapOf_get {l : OL} {n b : Nat} {o : AObj} (h : (heapOf l n).get b = some o) : (b, o) ∈ l := treeOf_get h

/-- all that the first has the second has -/
def SubH (H H' : AHeap) : Prop := ∀ b o, H.get b = some o → H'.get b = some o
theorem SubH.of {l : OL} {n : Nat} {H : AHeap} (h : hasO H.t l = true) : SubH (heapOf l n) H := fun b o hb => hasO_get h (heapOf_get hb)
theorem HR.subH {P : Program} {base : Nat} {D : Nat → Prop} {θ : Th} {H H' : AHeap} {w : World} (h : HR P base D θ H' w) (hs : SubH H H') : HR P base D θ H w :=
  ⟨fun b o hb => h.obj b o (hs b o hb), fun b b' o o' h1 h2 h3 h4 => h.inj b b' o o' (hs _ _ h1) (hs _ _ h2) h3 h4, fun b o h1 h2 => h.above b o (hs _ _ h1) h2, h.glob, h.low⟩
theorem Grow.subH {D : Nat → Prop} {H1 H H2 H' : AHeap} {θ θ' : Th} {w w' : World} (h : Grow D H1 θ w H2 θ' w') (h1 : SubH H1 H) (e1 : H.next = H1.next) (h2 : SubH H' H2) (e2 : H'.next = H2.next) : Grow D H θ w H' θ' w' :=
  ⟨by rw [e1, e2]; exact h.next, h.ag, h.size, h.os, h.tape, h.output, fun k hk hno => h.keep k hk fun b o hb ho => hno b o (h1 _ _ hb) ho, fun b o hb ho hlt => by
    obtain ⟨b', o', q1, q2, q3⟩ := h.news b o (h2 _ _ hb) ho hlt
    exact ⟨b', o', h1 _ _ q1, q2, q3⟩⟩

/-! ### the table -/
structure LEntry where
  f : Nat
  args : List AV
  hin : OL
  nin : Nat
  res : AV
  hout : OL
  nout : Nat
def findL (H : AHeap) (f : Nat) (vs : List AV) (L : List LEntry) : Option (AEnd × Option Chain × AHeap) :=
  List.rec (motive := fun _ => Option (AEnd × Option Chain × AHeap)) none (fun e _ ih => cond (Nat.beq f e.f) (cond (Nat.beq H.next e.nin) (cond (sameL vs e.args) (cond (hasO H.t e.hin) (some (.ret e.res, none, heapOf e.hout e.nout)) ih) ih) ih) ih) L
def toldL (L : List LEntry) : CallFn := fun f vs up H =>
  match up with
  | none => findL H f vs L
  | some _ => none
theorem findL_eq {H : AHeap} {f : Nat} {vs : List AV} : ∀ {L : List LEntry} {r : AEnd × Option Chain × AHeap}, findL H f vs L = some r → ∃ e ∈ L, f = e.f ∧ H.next = e.nin ∧ vs = e.args ∧ hasO H.t e.hin = true ∧ r = (.ret e.res, none, heapOf e.hout e.nout)
  | [], r, h => by cases h
  | e :: L, r, h => by
    have h : cond (Nat.beq f e.f) (cond (Nat.beq H.next e.nin) (cond (sameL vs e.args) (cond (hasO H.t e.hin) (some (.ret e.res, none, heapOf e.hout e.nout)) (findL H f vs L)) (findL H f vs L)) (findL H f vs L)) (findL H f vs L) = some r := h
    have rest : findL H f vs L = some r → ∃ e' ∈ e :: L, f = e'.f ∧ H.next = e'.nin ∧ vs = e'.args ∧ hasO H.t e'.hin = true ∧ r = (.ret e'.res, none, heapOf e'.hout e'.nout) := fun h => by
      obtain ⟨e', h1, h2⟩ := findL_eq h
      exact ⟨e', List.mem_cons_of_mem _ h1, h2⟩
    cases h1 : Nat.beq f e.f with
    | false => rw [h1] at h; exact rest h
    | true =>
      rw [h1] at h
      cases h2 : Nat.beq H.next e.nin with
      | false => rw [h2] at h; exact rest h
      | true =>
        rw [h2] at h
        cases h3 : sameL vs e.args with
        | false => rw [h3] at h; exact rest h
        | true =>
          rw [h3] at h
          cases h4 : hasO H.t e.hin with
          | false => rw [h4] at h; exact rest h
          | true =>
            rw [h4] at h
            simp only [cond_true, Option.some.injEq] at h
            exact ⟨e, List.mem_cons_self .., Nat.eq_of_beq_eq_true h1, Nat.eq_of_beq_eq_true h2, sameL_eq _ _ h3, h4, h.symm⟩
/-- the run's answer is the entry's -/
def ranL (e : LEntry) : Option (AEnd × Option Chain × AHeap) → Bool
  | some (.ret v, _, H) => cond (sameV v e.res) (cond (Nat.beq H.next e.nout) (hasO H.t e.hout) false) false
  | _ => false
/-- what an entry says -/
structure LOk (P : Program) (base : Nat) (e : LEntry) : Prop where
  ran : ∃ told m u H', CallSound P base told ∧ CallMono told ∧ acallT (cProg P) told m e.f e.args none (heapOf e.hin e.nin) = some (.ret e.res, u, H') ∧ H'.next = e.nout ∧ hasO H'.t e.hout = true
theorem ranL_ok {P : Program} {base : Nat} {told : CallFn} (ht : CallSound P base told) (hm : CallMono told) {e : LEntry} {m : Nat} (h : ranL e (acallT (cProg P) told m e.f e.args none (heapOf e.hin e.nin)) = true) : LOk P base e := by
  cases hr : acallT (cProg P) told m e.f e.args none (heapOf e.hin e.nin) with
  | none => rw [hr] at h; cases h
  | some r =>
    rw [hr] at h
    obtain ⟨en, u, H'⟩ := r
    cases en with
    | panic c => cases h
    | ret v =>
      have h : cond (sameV v e.res) (cond (Nat.beq H'.next e.nout) (hasO H'.t e.hout) false) false = true := h
      cases h1 : sameV v e.res with
      | false => rw [h1] at h; cases h
      | true =>
        rw [h1] at h
        cases h2 : Nat.beq H'.next e.nout with
        | false => rw [h2] at h; cases h
        | true =>
          rw [h2] at h
          exact ⟨told, m, u, H', ht, hm, by rw [hr, sameV_eq _ _ h1], Nat.eq_of_beq_eq_true h2, h⟩
theorem toldL_mono {P : Program} {base : Nat} (hP : PGood P) {L : List LEntry} (hL : ∀ e ∈ L, LOk P base e) : CallMono (toldL L) := by
  intro f vs up H en up' H' h
  cases up with
  | some _ => cases h
  | none =>
    obtain ⟨e, he, rfl, hn, rfl, hi, hr⟩ := findL_eq h
    injection hr with _ hr; injection hr with _ hr; subst hr
    obtain ⟨told, m, u, H2, ht, hm, hrun, hnx, ho⟩ := (hL e he).ran
    have hx := acallT_mono (prog_mono hP) hm m _ _ _ _ _ _ _ hrun
    have s1 : SubH (heapOf e.hin e.nin) H := SubH.of hi
    have s2 : SubH (heapOf e.hout e.nout) H2 := SubH.of ho
    refine ⟨?_, fun b o hb => ?_⟩
    · have := hx.1; rw [hnx] at this; rw [hn]; exact this
    · rcases hx.2 b o (s2 b o hb) with ⟨o', q1, q2⟩ | ⟨q1, q2, q3⟩
      · exact .inl ⟨o', s1 _ _ q1, q2⟩
      · rw [hnx] at q2
        exact .inr ⟨by rw [hn]; exact q1, q2, q3⟩
theorem toldL_sound {P : Program} {base : Nat} (hP : PGood P) {L : List LEntry} (hL : ∀ e ∈ L, LOk P base e) : CallSound P base (toldL L) := by
  intro D θ H w f vs args up H' en up' kind cs hh hv hu h hf
  cases up with
  | some _ => cases h
  | none =>
    obtain ⟨e, he, rfl, hn, rfl, hi, hr⟩ := findL_eq h
    injection hr with hr1 hr; injection hr with hr2 hr3
    subst hr1; subst hr2; subst hr3
    obtain ⟨told, m, u, H2, ht, hm, hrun, hnx, ho⟩ := (hL e he).ran
    have s1 : SubH (heapOf e.hin e.nin) H := SubH.of hi
    have s2 : SubH (heapOf e.hout e.nout) H2 := SubH.of ho
    have hin : (heapOf e.hin e.nin).next = H.next := hn.symm
    have hout : (heapOf e.hout e.nout).next = H2.next := hnx.symm
    have hs := acallT_sound hP (fun rt hAP hc hr' hcm hrm => draw_sound hP hAP hc hr' hcm hrm) ht hm m D θ (heapOf e.hin e.nin) w e.f e.args args none H2 (.ret e.res) u kind cs (hh.subH s1) hv hu hrun (by rw [hin, ← hout]; exact hf)
    obtain ⟨hfn, θ', w', cs', fr, e', g1, g2, g3, g4, g5, g6, g7, g8, g9, g10⟩ := hs
    cases u with
    | some _ => cases g8
    | none =>
      rw [hin, ← hout] at g5 g6 g10
      exact ⟨hfn, θ', w', cs', fr, e', g1, g2, g3, g4, g5, g6.subH s2, g7.subH s1 hin.symm s2 hout, g8, g9, g10⟩

theorem toldL_nil_sound {P : Program} {base : Nat} (hP : PGood P) : CallSound P base (toldL []) := toldL_sound hP fun e h => by cases h

/-- AN ENTRY, by a run in which others are told -/
theorem LOk.run {P : Program} {base : Nat} (hP : PGood P) {L : List LEntry} (hL : ∀ e ∈ L, LOk P base e) {e : LEntry} (m : Nat) (h : ranL e (acallT (cProg P) (toldL L) m e.f e.args none (heapOf e.hin e.nin)) = true) : LOk P base e := ranL_ok (toldL_sound hP hL) (toldL_mono hP hL) h
theorem all_nil {P : Program} {base : Nat} : ∀ e ∈ ([] : List LEntry), LOk P base e := fun e h => by cases h
theorem all_cons {P : Program} {base : Nat} {e : LEntry} {L : List LEntry} (h : LOk P base e) (hL : ∀ e ∈ L, LOk P base e) : ∀ e' ∈ e :: L, LOk P base e' := fun e' h' => by
  rcases List.mem_cons.1 h' with rfl | h'
  · exact h
  · exact hL e' h'
/-- the listed variables' rows, as objects -/
def objsOf (gl : List (Nat × List AV)) : OL := gl.map fun x => (x.1, .row x.2 0 (0, 0) false)

/-- A LAW WITHOUT PARAMETERS, by a run in which others are told -/
theorem calls_L {P : Program} (hP : PGood P) {L : List LEntry} (hL : ∀ e ∈ L, LOk P 0 e) {w : World} {θ : Th} {n : Nat} {H : AHeap} (hH : ∀ b o, H.get b = some o → own o = false) (hn : H.next = n) (hh : HR P 0 (Lt n) θ H w) {f m : Nat} (hr : retTrue (acallT (cProg P) (toldL L) m f [] none H) = true) :
    Calls P f #[] w fun e w' => e = .returned (.bool true) ∧ Below w.heap.size w w' := by
  obtain ⟨u, H', hr⟩ := retTrue_eq hr
  have hs := fun cs => acallT_sound hP (fun rt hAP hc hr' hcm hrm => draw_sound hP hAP hc hr' hcm hrm) (toldL_sound hP hL) (toldL_mono hP hL) m (Lt n) θ H w f [] #[] none H' (.ret (.bool true)) u .normal cs hh .nil rfl hr
      (fun b h1 h2 hb => by have hb : b < n := hb; rw [hn] at h1; omega)
  intro cs
  obtain ⟨_, θ', w', cs', fr, e', g1, g2, g3, g4, g5, g6, g7, g8, g9, g10⟩ := hs cs
  have hcs : cs' = cs := g9
  subst hcs
  cases e' with
  | returned c =>
    refine ⟨.returned c, w', fr, ⟨?_, g7.below hH⟩, g1, g3, going_leaving g4 g2⟩
    have g5 : VR _ θ' (.bool true) c := g5
    rw [← g5.now]; rfl
  | panicked _ => exact g5.elim
  | outgrown => exact g5.elim
theorem closed_L {P : Program} (hP : PGood P) {L : List LEntry} (hL : ∀ e ∈ L, LOk P 0 e) {tp : TypeId} (hT : ErrT P tp) {laid : List (String × DataW Unit)} {w : World} (h : laidMet P laid w) {f m : Nat} (hr : retTrue (acallT (cProg P) (toldL L) m f [] none (laidHeap P tp laid)) = true) :
    Calls P f #[] w fun e w' => e = .returned (.bool true) ∧ Below w.heap.size w w' := by
  obtain ⟨θ, hh⟩ := HR.laid hT h (Nat.zero_le _)
  exact calls_L hP hL (given_heap _ _) rfl hh hr
theorem closed_LN {P : Program} (hP : PGood P) {L : List LEntry} (hL : ∀ e ∈ L, LOk P 0 e) {tp : TypeId} {laid : List (String × DataW Unit)} (hn : noSent laid = true) {w : World} (h : laidMet P laid w) {f m : Nat} (hr : retTrue (acallT (cProg P) (toldL L) m f [] none (laidHeap P tp laid)) = true) :
    Calls P f #[] w fun e w' => e = .returned (.bool true) ∧ Below w.heap.size w w' := by
  obtain ⟨θ, hh⟩ := HR.laidN hn h (Nat.zero_le _)
  exact calls_L hP hL (given_heap _ _) rfl hh hr
theorem closed_L0 {P : Program} (hP : PGood P) {L : List LEntry} (hL : ∀ e ∈ L, LOk P 0 e) {w : World} {f m : Nat} (hr : retTrue (acallT (cProg P) (toldL L) m f [] none (givenHeap [] P.globals.size)) = true) :
    Calls P f #[] w fun e w' => e = .returned (.bool true) ∧ Below w.heap.size w w' := by
  have hh : HR P 0 (Lt P.globals.size) θ0 (givenHeap [] P.globals.size) w := HR.given (Nat.zero_le _) fun g l h => by cases h
  exact calls_L hP hL (given_heap _ _) rfl hh hr
end
end Go.Am
