/- CALLS THAT ARE TOLD: a function's answer, once shown, in the place of its run. -/
import Derived.Test.YtjhjdlebhljcaaaGreatDoorAmClosed
namespace Go.Am
open Go.RowKit
set_option linter.unusedVariables false

/-! ### values that refer to few blocks -/
mutual
def refsBelow (n : Nat) : AV → Bool
  | .ptr b _ => Nat.blt b n
  | .slice b _ _ _ => Nat.blt b n
  | .gslice b _ _ _ _ _ => Nat.blt b n
  | .eslice b => Nat.blt b n
  | .map b => Nat.blt b n
  | .fn _ _ _ => false
  | .iface _ v => refsBelow n v
  | .agg l => refsBelowL n l
  | .tuple l => refsBelowL n l
  | _ => true
def refsBelowL (n : Nat) : List AV → Bool
  | [] => true
  | v :: l => refsBelow n v && refsBelowL n l
end

mutual
theorem conc_refs {n : Nat} {θ θ' : Th} (h : Ag (Lt n) θ θ') : ∀ (v : AV), refsBelow n v = true → conc θ' v = conc θ v
  | .ptr b o, hv => by obtain ⟨h1, h2, _⟩ := h b (by simpa [refsBelow, Lt] using hv); simp [conc, h1, h2]
  | .slice b _ _ _, hv => by obtain ⟨h1, h2, _⟩ := h b (by simpa [refsBelow, Lt] using hv); simp [conc, h1, h2]
  | .gslice b _ _ _ _ _, hv => by obtain ⟨h1, h2, h3⟩ := h b (by simpa [refsBelow, Lt] using hv); simp [conc, h1, h2, h3]
  | .eslice b, hv => by obtain ⟨h1, h2, h3⟩ := h b (by simpa [refsBelow, Lt] using hv); simp [conc, h1, h2, h3]
  | .map b, hv => by obtain ⟨h1, _, _⟩ := h b (by simpa [refsBelow, Lt] using hv); simp [conc, h1]
  | .fn _ _ _, hv => by simp [refsBelow] at hv
  | .iface _ v, hv => by simp only [conc]; rw [conc_refs h v hv]
  | .agg l, hv => by simp only [conc]; rw [concL_refs h l hv]
  | .tuple l, hv => by simp only [conc]; rw [concL_refs h l hv]
  | .bool _, _ => rfl
  | .int _ _, _ => rfl
  | .str _, _ => rfl
  | .nilp, _ => rfl
  | .nils, _ => rfl
  | .nilm, _ => rfl
  | .nilf, _ => rfl
  | .nili, _ => rfl
theorem concL_refs {n : Nat} {θ θ' : Th} (h : Ag (Lt n) θ θ') : ∀ (l : List AV), refsBelowL n l = true → concL θ' l = concL θ l
  | [], _ => rfl
  | v :: l, hv => by
    simp only [refsBelowL, Bool.and_eq_true] at hv
    simp only [concL]
    rw [conc_refs h v hv.1, concL_refs h l hv.2]
end
theorem Ag.none {θ θ' : Th} : Ag (Lt 0) θ θ' := fun b hb => by cases hb

/-! ### the same value -/
mutual
def eqAV : AV → AV → Bool
  | .bool a, .bool b => a == b
  | .int k a, .int k' b => decide (k = k') && decide (a = b)
  | .str s, .str t => decide (s = t)
  | .nilp, .nilp => true
  | .ptr b o, .ptr b' o' => Nat.beq b b' && Nat.beq o o'
  | .nils, .nils => true
  | .nilm, .nilm => true
  | .nilf, .nilf => true
  | .nili, .nili => true
  | .iface t v, .iface t' v' => Nat.beq t t' && eqAV v v'
  | .agg l, .agg l' => eqAVL l l'
  | .tuple l, .tuple l' => eqAVL l l'
  | _, _ => false
def eqAVL : List AV → List AV → Bool
  | [], [] => true
  | v :: l, v' :: l' => eqAV v v' && eqAVL l l'
  | _, _ => false
end
mutual
theorem eqAV_eq : ∀ (v v' : AV), eqAV v v' = true → v = v'
  | .iface t v, x, h => by
    cases x <;> simp only [eqAV, Bool.and_eq_true, Nat.beq_eq, Bool.false_eq_true] at h
    rw [h.1, eqAV_eq _ _ h.2]
  | .agg l, x, h => by
    cases x <;> simp only [eqAV, Bool.false_eq_true] at h
    rw [eqAVL_eq _ _ h]
  | .tuple l, x, h => by
    cases x <;> simp only [eqAV, Bool.false_eq_true] at h
    rw [eqAVL_eq _ _ h]
  | .bool _, x, h => by cases x <;> simp_all [eqAV]
  | .int _ _, x, h => by cases x <;> simp_all [eqAV]
  | .str _, x, h => by cases x <;> simp_all [eqAV]
  | .nilp, x, h => by cases x <;> simp_all [eqAV]
  | .ptr _ _, x, h => by cases x <;> simp_all [eqAV]
  | .nils, x, h => by cases x <;> simp_all [eqAV]
  | .slice _ _ _ _, x, h => by cases x <;> simp_all [eqAV]
  | .gslice _ _ _ _ _ _, x, h => by cases x <;> simp_all [eqAV]
  | .nilm, x, h => by cases x <;> simp_all [eqAV]
  | .map _, x, h => by cases x <;> simp_all [eqAV]
  | .fn _ _ _, x, h => by cases x <;> simp_all [eqAV]
  | .nilf, x, h => by cases x <;> simp_all [eqAV]
  | .nili, x, h => by cases x <;> simp_all [eqAV]
theorem eqAVL_eq : ∀ (l l' : List AV), eqAVL l l' = true → l = l'
  | [], [], _ => rfl
  | [], _ :: _, h => by simp [eqAVL] at h
  | _ :: _, [], h => by simp [eqAVL] at h
  | v :: l, v' :: l', h => by
    simp only [eqAVL, Bool.and_eq_true] at h
    rw [eqAV_eq _ _ h.1, eqAVL_eq _ _ h.2]
end

/-! ### the table -/
structure TEntry where
  f : Nat
  args : List AV
  res : AV

/-- the given rows are there -/
def hasRows (H : AHeap) : List (Nat × List AV) → Bool
  | [] => true
  | (b, l) :: r => (match H.get b with | some (.row l' _ _ _) => eqAVL l l' | _ => false) && hasRows H r
def rowsOk (n : Nat) : List (Nat × List AV) → Bool
  | [] => true
  | (b, l) :: r => Nat.blt b n && refsBelowL n l && rowsOk n r

def findT (gl : List (Nat × List AV)) (H : AHeap) (f : Nat) (vs : List AV) : List TEntry → Option (AEnd × Option Chain × AHeap)
  | [] => none
  | e :: r => cond (Nat.beq f e.f && (eqAVL vs e.args && hasRows H gl)) (some (.ret e.res, none, H)) (findT gl H f vs r)
def toldOf (gl : List (Nat × List AV)) (L : List TEntry) : CallFn := fun f vs up H =>
  match up with
  | none => findT gl H f vs L
  | some _ => none

theorem findT_eq {gl : List (Nat × List AV)} {H : AHeap} {f : Nat} {vs : List AV} : ∀ {L : List TEntry} {r : AEnd × Option Chain × AHeap}, findT gl H f vs L = some r → ∃ e ∈ L, f = e.f ∧ vs = e.args ∧ hasRows H gl = true ∧ r = (.ret e.res, none, H)
  | [], _, h => by cases h
  | e :: L, r, h => by
    simp only [findT] at h
    cases hc : (Nat.beq f e.f && (eqAVL vs e.args && hasRows H gl)) with
    | true =>
      rw [hc] at h
      simp only [cond_true, Option.some.injEq] at h
      simp only [Bool.and_eq_true, Nat.beq_eq] at hc
      exact ⟨e, by simp, hc.1, eqAVL_eq _ _ hc.2.1, hc.2.2, h.symm⟩
    | false =>
      rw [hc] at h
      obtain ⟨e', h1, h2⟩ := findT_eq (L := L) h
      exact ⟨e', by simp [h1], h2⟩

theorem toldOf_mono {gl : List (Nat × List AV)} {L : List TEntry} : CallMono (toldOf gl L) := by
  intro f vs up H e up' H' h
  cases up with
  | some _ => cases h
  | none =>
    obtain ⟨e', _, _, _, _, hr⟩ := findT_eq h
    injection hr with _ hr
    injection hr with _ hr
    subst hr
    exact Ext.refl _

theorem hasRows_get {H : AHeap} : ∀ {gl : List (Nat × List AV)}, hasRows H gl = true → ∀ {b : Nat} {l : List AV}, (b, l) ∈ gl → ∃ e fz ow, H.get b = some (.row l e fz ow)
  | [], _, b, l, h => by cases h
  | (b', l') :: r, hr, b, l, h => by
    simp only [hasRows, Bool.and_eq_true] at hr
    rcases List.mem_cons.1 h with e | h
    · injection e with e1 e2; subst e1; subst e2
      have h1 := hr.1
      split at h1
      · rename_i l2 e fz ow hg
        rw [eqAVL_eq _ _ h1]
        exact ⟨e, fz, ow, hg⟩
      · cases h1
    · exact hasRows_get hr.2 h
theorem rowsOk_mem {n : Nat} : ∀ {gl : List (Nat × List AV)}, rowsOk n gl = true → ∀ {b : Nat} {l : List AV}, (b, l) ∈ gl → b < n ∧ refsBelowL n l = true
  | [], _, b, l, h => by cases h
  | (b', l') :: r, hr, b, l, h => by
    simp only [rowsOk, Bool.and_eq_true, Nat.blt_eq] at hr
    rcases List.mem_cons.1 h with e | h
    · injection e with e1 e2; subst e1; subst e2; exact hr.1
    · exact rowsOk_mem hr.2 h

/-- the given heap alone, out of a heap that has its rows -/
theorem HR.given_of {P : Program} {base n : Nat} {D : Nat → Prop} {θ : Th} {H : AHeap} {w : World} {gl : List (Nat × List AV)} (h : HR P base D θ H w) (hn : P.globals.size ≤ n) (hok : rowsOk n gl = true) (hr : hasRows H gl = true) :
    HR P base (Lt n) θ (givenHeap gl n) w := by
  refine HR.givenD h.low hn (fun g hg => (h.glob g hg).2) fun b l hm => ?_
  obtain ⟨h1, h2⟩ := rowsOk_mem hok hm
  obtain ⟨e, fz, ow, hg⟩ := hasRows_get hr hm
  obtain ⟨_, co, hc, pre, cs, post, cfz, e', rfl, k1, k2, _⟩ := h.obj _ _ hg
  exact ⟨h1, pre, cs, post, e', cfz, hc, k1, fun θ' ha => (concL_refs ha l h2).trans k2.now⟩

theorem HR.below {P : Program} {base : Nat} {D : Nat → Prop} {θ : Th} {H : AHeap} {w w' : World} (h : HR P base D θ H w) (hb : Below w.heap.size w w') : HR P base D θ H w' := by
  refine ⟨fun b o hg => ?_, h.inj, h.above, h.glob, Nat.le_trans h.low hb.size⟩
  obtain ⟨h1, co, h2, h3⟩ := h.obj b o hg
  exact ⟨h1, co, by rw [hb.block _ (Array.getElem?_eq_some_iff.1 h2).1]; exact h2, h3⟩
theorem below_grow {D : Nat → Prop} {H : AHeap} {θ : Th} {w w' : World} (hb : Below w.heap.size w w') : Grow D H θ w H θ w' :=
  ⟨Nat.le_refl _, Ag.refl _ _, hb.size, hb.os, hb.tape, hb.output, fun k hk _ => hb.block k hk, fun b o h ho _ => ⟨b, o, h, ho, rfl⟩⟩

/-- what an entry says -/
def ToldP (P : Program) (gl : List (Nat × List AV)) (n : Nat) (e : TEntry) : Prop :=
  refsBelow 0 e.res = true ∧ ∀ base θ w (args : Array Value), HR P base (Lt n) θ (givenHeap gl n) w → VRL (Lt n) θ e.args args.toList →
    (∃ fn c, P.funcs[e.f]? = some fn ∧ fn.body = some c) ∧ Calls P e.f args w fun en w' => en = .returned (conc θ e.res) ∧ Below w.heap.size w w'

theorem toldOf_sound {P : Program} {base n : Nat} {gl : List (Nat × List AV)} {L : List TEntry} (hn : P.globals.size ≤ n) (hok : rowsOk n gl = true) (hL : ∀ e ∈ L, refsBelowL 0 e.args = true ∧ ToldP P gl n e) : CallSound P base (toldOf gl L) := by
  intro D θ H w f vs args up H' e up' kind cs hh hv hu h hf
  cases up with
  | some _ => cases h
  | none =>
    have hk : kind = .normal := hu
    obtain ⟨e', hm, rfl, rfl, hrows, hr⟩ := findT_eq h
    injection hr with hr1 hr
    injection hr with hr2 hr3
    subst hr1; subst hr2; subst hr3
    obtain ⟨hpl, hres, ht⟩ := hL e' hm
    obtain ⟨hfn, hc⟩ := ht base θ w args (hh.given_of hn hok hrows) (fun θ' _ => (concL_refs Ag.none _ hpl).trans hv.now)
    refine ⟨hfn, ?_⟩
    obtain ⟨en, w', fr, ⟨rfl, hb⟩, hs, hfr, hl⟩ := hc cs
    obtain ⟨l1, l2, l3, l4⟩ := hl
    subst hk
    refine ⟨θ, w', cs, fr, .returned (conc θ e'.res), hs, l3, hfr, ⟨l1, l2, l4⟩, fun θ' _ => conc_refs Ag.none _ hres, ?_, below_grow hb, rfl, rfl, rfl⟩
    rw [Up.none]; exact hh.below hb

def retIs (v : AV) : Option (AEnd × Option Chain × AHeap) → Bool
  | some (.ret u, _, _) => eqAV u v
  | _ => false
theorem retIs_eq {v : AV} {o : Option (AEnd × Option Chain × AHeap)} (h : retIs v o = true) : ∃ u H', o = some (.ret v, u, H') := by
  unfold retIs at h
  split at h
  · rw [eqAV_eq _ _ h]; exact ⟨_, _, rfl⟩
  · cases h

/-- AN ENTRY BY A RUN, in which others are told -/
theorem told_of_run {P : Program} (hP : PGood P) {gl : List (Nat × List AV)} {L : List TEntry} {n : Nat} (hn : P.globals.size ≤ n) (hok : rowsOk n gl = true) (hL : ∀ e ∈ L, refsBelowL 0 e.args = true ∧ ToldP P gl n e)
    {e : TEntry} {m : Nat} (hp : refsBelow 0 e.res = true) (hr : retIs e.res (acallT (cProg P) (toldOf gl L) m e.f e.args none (givenHeap gl n)) = true) : ToldP P gl n e := by
  obtain ⟨u, H', hr⟩ := retIs_eq hr
  refine ⟨hp, fun base θ w args hh hv => ?_⟩
  have hs := fun cs => acallT_sound hP (fun rt hAP hc hr' hcm hrm => draw_sound hP hAP hc hr' hcm hrm) (toldOf_sound hn hok hL) toldOf_mono m (Lt n) θ (givenHeap gl n) w e.f e.args args none H' (.ret e.res) u .normal cs hh hv rfl hr
      (fun b h1 h2 hb => by have h1 : n ≤ b := h1; have hb : b < n := hb; omega)
  refine ⟨(hs []).1, fun cs => ?_⟩
  obtain ⟨_, θ', w', cs', fr, e', g1, g2, g3, g4, g5, g6, g7, g8, g9, g10⟩ := hs cs
  have hcs : cs' = cs := g9
  subst hcs
  cases e' with
  | returned c =>
    refine ⟨.returned c, w', fr, ⟨?_, g7.below (given_heap _ _)⟩, g1, g3, going_leaving g4 g2⟩
    have g5 : VR _ θ' e.res c := g5
    rw [← g5.now, conc_refs Ag.none _ hp]
  | panicked _ => exact g5.elim
  | outgrown => exact g5.elim

/-- A LAW WITHOUT PARAMETERS, by an entry -/
theorem calls_told {P : Program} {tp : TypeId} (hT : ErrT P tp) {laid : List (String × DataW Unit)} {w : World} (h : laidMet P laid w) {f : Nat}
    (ht : ToldP P (rowsOf P tp P.globals.size laid) (P.globals.size + laid.length) ⟨f, [], .bool true⟩) :
    Calls P f #[] w fun e w' => e = .returned (.bool true) ∧ Below w.heap.size w w' := by
  obtain ⟨θ, hh⟩ := HR.laid hT h (Nat.zero_le _)
  exact (ht.2 0 θ w #[] hh .nil).2
end Go.Am
