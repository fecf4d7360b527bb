/- THE EVALUATOR's OWN LAWS: how steps run; the numbers of blocks only grow. -/
import Derived.Test.YtjhjdlebhljcaaaGreatDoorAmStep2
namespace Go.Am
set_option linter.unusedVariables false
set_option linter.unusedSimpArgs false

def wantedA (s : AStep) (tm : T AV) : Option Bool :=
  match s.guard with
  | none => some true
  | some g => wantV g.2 (tm.get g.1)

theorem stepC_run (s : AStep) (hc : s.chk = false) (rt : RT) (K : St → Res) (st : St) :
    (stepC s).run rt K st = (wantedA s st.tm).bind fun w => cond w ((evL st.tm s.args).bind fun vs => (opR rt st vs s.op).bind (finR (putD s.dst) s.psafe st K)) (K ⟨putD s.dst .undef st.tm, st.dfs, st.up, st.H⟩) := by
  have hput : (putDC s.dst).run = putD s.dst := by funext v tm; exact putDC_run _ _ _
  unfold stepC wantedA
  rw [hc]
  cases hg : s.guard with
  | none => simp only [Option.bind_some, cond_true, evLC_run, opC_run, hput]
  | some g => simp only [evLC_run, opC_run, hput, T.getC_run, T.get]

theorem stepC_run_chk (s : AStep) (hc : s.chk = true) {d : Nat} (hd : s.dst = some d) (rt : RT) (K : St → Res) (st : St) :
    (stepC s).run rt K st = (wantedA s st.tm).bind fun w => cond w ((evL st.tm s.args).bind fun vs => cond (chkOp (fun t => t.get d) st vs s.op) (K st) none) (K st) := by
  have hget : (T.getC (α := AV) (T.path d)).run = fun t => t.get d := by funext t; exact T.getC_run _ _
  unfold stepC wantedA
  rw [hc, hd]
  cases hg : s.guard with
  | none => simp only [Option.bind_some, cond_true, evLC_run, hget]
  | some g =>
    simp only [evLC_run, hget]
    rw [show (T.getC (T.path g.1)).run st.tm = st.tm.get g.1 from T.getC_run _ _]
theorem stepC_chk_none (s : AStep) (hc : s.chk = true) (hd : s.dst = none) (rt : RT) (K : St → Res) (st : St) : (stepC s).run rt K st = none := by
  unfold stepC
  rw [hc, hd]
  cases s.guard <;> rfl

/-! ### numbers only grow -/
def CallMono (call : CallFn) : Prop := ∀ f vs up H e up' H', call f vs up H = some (e, up', H') → Ext H H'
def RoundMono (round : RoundFn) : Prop := ∀ vs l H e H', round vs l H = some (e, H') → Ext H H'
def codeMono : ACode → Prop
  | .region steps => ∀ s ∈ steps, OpMono s.op
  | .seq a b => codeMono a ∧ codeMono b
  | .cond _ a b => codeMono a ∧ codeMono b
  | .block _ b => codeMono b
  | .loop _ b => codeMono b
  | .scope b => codeMono b
  | _ => True
def funcMono (fn : AFunc) : Prop := codeMono fn.body ∧ ∀ lp ∈ fn.loops, codeMono lp.assign ∧ codeMono lp.body
def progMono (AP : AProg) : Prop := ∀ f fn, AP.func f = some fn → funcMono fn

section
variable {rt : RT} (hc : CallMono rt.call) (hr : RoundMono rt.round)
include hc hr
theorem opR_ext {op : AOp} (ho : OpMono op) {st : St} {vs : List AV} {r : OpRes} (h : opR rt st vs op = some r) : Ext st.H r.heap := by
  have hres : ∀ (q : AEnd × AHeap), Ext st.H q.2 → Ext st.H (resOf st.dfs st.up q).heap := by
    intro q hq; obtain ⟨e, H'⟩ := q; cases e <;> exact hq
  cases op with
  | pure f => simp only [opR, Option.bind_eq_some_iff, Option.some.injEq] at h; obtain ⟨_, _, rfl⟩ := h; exact Ext.refl _
  | read f => simp only [opR, Option.bind_eq_some_iff, Option.some.injEq] at h; obtain ⟨_, _, rfl⟩ := h; exact Ext.refl _
  | alloc f => simp only [opR, Option.bind_eq_some_iff, Option.some.injEq] at h; obtain ⟨⟨ob, mk⟩, h1, rfl⟩ := h; exact Ext.alloc _ _ (ho _ _ _ h1)
  | eff f => simp only [opR, Option.bind_eq_some_iff, Option.some.injEq] at h; obtain ⟨⟨v, H'⟩, h1, rfl⟩ := h; exact ho _ _ _ _ h1
  | callF f =>
    simp only [opR, enterA, Option.bind_assoc, Option.bind_some, Option.bind_eq_some_iff, Option.some.injEq] at h
    obtain ⟨⟨e, u, H'⟩, h1, rfl⟩ := h
    exact hres _ (hc _ _ _ _ _ _ _ h1)
  | callV =>
    simp only [opR] at h
    split at h
    · simp only [enterA, Option.bind_assoc, Option.bind_some, Option.bind_eq_some_iff, Option.some.injEq] at h
      obtain ⟨⟨e, u, H'⟩, h1, rfl⟩ := h
      exact hres _ (hc _ _ _ _ _ _ _ h1)
    · simp only [enterA, Option.bind_eq_some_iff, Option.some.injEq] at h
      obtain ⟨⟨e, H'⟩, h1, rfl⟩ := h
      exact hres _ (hr _ _ _ _ _ h1)
    · cases h
  | invoke m =>
    simp only [opR] at h
    split at h
    · simp only [enterA, Option.bind_assoc, Option.bind_some, Option.bind_eq_some_iff, Option.some.injEq] at h
      obtain ⟨_, _, ⟨e, u, H'⟩, h1, rfl⟩ := h
      exact hres _ (hc _ _ _ _ _ _ _ h1)
    · cases h
  | recover =>
    simp only [opR] at h
    split at h
    · cases h
    · split at h
      · split at h <;> (injection h with h; subst h; exact Ext.refl _)
      · cases h
  | defer =>
    simp only [opR] at h
    split at h
    · cases h
    · split at h
      · injection h with h; subst h; exact Ext.refl _
      · cases h
  | panic =>
    simp only [opR] at h
    split at h
    · injection h with h; subst h; exact Ext.refl _
    · cases h

theorem opR_mono {op : AOp} (ho : OpMono op) {st : St} {vs : List AV} {r : OpRes} (h : opR rt st vs op = some r) : st.H.next ≤ r.heap.next := (opR_ext hc hr ho h).1

theorem stepC_ext {s : AStep} (ho : OpMono s.op) {K : St → Res} (hK : ∀ st r, K st = some r → Ext st.H r.2.H) {st : St} {r : AExit × St} (h : (stepC s).run rt K st = some r) : Ext st.H r.2.H := by
  cases hch : s.chk with
  | false =>
    rw [stepC_run s hch, Option.bind_eq_some_iff] at h
    obtain ⟨w, hw, h⟩ := h
    cases w with
    | false =>
      simp only [cond_false] at h
      have h9 := hK _ _ h
      exact h9
    | true =>
      simp only [cond_true, Option.bind_eq_some_iff] at h
      obtain ⟨vs, _, q, hq, h⟩ := h
      have h1 := opR_ext hc hr ho hq
      cases q with
      | val v d u H' => exact Ext.trans h1 (hK _ _ h)
      | panic c H' =>
        simp only [finR, Option.bind_eq_some_iff, Option.some.injEq] at h
        obtain ⟨_, _, rfl⟩ := h
        exact h1
  | true =>
    cases hd : s.dst with
    | none => rw [stepC_chk_none s hch hd] at h; cases h
    | some d =>
      rw [stepC_run_chk s hch hd, Option.bind_eq_some_iff] at h
      obtain ⟨w, hw, h⟩ := h
      cases w with
      | false =>
        simp only [cond_false] at h
        exact hK _ _ h
      | true =>
        simp only [cond_true, Option.bind_eq_some_iff] at h
        obtain ⟨vs, _, h⟩ := h
        rcases cond_some h with ⟨_, h⟩ | ⟨_, h⟩
        · exact hK _ _ h
        · cases h

theorem stepsC_ext : ∀ {l : List AStep}, (∀ s ∈ l, OpMono s.op) → ∀ {st : St} {r : AExit × St}, (stepsC l).run rt st = some r → Ext st.H r.2.H
  | [], _, st, r, h => by injection h with h; subst h; exact Ext.refl _
  | s :: l, ho, st, r, h => stepC_ext hc hr (ho s (by simp)) (fun st r h => stepsC_ext (fun s hs => ho s (by simp [hs])) h) h

theorem stepsC_mono {l : List AStep} (hl : ∀ s ∈ l, OpMono s.op) {st : St} {r : AExit × St} (h : (stepsC l).run rt st = some r) : st.H.next ≤ r.2.H.next := (stepsC_ext hc hr hl h).1

omit hc hr in
theorem loopN_ext {body : St → Res} (hb : ∀ st r, body st = some r → Ext st.H r.2.H) (keep : Option (List Nat)) : ∀ (n : Nat) (st : St) (r : AExit × St), loopN keep body n st = some r → Ext st.H r.2.H
  | 0, st, r, h => by cases h
  | n + 1, st, r, h => by
    simp only [loopN, Option.bind_eq_some_iff] at h
    obtain ⟨q, hq, h⟩ := h
    have h1 := hb _ _ hq
    have h1 : Ext st.H q.2.H := by cases keep <;> exact h1
    split at h
    · exact Ext.trans h1 (loopN_ext hb keep n _ _ h)
    · injection h with h; subst h; exact h1

omit hc hr in
theorem loopN_mono {body : St → Res} (hb : ∀ st r, body st = some r → Ext st.H r.2.H) (keep : Option (List Nat)) (n : Nat) (st : St) (r : AExit × St) (h : loopN keep body n st = some r) : st.H.next ≤ r.2.H.next := (loopN_ext hb keep n st r h).1

omit hr in
theorem rangeA_ext {st : St} {k : Nat} {H0 : AHeap} {dfs : List ADef} {d : Nat} {v : AV} {r : AExit × St} (h0 : Ext st.H H0) (h : rangeA rt.call rt.round rt.ctx st k H0 dfs d v = some r) : Ext st.H r.2.H := by
  unfold rangeA at h
  split at h
  · simp only [enterA, Option.bind_assoc, Option.bind_some, Option.bind_eq_some_iff] at h
    obtain ⟨⟨e, u, H'⟩, h1, h⟩ := h
    have h2 := (h0.trans (Ext.alloc _ _ rfl)).trans (hc _ _ _ _ _ _ _ h1)
    unfold endLoopA at h
    split at h
    · injection h with h; subst h; exact h2
    · split at h
      · cases h
      · rename_i hg; injection h with h; subst h; exact h2.trans (Ext.set hg _ (fun _ => rfl))
      · cases h
  · cases h
omit hr in
theorem rangeA_mono {st : St} {k : Nat} {H0 : AHeap} {dfs : List ADef} {d : Nat} {v : AV} {r : AExit × St} (h0 : Ext st.H H0) (h : rangeA rt.call rt.round rt.ctx st k H0 dfs d v = some r) : st.H.next ≤ r.2.H.next := (rangeA_ext hc h0 h).1

theorem codeC_ext : ∀ {c : ACode}, codeMono c → ∀ {st : St} {r : AExit × St}, (codeC c).run rt st = some r → Ext st.H r.2.H
  | .skip, _, st, r, h => by injection h with h; subst h; exact Ext.refl _
  | .label _, _, st, r, h => by injection h with h; subst h; exact Ext.refl _
  | .region steps, hm, st, r, h => stepsC_ext hc hr hm h
  | .seq a b, hm, st, r, h => by
    simp only [codeC, Option.bind_eq_some_iff] at h
    obtain ⟨q, hq, h⟩ := h
    have h1 := codeC_ext hm.1 hq
    unfold seqK at h
    split at h
    · exact Ext.trans h1 (codeC_ext hm.2 h)
    · injection h with h; subst h; exact h1
  | .cond c a b, hm, st, r, h => by
    simp only [codeC, Option.bind_eq_some_iff] at h
    obtain ⟨v, hv, h⟩ := h
    unfold condK at h
    split at h
    · rcases cond_some h with ⟨_, h⟩ | ⟨_, h⟩
      · exact codeC_ext hm.1 h
      · exact codeC_ext hm.2 h
    · cases h
  | .block id b, hm, st, r, h => by
    simp only [codeC, Option.bind_eq_some_iff] at h
    obtain ⟨q, hq, h⟩ := h
    have h1 := codeC_ext (c := b) hm hq
    unfold blockK at h
    split at h <;> (injection h with h; subst h; exact h1)
  | .loop keep b, hm, st, r, h => loopN_ext (fun st r h => codeC_ext (c := b) hm h) keep _ _ _ h
  | .exit _, _, st, r, h => by injection h with h; subst h; exact Ext.refl _
  | .goto _, _, st, r, h => by injection h with h; subst h; exact Ext.refl _
  | .ret, _, st, r, h => by injection h with h; subst h; exact Ext.refl _
  | .stuck, _, st, r, h => by cases h
  | .scope b, hm, st, r, h => by
    simp only [codeC, Option.bind_eq_some_iff] at h
    obtain ⟨q, hq, h⟩ := h
    have h1 := codeC_ext (c := b) hm hq
    unfold scopeK at h
    split at h
    · rcases cond_some h with ⟨_, h⟩ | ⟨_, h⟩
      · cases h
      · injection h with h; subst h; exact h1
    · injection h with h; subst h; exact h1
  | .rangeFunc f k, _, st, r, h => by
    simp only [codeC, Option.bind_eq_some_iff] at h
    obtain ⟨v, hv, h⟩ := h
    unfold rangeK at h
    split at h
    · exact rangeA_ext hc (Ext.alloc _ _ rfl) h
    · simp only [Option.bind_eq_some_iff] at h
      obtain ⟨d, _, h⟩ := h
      exact rangeA_ext hc (Ext.refl _) h
theorem codeC_mono {c : ACode} (hm : codeMono c) {st : St} {r : AExit × St} (h : (codeC c).run rt st = some r) : st.H.next ≤ r.2.H.next := (codeC_ext hc hr hm h).1
end

theorem unwindA_ext {call : CallFn} (hc : CallMono call) {rs : List ARes} {tm : T AV} : ∀ {ds : List ADef} {m : Option Chain} {H : AHeap} {r : AEnd × AHeap}, unwindA call rs tm ds m H = some r → Ext H r.2
  | [], none, H, r, h => by
    simp only [unwindA, Option.bind_eq_some_iff, Option.some.injEq] at h
    obtain ⟨_, _, rfl⟩ := h; exact Ext.refl _
  | [], some c, H, r, h => by injection h with h; subst h; exact Ext.refl _
  | .coll b :: ds, m, H, r, h => by
    simp only [unwindA] at h
    split at h
    · rename_i hg; exact (Ext.set hg _ (fun _ => rfl)).trans (unwindA_ext (H := H.set b _) hc h)
    · cases h
  | .fn (.func f) args :: ds, m, H, r, h => by
    simp only [unwindA, Option.bind_eq_some_iff] at h
    obtain ⟨⟨e, u, H'⟩, h1, h⟩ := h
    have h2 := hc _ _ _ _ _ _ _ h1
    split at h
    · simp only [Option.bind_eq_some_iff] at h
      obtain ⟨m', _, h⟩ := h
      exact Ext.trans h2 (unwindA_ext hc h)
    · cases h
  | .fn (.yield _) _ :: _, _, _, _, h => by simp [unwindA] at h

theorem unwindA_mono {call : CallFn} (hc : CallMono call) {rs : List ARes} {tm : T AV} {ds : List ADef} {m : Option Chain} {H : AHeap} {r : AEnd × AHeap} (h : unwindA call rs tm ds m H = some r) : H.next ≤ r.2.next := (unwindA_ext hc h).1

theorem setLoop_ext {H H' : AHeap} {l : Nat} {s : LState} {p : Option AJump} (h : setLoop H l s p = some H') : Ext H H' := by
  unfold setLoop at h
  split at h
  · rename_i hg; injection h with h; subst h; exact Ext.set hg _ (fun _ => rfl)
  · cases h
theorem beginRound_ext {H H' : AHeap} {l : Nat} (h : beginRound H l = some H') : Ext H H' := by
  unfold beginRound at h
  split at h
  · rename_i hg; injection h with h; subst h; exact Ext.set hg _ (fun _ => rfl)
  · cases h
theorem setLoop_next {H H' : AHeap} {l : Nat} {s : LState} {p : Option AJump} (h : setLoop H l s p = some H') : H'.next = H.next := by
  unfold setLoop at h
  split at h
  · injection h with h; subst h; rfl
  · cases h
theorem beginRound_next {H H' : AHeap} {l : Nat} (h : beginRound H l = some H') : H'.next = H.next := by
  unfold beginRound at h
  split at h
  · injection h with h; subst h; rfl
  · cases h

theorem rounds_mono {AP : AProg} (hp : progMono AP) {call : CallFn} (hc : CallMono call) (m : Nat) : ∀ n, RoundMono (rounds AP call m n)
  | 0 => fun vs l H e H' h => by cases h
  | n + 1 => fun vs l H e H' h => by
    have ih := rounds_mono hp hc m n
    simp only [rounds, roundOf] at h
    split at h
    · rename_i st pd f k tm d hg
      simp only [Option.bind_eq_some_iff] at h
      obtain ⟨fn, hfn, lp, hlp, tm1, _, q, hq, h⟩ := h
      have hlm : codeMono lp.assign ∧ codeMono lp.body := (hp f fn hfn).2 lp (by rw [nth_eq] at hlp; exact List.mem_of_getElem? hlp)
      have h1 := codeC_ext (rt := ⟨AP, call, rounds AP call m n, m, ⟨some l, f⟩⟩) hc ih hlm.1 hq
      have h1 : Ext H q.2.H := h1
      split at h
      · simp only [Option.bind_eq_some_iff] at h
        obtain ⟨H2, hb, q2, hq2, h⟩ := h
        have h2 := codeC_ext (rt := ⟨AP, call, rounds AP call m n, m, ⟨some l, f⟩⟩) hc ih hlm.2 hq2
        have h2 : Ext H2 q2.2.H := h2
        have h3 := (h1.trans (beginRound_ext hb)).trans h2
        rcases cond_some h with ⟨_, h⟩ | ⟨_, h⟩
        · unfold roundEnd at h
          split at h
          · injection h with h; injection h with _ h; subst h
            exact h3
          · simp only [Option.bind_eq_some_iff, Option.some.injEq, Prod.mk.injEq] at h
            obtain ⟨H3, h4, _, rfl⟩ := h
            exact h3.trans (setLoop_ext h4)
        · cases h
      · cases h
    · cases h

theorem stepCall_mono {AP : AProg} (hp : progMono AP) {call : CallFn} (ih : CallMono call) (n : Nat) : CallMono (stepCall AP call n) :=
  fun f vs up H e up' H' h => by
    simp only [stepCall, Option.bind_eq_some_iff] at h
    obtain ⟨fn, hfn, q, hq, h⟩ := h
    have h1 := codeC_ext (rt := ⟨AP, call, rounds AP call n n, n, ⟨none, f⟩⟩) ih (rounds_mono hp ih n n) (hp f fn hfn).1 hq
    have h1 : Ext H q.2.H := h1
    have hfin : ∀ m, ((unwindA call fn.results q.2.tm q.2.dfs m q.2.H).bind fun z => some (z.1, q.2.up, z.2)) = some (e, up', H') → Ext H H' := by
      intro m h
      simp only [Option.bind_eq_some_iff, Option.some.injEq, Prod.mk.injEq] at h
      obtain ⟨z, hz, _, _, rfl⟩ := h
      exact Ext.trans h1 (unwindA_ext ih hz)
    unfold endCall at h
    split at h
    · exact hfin _ h
    · exact hfin _ h
    · exact hfin _ h
    · cases h
theorem acall_mono {AP : AProg} (hp : progMono AP) : ∀ n, CallMono (acall AP n)
  | 0 => fun f vs up H e up' H' h => by cases h
  | n + 1 => stepCall_mono hp (acall_mono hp n) n
theorem acallT_mono {AP : AProg} (hp : progMono AP) {told : CallFn} (ht : CallMono told) : ∀ n, CallMono (acallT AP told n)
  | 0 => ht
  | n + 1 => fun f vs up H e up' H' h => by
    simp only [acallT] at h
    split at h
    · rename_i r hr
      injection h with h; subst h
      exact ht _ _ _ _ _ _ _ hr
    · exact stepCall_mono hp (acallT_mono hp ht n) n _ _ _ _ _ _ _ h

end Go.Am
