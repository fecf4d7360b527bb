/- A REGION THAT RUNS IN THE TEXT's ORDER. -/
import Derived.Test.YtjhjdlebhljcaaaGreatDoorAmRun
import Derived.ControlIn
namespace Go.Am
set_option linter.unusedVariables false
set_option linter.unusedSimpArgs false

abbrev Anyway : Machine → Prop := fun _ => True

/-- the machine's state is the activation's -/
structure SR (P : Program) (base : Nat) (D : Nat → Prop) (θ : Th) (b : Frame) (nt : Nat) (rd : Option Nat) (st : St) (a : Act) (cs : List Frame) (w : World) : Prop where
  heap : HR P base D θ st.H w
  tms : tmR D θ st.tm a.tmps
  size : nt ≤ a.tmps.size
  dfs : dfsR D θ st.dfs a.defers
  up : UpR D θ b.kind st.up cs
  round : RdR D θ b.roundOf rd

/-- the machine came from `st` to `st'` by `e`; the model, from the machine `m` on, likewise -/
def Out (P : Program) (base : Nat) (D : Nat → Prop) (θ : Th) (b : Frame) (nt : Nat) (rd : Option Nat) (k : List Item) (st : St) (cs : List Frame) (w : World) (m : Machine) (e : AExit) (st' : St) : Prop :=
  ∃ θ' a' w' cs' e', ArrivesIn Anyway P m b k cs' e' a' w' ∧ SR P base (Up D st.H.next st'.H.next) θ' b nt rd st' a' cs' w' ∧ Grow D st.H θ w st'.H θ' w' ∧ exitR (Up D st.H.next st'.H.next) θ' e e' ∧
    st'.up.isSome = st.up.isSome ∧ UpTo st.up cs cs'

section
variable {P : Program} {base : Nat} {D : Nat → Prop} {θ : Th}

theorem Out.after {b : Frame} {nt : Nat} {rd : Option Nat} {k : List Item} {st st1 st' : St} {cs cs1 : List Frame} {w w1 : World} {m m1 : Machine} {e : AExit} {θ1 : Th} (hs : Steps P m m1)
    (hg : Grow D st.H θ w st1.H θ1 w1) (hu : st1.up.isSome = st.up.isSome) (ht : UpTo st.up cs cs1) (hn : st1.H.next ≤ st'.H.next)
    (h : Out P base (Up D st.H.next st1.H.next) θ1 b nt rd k st1 cs1 w1 m1 e st') : Out P base D θ b nt rd k st cs w m e st' := by
  obtain ⟨θ', a', w', cs', e', h1, h2, h3, h4, h5, h6⟩ := h
  rw [Up.up hg.next hn] at h2 h4
  exact ⟨θ', a', w', cs', e', .of_steps (StepsIn.of_steps hs) h1, h2, hg.trans h3 Up.of, h4, h5.trans hu, UpTo.trans hu ht h6⟩

theorem allSome_get {α : Type} : ∀ {l : List (Option α)} {r : List α}, allSome l = some r → r.length = l.length ∧ ∀ (i : Nat) (x : α), r[i]? = some x → l[i]? = some (some x)
  | [], r, h => by injection h with h; subst h; exact ⟨rfl, fun i x hx => by simp at hx⟩
  | y :: l, r, h => by
    simp only [allSome, Option.bind_eq_some_iff, Option.some.injEq] at h
    obtain ⟨a, rfl, l', hl, rfl⟩ := h
    obtain ⟨h1, h2⟩ := allSome_get hl
    refine ⟨by simp [h1], fun i x hx => ?_⟩
    cases i with
    | zero => simpa using hx
    | succ i => simpa using h2 i x (by simpa using hx)

theorem mkStep_inv {ops : Array Oper} {l : List (List AOpd × AOp)} {safe : Nat → Option (List Nat)} {q : Bool × Nat} {s : AStep} (h : mkStep ops l safe q = some s) :
    ∃ o a g, ops[q.2]? = some o ∧ l[q.2]? = some a ∧ guardOf ops o.guard = some g ∧ s = { chk := q.1, dst := o.dst, guard := g, args := a.1, op := a.2, psafe := safe q.2 } := by
  simp only [mkStep, Option.bind_eq_some_iff, Option.some.injEq] at h
  obtain ⟨o, ho, a, ha, g, hg, rfl⟩ := h
  exact ⟨o, a, g, ho, ha, hg, rfl⟩

/-- is the operation wanted? -/
theorem wanted_R {ops : Array Oper} {o : Oper} {s : AStep} (hg : guardOf ops o.guard = some s.guard) {tm : T AV} {a : Array Value} (ht : tmR D θ tm a) {q : Bool} (h : wantedA s tm = some q) :
    Region.wanted o (yielded ops a) = q := by
  unfold wantedA at h
  unfold Region.wanted
  cases ho : o.guard with
  | none =>
    rw [ho] at hg
    injection hg with hg
    rw [← hg] at h
    injection h
  | some g =>
    obtain ⟨j, want⟩ := g
    rw [ho] at hg
    simp only [guardOf, Option.bind_eq_some_iff, Option.some.injEq] at hg
    obtain ⟨t, ⟨oj, hj1, hj2⟩, hg⟩ := hg
    rw [← hg] at h
    simp only at h
    have hy : ((ops[j]?).bind (·.dst)).bind (a[·]?) = a[t]? := by rw [hj1]; simp [hj2]
    simp only [yielded, hy]
    unfold wantV at h
    split at h
    · rename_i p hp
      obtain ⟨c, h1, h2⟩ := ht t _ hp
      injection h with h
      rw [h1, ← h2.now]
      simp only [conc]
      cases p <;> cases want <;> cases q <;> simp_all
    · rename_i hp
      obtain ⟨c, h1, h2⟩ := ht t _ hp
      injection h with h
      rw [h1, ← h2.now]
      simp only [conc]
      subst h; rfl
    · cases h

theorem put_R {nt : Nat} {tm : T AV} {a : Act} {dst : Option Nat} (hd : ∀ d, dst = some d → d < nt) (hs : nt ≤ a.tmps.size) (ht : tmR D θ tm a.tmps) {v : AV} {c : Value} (hv : VR D θ v c) :
    tmR D θ (putD dst v tm) (a.put dst c).tmps ∧ nt ≤ (a.put dst c).tmps.size ∧ (a.put dst c).defers = a.defers := by
  cases dst with
  | none => exact ⟨ht, hs, rfl⟩
  | some d =>
    refine ⟨ht.put (Nat.lt_of_lt_of_le (hd d rfl) hs) hv, ?_, rfl⟩
    simpa [Act.put] using hs

/-- one step of a region, and what comes behind it -/
theorem step_sound (hP : PGood P) {rt : RT} (hcall : CallSound P base rt.call) (hround : RoundSound P base rt.round) (hAP : rt.AP = cProg P) (hcm : CallMono rt.call) (hrm : RoundMono rt.round)
    {ops : Array Oper} {o : Oper} {i : Nat} {rest : List Nat} {s : AStep} {ca : List AOpd × AOp} (ho : ops[i]? = some o) (hca : cOper P o = some ca) (hg : guardOf ops o.guard = some s.guard) (h1 : s.chk = false) (h2 : s.dst = o.dst) (h3 : s.args = ca.1) (h4 : s.op = ca.2)
    {b : Frame} {nt : Nat} (hdst : dstOk nt o = true) {k : List Item} {st : St} {a : Act} {cs : List Frame} {w : World} (hS : SR P base D θ b nt rt.ctx.round st a cs w) {K : St → Res} {r : AExit × St}
    (hKm : ∀ st r, K st = some r → st.H.next ≤ r.2.H.next) (h : (stepC s).run rt K st = some r) (hf : Fresh D st.H.next r.2.H.next)
    (hnext : ∀ D1 θ1 st1 a1 cs1 w1, SR P base D1 θ1 b nt rt.ctx.round st1 a1 cs1 w1 → K st1 = some r → Fresh D1 st1.H.next r.2.H.next → Out P base D1 θ1 b nt rt.ctx.round k st1 cs1 w1 (lone (b.atR a1 (.inRegion ops rest :: k)) cs1 w1) r.1 r.2) :
    Out P base D θ b nt rt.ctx.round k st cs w (lone (b.atR a (.inRegion ops (i :: rest) :: k)) cs w) r.1 r.2 := by
  have hdd : ∀ d, o.dst = some d → d < nt := by
    intro d hd
    unfold dstOk at hdst
    rw [hd] at hdst
    simpa [Nat.blt_eq] using hdst
  rw [stepC_run s h1, Option.bind_eq_some_iff] at h
  obtain ⟨q, hq, h⟩ := h
  have hwant := wanted_R hg hS.tms hq
  cases q with
  | false =>
    simp only [cond_false] at h
    obtain ⟨p1, p2, p3⟩ := put_R (dst := o.dst) hdd hS.size hS.tms (VR.undef (D := D) (θ := θ))
    rw [h2] at h
    have hn := hKm _ _ h
    have hsk := stepR_op_skip (P := P) (b := b) (a := a) (k := k) (cs := cs) (w := w) (ops := ops) (i := i) (rest := rest) (by simp [ho, hwant])
    rw [ho] at hsk
    refine Out.after (.one hsk) (Grow.refl D st.H θ w) rfl (UpTo.refl hS.up) hn ?_
    rw [Up.none]
    exact hnext D θ ⟨putD o.dst .undef st.tm, st.dfs, st.up, st.H⟩ _ cs w ⟨hS.heap, p1, p2, by rw [show (a.put ((some o).bind (·.dst)) undef).defers = a.defers from p3]; exact hS.dfs, hS.up, hS.round⟩ h hf
  | true =>
    simp only [cond_true, Option.bind_eq_some_iff] at h
    obtain ⟨vs, hvs, res, hres, h⟩ := h
    obtain ⟨xs, hxs, hok, hdef⟩ := oper_ok hP hca
    rw [h3] at hvs
    rw [h4] at hres
    have hv := evL_R (a := a) hS.heap hS.tms hxs hvs
    have hm1 := opR_mono hcm hrm hok.mono hres
    have hle : res.heap.next ≤ r.2.H.next := by
      cases res with
      | val v d u H' => exact hKm _ _ h
      | panic c H' =>
        simp only [finR, Option.bind_eq_some_iff, Option.some.injEq] at h
        obtain ⟨_, _, rfl⟩ := h
        exact Nat.le_refl _
    have hout := op_sound hP hcall hround hAP hok hdef (rest := rest) (k := k) ho hwant hS.heap hS.dfs hS.up hS.round hv hres (hf.left hle)
    cases res with
    | val v d u H' =>
      obtain ⟨θ', w', c, cs', ds, g1, g2, g3, g4, g5, g6, g7, g8⟩ := hout
      simp only [finR, h2] at h
      have hag := g3.ag
      obtain ⟨p1, p2, p3⟩ := put_R (a := { a with defers := ds }) (dst := o.dst) hdd hS.size (hS.tms.up hag Up.of) g4
      refine Out.after (st1 := ⟨putD o.dst v st.tm, d, u, H'⟩) g1 g3 g6 g8 hle ?_
      exact hnext _ θ' _ _ cs' w' ⟨g2, p1, p2, by rw [p3]; exact g5, g7, RdR.up hag Up.of hS.round⟩ h (hf.right hm1)
    | panic c H' =>
      obtain ⟨θ', w', ps, todo, g1, g2, g3, g4, g5⟩ := hout
      simp only [finR, Option.bind_eq_some_iff, Option.some.injEq] at h
      obtain ⟨ds, hds, rfl⟩ := h
      have hag := g3.ag
      refine ⟨θ', a, w', cs, .panic ps, ⟨todo, StepsIn.of_steps g1⟩, ⟨g2, tmR.forget ds (hS.tms.up hag Up.of), hS.size, dfsR.up hag Up.of hS.dfs, UpR.up hag Up.of hS.up, RdR.up hag Up.of hS.round⟩, g3, ⟨g4, g5⟩, rfl, UpTo.refl hS.up⟩

theorem steps_ops_mono (hP : PGood P) {ops : Array Oper} {l : List (List AOpd × AOp)} (hl : allSome (ops.toList.map (cOper P)) = some l) {safe : Nat → Option (List Nat)} {qs : List (Bool × Nat)} {steps : List AStep}
    (h : allSome (qs.map (mkStep ops l safe)) = some steps) : ∀ s ∈ steps, OpMono s.op := by
  intro s hs
  obtain ⟨i, hi⟩ := List.getElem?_of_mem hs
  have := (allSome_get h).2 i s hi
  rw [List.getElem?_map, Option.map_eq_some_iff] at this
  obtain ⟨q, _, hq⟩ := this
  obtain ⟨o, a, g, ho, ha, _, rfl⟩ := mkStep_inv hq
  have := (allSome_get hl).2 _ a ha
  rw [List.getElem?_map, Option.map_eq_some_iff] at this
  obtain ⟨o', _, hco⟩ := this
  obtain ⟨xs, _, hok, _⟩ := oper_ok hP hco
  exact hok.mono

/-- A REGION IN ITS TEXT's ORDER -/
theorem seq_region (hP : PGood P) {rt : RT} (hcall : CallSound P base rt.call) (hround : RoundSound P base rt.round) (hAP : rt.AP = cProg P) (hcm : CallMono rt.call) (hrm : RoundMono rt.round)
    {ops : Array Oper} {nt : Nat} (hdst : ops.toList.all (dstOk nt) = true) {l : List (List AOpd × AOp)} (hl : allSome (ops.toList.map (cOper P)) = some l) {b : Frame} {k : List Item} {safe : Nat → Option (List Nat)} :
    ∀ (todo : List Nat) {steps : List AStep}, allSome (todo.map fun i => mkStep ops l safe (false, i)) = some steps → ∀ {D : Nat → Prop} {θ : Th} {st : St} {a : Act} {cs : List Frame} {w : World} {r : AExit × St},
      SR P base D θ b nt rt.ctx.round st a cs w → (stepsC steps).run rt st = some r → Fresh D st.H.next r.2.H.next → Out P base D θ b nt rt.ctx.round k st cs w (lone (b.atR a (.inRegion ops todo :: k)) cs w) r.1 r.2
  | [], steps, hs, D, θ, st, a, cs, w, r, hS, h, hf => by
    injection hs with hs; subst hs
    injection h with h; subst h
    refine ⟨θ, a, w, cs, .normal, StepsIn.one trivial stepR_region_end, by rw [Up.none]; exact hS, Grow.refl _ _ _ _, trivial, rfl, UpTo.refl hS.up⟩
  | i :: todo, steps, hs, D, θ, st, a, cs, w, r, hS, h, hf => by
    simp only [List.map_cons, allSome, Option.bind_eq_some_iff, Option.some.injEq] at hs
    obtain ⟨s, hs1, rest, hs2, rfl⟩ := hs
    obtain ⟨o, ca, g, ho, hla, hg, rfl⟩ := mkStep_inv hs1
    have hco : cOper P o = some ca := by
      have := (allSome_get hl).2 _ ca hla
      rw [List.getElem?_map, Array.getElem?_toList, ho] at this
      simpa using this
    have hmem : dstOk nt o = true := by
      rw [List.all_eq_true] at hdst
      exact hdst o (by have := Array.mem_of_getElem? ho; simpa using this)
    have hmono : ∀ s ∈ rest, OpMono s.op := by
      have h9 : allSome ((todo.map fun i => (false, i)).map (mkStep ops l safe)) = some rest := by rw [List.map_map]; exact hs2
      exact steps_ops_mono hP hl h9
    exact step_sound hP hcall hround hAP hcm hrm (K := (stepsC rest).run rt) ho hco hg rfl rfl rfl rfl hmem hS (fun st r h => stepsC_mono hcm hrm hmono h) h hf
      (fun D1 θ1 st1 a1 cs1 w1 hS1 h1 hf1 => seq_region hP hcall hround hAP hcm hrm hdst hl todo hs2 hS1 h1 hf1)
end
end Go.Am
