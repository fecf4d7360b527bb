/- A REGION THAT DRAWS ITS ORDER: the machine's own run, looked at place by place. -/
import Derived.Test.YtjhjdlebhljcaaaGreatDoorAmPlan
namespace Go.Am
set_option linter.unusedVariables false
set_option linter.unusedSimpArgs false

mutual
theorem sameV_eq : ∀ (a b : AV), Am.sameV a b = true → a = b
  | .bool a, b, h => by cases b <;> simp_all [Am.sameV]
  | .int k a, b, h => by cases b <;> simp_all [Am.sameV, eqI_eq, eqK_eq]
  | .str a, b, h => by cases b <;> simp_all [Am.sameV, eqS_eq]
  | .nilp, b, h => by cases b <;> simp_all [Am.sameV]
  | .ptr a o, b, h => by cases b <;> simp_all [Am.sameV]
  | .nils, b, h => by cases b <;> simp_all [Am.sameV]
  | .slice a o n c, b, h => by cases b <;> simp_all [Am.sameV]
  | .gslice a i m s al n, b, h => by cases b <;> simp_all [Am.sameV]
  | .eslice a, b, h => by cases b <;> simp_all [Am.sameV]
  | .nilm, b, h => by cases b <;> simp_all [Am.sameV]
  | .map a, b, h => by cases b <;> simp_all [Am.sameV]
  | .nilf, b, h => by cases b <;> simp_all [Am.sameV]
  | .nili, b, h => by cases b <;> simp_all [Am.sameV]
  | .fn (.func f) x y, b, h => by
    cases b with
    | fn g x' y' =>
      cases g with
      | func g =>
        simp only [Am.sameV, Bool.and_eq_true, Nat.beq_eq] at h
        obtain ⟨⟨h1, h2⟩, h3⟩ := h
        rw [h1, sameL_eq x x' h2, sameL_eq y y' h3]
      | yield g => simp [Am.sameV] at h
    | _ => simp [Am.sameV] at h
  | .fn (.yield f) x y, b, h => by
    cases b with
    | fn g x' y' =>
      cases g with
      | yield g =>
        simp only [Am.sameV, Bool.and_eq_true, Nat.beq_eq] at h
        obtain ⟨⟨h1, h2⟩, h3⟩ := h
        rw [h1, sameL_eq x x' h2, sameL_eq y y' h3]
      | func g => simp [Am.sameV] at h
    | _ => simp [Am.sameV] at h
  | .iface t v, b, h => by
    cases b with
    | iface u w =>
      simp only [Am.sameV, Bool.and_eq_true, Nat.beq_eq] at h
      rw [h.1, sameV_eq v w h.2]
    | _ => simp [Am.sameV] at h
  | .agg x, b, h => by
    cases b with
    | agg y => simp only [Am.sameV] at h; rw [sameL_eq x y h]
    | _ => simp [Am.sameV] at h
  | .tuple x, b, h => by
    cases b with
    | tuple y => simp only [Am.sameV] at h; rw [sameL_eq x y h]
    | _ => simp [Am.sameV] at h
theorem sameL_eq : ∀ (a b : List AV), Am.sameL a b = true → a = b
  | [], b, h => by cases b <;> simp_all [Am.sameL]
  | x :: xs, b, h => by
    cases b with
    | nil => simp [Am.sameL] at h
    | cons y ys =>
      simp only [Am.sameL, Bool.and_eq_true] at h
      rw [sameV_eq x y h.1, sameL_eq xs ys h.2]
end

/-! ### the states -/
inductive StepRel (rt : RT) (s : AStep) (st st1 : St) : Prop
  | skip (hc : s.chk = false) (hw : wantedA s st.tm = some false) (h : st1 = ⟨putD s.dst .undef st.tm, st.dfs, st.up, st.H⟩)
  | run (hc : s.chk = false) (hw : wantedA s st.tm = some true) (vs : List AV) (v : AV) (d : List ADef) (u : Option Chain) (H' : AHeap) (he : evL st.tm s.args = some vs) (ho : opR rt st vs s.op = some (.val v d u H')) (h : st1 = ⟨putD s.dst v st.tm, d, u, H'⟩)
  | look (hc : s.chk = true) (d : Nat) (hd : s.dst = some d) (h : st1 = st) (hl : wantedA s st.tm = some false ∨ (wantedA s st.tm = some true ∧ ∃ vs, evL st.tm s.args = some vs ∧ chkOp (fun t => t.get d) st vs s.op = true))

/-- how a list of steps ended -/
def EndsAt (rt : RT) (steps : List AStep) (sts : Nat → St) (M : Nat) (r : AExit × St) : Prop :=
  (M = steps.length ∧ r = (.normal, sts M)) ∨
  ∃ s vs c H' ds, steps[M]? = some s ∧ s.chk = false ∧ wantedA s (sts M).tm = some true ∧ evL (sts M).tm s.args = some vs ∧ opR rt (sts M) vs s.op = some (.panic c H') ∧ s.psafe = some ds ∧
    r = (.panic c, ⟨forget ds (sts M).tm, (sts M).dfs, (sts M).up, H'⟩)

theorem run_states {rt : RT} : ∀ {steps : List AStep} {st : St} {r : AExit × St}, (stepsC steps).run rt st = some r →
    ∃ (sts : Nat → St) (M : Nat), sts 0 = st ∧ M ≤ steps.length ∧ (∀ p, p < M → ∃ s, steps[p]? = some s ∧ StepRel rt s (sts p) (sts (p + 1))) ∧ EndsAt rt steps sts M r
  | [], st, r, h => by
    injection h with h; subst h
    exact ⟨fun _ => st, 0, rfl, Nat.le_refl _, fun p hp => by omega, .inl ⟨rfl, rfl⟩⟩
  | s :: l, st, r, h => by
    have h : (stepC s).run rt ((stepsC l).run rt) st = some r := h
    have hcons : ∀ st1, StepRel rt s st st1 → (stepsC l).run rt st1 = some r → ∃ (sts : Nat → St) (M : Nat), sts 0 = st ∧ M ≤ (s :: l).length ∧ (∀ p, p < M → ∃ s', (s :: l)[p]? = some s' ∧ StepRel rt s' (sts p) (sts (p + 1))) ∧ EndsAt rt (s :: l) sts M r := by
      intro st1 hr hl
      obtain ⟨sts, M, h1, h2, h3, h4⟩ := run_states hl
      refine ⟨fun p => match p with | 0 => st | p + 1 => sts p, M + 1, rfl, by simp; omega, fun p hp => ?_, ?_⟩
      · cases p with
        | zero => exact ⟨s, rfl, by show StepRel rt s st (sts 0); rw [h1]; exact hr⟩
        | succ p =>
          obtain ⟨s', k1, k2⟩ := h3 p (by omega)
          exact ⟨s', by simpa using k1, k2⟩
      · rcases h4 with ⟨k1, k2⟩ | ⟨s', vs, c, H', ds, k1, k2⟩
        · exact .inl ⟨by simp [k1], k2⟩
        · exact .inr ⟨s', vs, c, H', ds, by simpa using k1, k2⟩
    cases hch : s.chk with
    | false =>
      rw [stepC_run s hch, Option.bind_eq_some_iff] at h
      obtain ⟨w, hw, h⟩ := h
      cases w with
      | false =>
        simp only [cond_false] at h
        exact hcons _ (.skip hch hw rfl) h
      | true =>
        simp only [cond_true, Option.bind_eq_some_iff] at h
        obtain ⟨vs, hvs, q, hq, h⟩ := h
        cases q with
        | val v d u H' => exact hcons _ (.run hch hw vs v d u H' hvs hq rfl) h
        | panic c H' =>
          simp only [finR, Option.bind_eq_some_iff, Option.some.injEq] at h
          obtain ⟨ds, hds, rfl⟩ := h
          exact ⟨fun _ => st, 0, rfl, Nat.zero_le _, fun p hp => by omega, .inr ⟨s, vs, c, H', ds, rfl, hch, hw, hvs, hq, hds, rfl⟩⟩
    | true =>
      cases hd : s.dst with
      | none => rw [stepC_chk_none s hch hd] at h; cases h
      | some d =>
        rw [stepC_run_chk s hch hd, Option.bind_eq_some_iff] at h
        obtain ⟨w, hw, h⟩ := h
        cases w with
        | false =>
          simp only [cond_false] at h
          exact hcons st (.look hch d hd rfl (.inl hw)) h
        | true =>
          simp only [cond_true, Option.bind_eq_some_iff] at h
          obtain ⟨vs, hvs, h⟩ := h
          rcases cond_some h with ⟨hk, h⟩ | ⟨_, h⟩
          · exact hcons st (.look hch d hd rfl (.inr ⟨hw, vs, hvs, hk⟩)) h
          · cases h

theorem evL_congr : ∀ {ys : List AOpd} {tm tm' : T AV}, (∀ t ∈ tmpsOf ys, tm.get t = tm'.get t) → evL tm ys = evL tm' ys
  | [], _, _, _ => rfl
  | y :: ys, tm, tm', h => by
    have h1 : evO tm y = evO tm' y := by
      cases y with
      | tmp t => exact h t (by simp [tmpsOf])
      | const v => rfl
      | glob g => rfl
      | func f => rfl
    have h2 : evL tm ys = evL tm' ys := evL_congr (fun t ht => h t (by cases y <;> simp [tmpsOf, ht]))
    simp only [evL, h1, h2]

section
variable {P : Program} {base : Nat} {D : Nat → Prop} {θ : Th} {H : AHeap} {w : World} {a : Act} {tm : T AV}
/-- operands, of slots that agree -/
theorem evO_at (hh : HR P base D θ H w) {x : Operand} {y : AOpd} (ht : ∀ t ∈ tmpsOf [y], ∀ v, tm.get t = some v → ∃ c, a.tmps[t]? = some c ∧ VR D θ v c) (hc : cOpd P.globals.size x = some y) {v : AV} (hv : evO tm y = some v) : VR D θ v (a.eval x) := by
  cases x with
  | tmp t =>
    injection hc with hc; subst hc
    obtain ⟨c, h1, h2⟩ := ht t (by simp [tmpsOf]) v hv
    simpa [Act.eval, h1] using h2
  | const k =>
    simp only [cOpd, Option.bind_eq_some_iff, Option.some.injEq] at hc
    obtain ⟨u, hu, rfl⟩ := hc
    injection hv with hv; subst hv
    exact toAV_VR hu
  | global g =>
    simp only [cOpd] at hc
    split at hc
    · rename_i hg
      injection hc with hc; subst hc
      injection hv with hv; subst hv
      obtain ⟨h1, h2, h3⟩ := hh.glob g (by simpa [Nat.blt_eq] using hg)
      have := VR.ptr (θ := θ) (o := 0) h1
      rw [h2, h3] at this; exact this
    · cases hc
  | func f =>
    injection hc with hc; subst hc
    injection hv with hv; subst hv
    exact fun _ _ => rfl
theorem evL_at (hh : HR P base D θ H w) : ∀ {xs : List Operand} {ys : List AOpd}, (∀ t ∈ tmpsOf ys, ∀ v, tm.get t = some v → ∃ c, a.tmps[t]? = some c ∧ VR D θ v c) → cOpds P.globals.size xs = some ys → ∀ {vs : List AV}, evL tm ys = some vs → VRL D θ vs (xs.map a.eval)
  | [], ys, ht, hc, vs, hv => by
    injection hc with hc; subst hc
    injection hv with hv; subst hv
    exact .nil
  | x :: xs, ys, ht, hc, vs, hv => by
    simp only [cOpds, Option.bind_eq_some_iff, Option.some.injEq] at hc
    obtain ⟨y, hy, ys', hys, rfl⟩ := hc
    simp only [evL, Option.bind_eq_some_iff, Option.some.injEq] at hv
    obtain ⟨v, h1, vs', h2, rfl⟩ := hv
    refine .cons (evO_at hh (fun t htt => ht t ?_) hy h1) (evL_at hh (fun t htt => ht t ?_) hys h2)
    · cases y <;> simp [tmpsOf] at htt ⊢; exact .inl htt
    · cases y <;> simp [tmpsOf, htt]
theorem wanted_at {ops : Array Oper} {o : Oper} {s : AStep} (hg : guardOf ops o.guard = some s.guard) {tm : T AV} {a : Array Value} (ht : ∀ g, s.guard = some g → ∀ v, tm.get g.1 = some v → ∃ c, a[g.1]? = some c ∧ VR D θ v c) {q : Bool} (h : wantedA s tm = some q) :
    Region.wanted o (yielded ops a) = q := by
  cases hsg : s.guard with
  | none =>
    exact wanted_R (D := D) (θ := θ) (tm := T.nil) (a := a) (q := q) hg (fun t v hv => by rw [T.get_nil] at hv; cases hv) (by unfold wantedA at h ⊢; rw [hsg] at h ⊢; exact h)
  | some g =>
    -- a table that holds the guard's slot alone
    refine wanted_R (D := D) (θ := θ) (tm := (T.nil : T AV).put g.1 (tm.get g.1)) (a := a) (q := q) hg (fun t v hv => ?_) ?_
    · rw [T.get_put] at hv
      split at hv
      · rename_i e; subst e; exact ht g hsg v hv
      · rw [T.get_nil] at hv; cases hv
    · unfold wantedA at h ⊢
      rw [hsg] at h ⊢
      simp only [T.get_put, if_true]
      exact h
end
end Go.Am
