/- CODE: what the machine makes of it the model makes of it. -/
import Derived.Test.YtjhjdlebhljcaaaGreatDoorAmRegion
import Derived.RangeFuncIn
namespace Go.Am
set_option linter.unusedVariables false
set_option linter.unusedSimpArgs false

/-- a region that draws its order -/
def DrawSound (P : Program) (base : Nat) (rt : RT) : Prop :=
  ∀ (nt id : Nat) (ops : Array Oper) (c : ACode), cRegion P nt ops true = some c → ∀ (D : Nat → Prop) θ (b : Frame) k st a cs w r, SR P base D θ b nt rt.ctx.round st a cs w → (codeC c).run rt st = some r →
    Fresh D st.H.next r.2.H.next → Out P base D θ b nt rt.ctx.round k st cs w (lone (b.atR a (.code (.region id ops true) :: k)) cs w) r.1 r.2

section
variable {P : Program} {base : Nat}

theorem region_run {nt : Nat} {ops : Array Oper} {c : ACode} (h : cRegion P nt ops false = some c) : ∃ l steps, ops.toList.all (dstOk nt) = true ∧ allSome (ops.toList.map (cOper P)) = some l ∧
    allSome ((List.range ops.size).map fun i => mkStep ops l (fun _ => some []) (false, i)) = some steps ∧ c = .region steps := by
  unfold cRegion at h
  split at h
  · rename_i hd
    simp only [Option.bind_eq_some_iff] at h
    obtain ⟨l, hl, h⟩ := h
    simp only [Bool.false_eq_true, if_false, Option.bind_eq_some_iff, Option.some.injEq] at h
    obtain ⟨steps, hs, rfl⟩ := h
    exact ⟨l, steps, hd, hl, hs, rfl⟩
  · cases h

theorem region_mono (hP : PGood P) {nt : Nat} {ops : Array Oper} {draw : Bool} {c : ACode} (h : cRegion P nt ops draw = some c) : codeMono c := by
  unfold cRegion at h
  split at h
  · simp only [Option.bind_eq_some_iff] at h
    obtain ⟨l, hl, h⟩ := h
    split at h
    · rcases cond_some h with ⟨_, h⟩ | ⟨_, h⟩
      · simp only [Option.bind_eq_some_iff, Option.some.injEq] at h
        obtain ⟨steps, hs, rfl⟩ := h
        exact steps_ops_mono hP hl hs
      · injection h with h; subst h; trivial
    · simp only [Option.bind_eq_some_iff, Option.some.injEq] at h
      obtain ⟨steps, hs, rfl⟩ := h
      exact steps_ops_mono (safe := fun _ => some []) (qs := (List.range ops.size).map fun i => (false, i)) hP hl (by rw [List.map_map]; exact hs)
  · cases h

theorem code_mono (hP : PGood P) {nt : Nat} : ∀ (c : Code) {kk : Nat} {ac : ACode} {L : List ALoop}, cCode P nt kk c = some (ac, L) → codeMono ac ∧ ∀ lp ∈ L, codeMono lp.assign ∧ codeMono lp.body
  | .skip, kk, ac, L, h => by injection h with h; injection h with h1 h2; subst h1; subst h2; exact ⟨trivial, by simp⟩
  | .region _ ops draw, kk, ac, L, h => by
    simp only [cCode, Option.bind_eq_some_iff, Option.some.injEq, Prod.mk.injEq] at h
    obtain ⟨c, hc, rfl, rfl⟩ := h
    exact ⟨region_mono hP hc, by simp⟩
  | .seq a b, kk, ac, L, h => by
    simp only [cCode, Option.bind_eq_some_iff, Option.some.injEq, Prod.mk.injEq] at h
    obtain ⟨⟨x, lx⟩, hx, ⟨y, ly⟩, hy, rfl, rfl⟩ := h
    obtain ⟨a1, a2⟩ := code_mono hP a hx
    obtain ⟨b1, b2⟩ := code_mono hP b hy
    exact ⟨⟨a1, b1⟩, fun lp hl => by rcases List.mem_append.1 hl with hl | hl; exact a2 lp hl; exact b2 lp hl⟩
  | .cond c a b, kk, ac, L, h => by
    simp only [cCode, Option.bind_eq_some_iff, Option.some.injEq, Prod.mk.injEq] at h
    obtain ⟨cc, _, ⟨x, lx⟩, hx, ⟨y, ly⟩, hy, rfl, rfl⟩ := h
    obtain ⟨a1, a2⟩ := code_mono hP a hx
    obtain ⟨b1, b2⟩ := code_mono hP b hy
    exact ⟨⟨a1, b1⟩, fun lp hl => by rcases List.mem_append.1 hl with hl | hl; exact a2 lp hl; exact b2 lp hl⟩
  | .block id b, kk, ac, L, h => by
    simp only [cCode, Option.bind_eq_some_iff, Option.some.injEq, Prod.mk.injEq] at h
    obtain ⟨⟨x, lx⟩, hx, rfl, rfl⟩ := h
    obtain ⟨b1, b2⟩ := code_mono hP b hx
    exact ⟨b1, b2⟩
  | .loop b, kk, ac, L, h => by
    simp only [cCode, Option.bind_eq_some_iff, Option.some.injEq, Prod.mk.injEq] at h
    obtain ⟨⟨x, lx⟩, hx, rfl, rfl⟩ := h
    obtain ⟨b1, b2⟩ := code_mono hP b hx
    exact ⟨b1, b2⟩
  | .rangeFunc f ps a b, kk, ac, L, h => by
    simp only [cCode, Option.bind_eq_some_iff] at h
    obtain ⟨cc, _, ⟨x, lx⟩, hx, ⟨y, ly⟩, hy, h⟩ := h
    split at h
    · injection h with h; injection h with h1 h2; subst h1; subst h2
      obtain ⟨a1, a2⟩ := code_mono hP a hx
      obtain ⟨b1, b2⟩ := code_mono hP b hy
      refine ⟨trivial, fun lp hl => ?_⟩
      rcases List.mem_cons.1 hl with rfl | hl
      · exact ⟨a1, b1⟩
      · rcases List.mem_append.1 hl with hl | hl
        · exact a2 lp hl
        · exact b2 lp hl
    · cases h
  | .exit _, kk, ac, L, h => by injection h with h; injection h with h1 h2; subst h1; subst h2; exact ⟨trivial, by simp⟩
  | .scope b, kk, ac, L, h => by
    simp only [cCode, Option.bind_eq_some_iff, Option.some.injEq, Prod.mk.injEq] at h
    obtain ⟨⟨x, lx⟩, hx, rfl, rfl⟩ := h
    obtain ⟨b1, b2⟩ := code_mono hP b hx
    exact ⟨b1, b2⟩
  | .label _, kk, ac, L, h => by injection h with h; injection h with h1 h2; subst h1; subst h2; exact ⟨trivial, by simp⟩
  | .goto _, kk, ac, L, h => by injection h with h; injection h with h1 h2; subst h1; subst h2; exact ⟨trivial, by simp⟩
  | .ret, kk, ac, L, h => by injection h with h; injection h with h1 h2; subst h1; subst h2; exact ⟨trivial, by simp⟩
  | .refuse _, kk, ac, L, h => by injection h with h; injection h with h1 h2; subst h1; subst h2; exact ⟨trivial, by simp⟩

theorem prog_mono (hP : PGood P) : progMono (cProg P) := by
  intro f af h
  simp only [cProg, Option.bind_eq_some_iff] at h
  obtain ⟨fn, _, h⟩ := h
  simp only [cFunc, Option.bind_eq_some_iff, Option.some.injEq] at h
  obtain ⟨b, _, ⟨c, L⟩, hc, _, _, rfl⟩ := h
  exact code_mono hP b hc

/-- a label of a scope -/
theorem label_R {nt : Nat} : ∀ (c : Code) {kk : Nat} {ac : ACode} {L : List ALoop}, cCode P nt kk c = some (ac, L) → ∀ l, hasLabel ac l = (findLabel c l).isSome
  | .skip, kk, ac, L, h, l => by injection h with h; injection h with h1 h2; subst h1; rfl
  | .region _ ops draw, kk, ac, L, h, l => by
    simp only [cCode, Option.bind_eq_some_iff, Option.some.injEq, Prod.mk.injEq] at h
    obtain ⟨c, hc, rfl, rfl⟩ := h
    unfold cRegion at hc
    split at hc
    · simp only [Option.bind_eq_some_iff] at hc
      obtain ⟨l, hl, hc⟩ := hc
      split at hc
      · rcases cond_some hc with ⟨_, hc⟩ | ⟨_, hc⟩
        · simp only [Option.bind_eq_some_iff, Option.some.injEq] at hc; obtain ⟨_, _, rfl⟩ := hc; rfl
        · injection hc with hc; subst hc; rfl
      · simp only [Option.bind_eq_some_iff, Option.some.injEq] at hc; obtain ⟨_, _, rfl⟩ := hc; rfl
    · cases hc
  | .seq a b, kk, ac, L, h, l => by
    simp only [cCode, Option.bind_eq_some_iff, Option.some.injEq, Prod.mk.injEq] at h
    obtain ⟨⟨x, lx⟩, hx, ⟨y, ly⟩, hy, rfl, rfl⟩ := h
    have h1 := label_R a hx l
    have h2 := label_R b hy l
    simp only [hasLabel, findLabel, h1, h2]
    cases findLabel a l <;> simp
  | .cond c a b, kk, ac, L, h, l => by
    simp only [cCode, Option.bind_eq_some_iff, Option.some.injEq, Prod.mk.injEq] at h
    obtain ⟨cc, _, ⟨x, lx⟩, hx, ⟨y, ly⟩, hy, rfl, rfl⟩ := h
    rfl
  | .block id b, kk, ac, L, h, l => by
    simp only [cCode, Option.bind_eq_some_iff, Option.some.injEq, Prod.mk.injEq] at h
    obtain ⟨⟨x, lx⟩, hx, rfl, rfl⟩ := h
    rfl
  | .loop b, kk, ac, L, h, l => by
    simp only [cCode, Option.bind_eq_some_iff, Option.some.injEq, Prod.mk.injEq] at h
    obtain ⟨⟨x, lx⟩, hx, rfl, rfl⟩ := h
    rfl
  | .rangeFunc f ps a b, kk, ac, L, h, l => by
    simp only [cCode, Option.bind_eq_some_iff] at h
    obtain ⟨cc, _, ⟨x, lx⟩, hx, ⟨y, ly⟩, hy, h⟩ := h
    split at h
    · injection h with h; injection h with h1 h2; subst h1; rfl
    · cases h
  | .exit _, kk, ac, L, h, l => by injection h with h; injection h with h1 h2; subst h1; rfl
  | .scope b, kk, ac, L, h, l => by
    simp only [cCode, Option.bind_eq_some_iff, Option.some.injEq, Prod.mk.injEq] at h
    obtain ⟨⟨x, lx⟩, hx, rfl, rfl⟩ := h
    rfl
  | .label l', kk, ac, L, h, l => by
    injection h with h; injection h with h1 h2; subst h1
    simp only [hasLabel, findLabel]
    by_cases e : l' = l
    · simp [e]
    · simp only [beq_iff_eq, e, if_false, Option.isSome_none]
      cases hb : Nat.beq l' l with
      | false => rfl
      | true => simp only [Nat.beq_eq] at hb; exact absurd hb e
  | .goto _, kk, ac, L, h, l => by injection h with h; injection h with h1 h2; subst h1; rfl
  | .ret, kk, ac, L, h, l => by injection h with h; injection h with h1 h2; subst h1; rfl
  | .refuse _, kk, ac, L, h, l => by injection h with h; injection h with h1 h2; subst h1; rfl

theorem stepR_inScope {b : Frame} {a : Act} {body : Code} {k : List Item} {cs : List Frame} {w : World} : step P (lone (b.atR a (.inScope body :: k)) cs w) = .next (lone (b.atR a k) cs w) :=
  step_lone_go (by simp [stepG, stepG.exec, Frame.atR])
theorem stepR_scope {b : Frame} {a : Act} {body : Code} {k : List Item} {cs : List Frame} {w : World} : step P (lone (b.atR a (.code (.scope body) :: k)) cs w) = .next (lone (b.atR a (.code body :: .inScope body :: k)) cs w) :=
  step_lone_go (by simp [stepG, stepG.exec, Frame.atR])

/-- an end that is not the normal one passes what stands behind -/
theorem Out.pass {D : Nat → Prop} {θ : Th} {b : Frame} {nt : Nat} {rd : Option Nat} {x : Item} (hx : x.plain = true) {k : List Item} {st : St} {cs : List Frame} {w : World} {m : Machine} {e : AExit} {st' : St} (he : isNormal e = false)
    (h : Out P base D θ b nt rd (x :: k) st cs w m e st') : Out P base D θ b nt rd k st cs w m e st' := by
  obtain ⟨θ', a', w', cs', e', h1, h2, h3, h4, h5, h6⟩ := h
  refine ⟨θ', a', w', cs', e', .pass hx (fun _ _ => .inl ?_) h1, h2, h3, h4, h5, h6⟩
  intro q; subst q
  cases e <;> first | exact h4.elim | cases he

/-- a state that has not turned -/
theorem Out.here {D : Nat → Prop} {θ : Th} {b : Frame} {nt : Nat} {rd : Option Nat} {k : List Item} {st : St} {a : Act} {cs : List Frame} {w : World} {m : Machine} {e : AExit} {e' : Exit} (hS : SR P base D θ b nt rd st a cs w)
    (h1 : ArrivesIn Anyway P m b k cs e' a w) (h2 : exitR D θ e e') : Out P base D θ b nt rd k st cs w m e st :=
  ⟨θ, a, w, cs, e', h1, by rw [Up.none]; exact hS, Grow.refl _ _ _ _, by rw [Up.none]; exact h2, rfl, UpTo.refl hS.up⟩

theorem run_enterLoop_inner {w : World} (fn : FuncId) (tmps : Array Value) (ps : Array Tmp) (as body : Code) {l : Nat} {r : Loop} (h : w.heap[l]? = some (.loop r)) :
    (Instr.enterLoop fn tmps ps as body (some l)).run P w = .ok (w.heap.size, []) (w.alloc (.loop { state := .ready, pending := none, fn, tmps, params := ps, assign := as, body, defers := r.defers })) := by
  unfold Instr.enterLoop
  simp only [Sem.run_bind, run_getLoop h, run_newObj_alloc, Result.andThen, Sem.run_pure]

theorem findLabel_none {nt : Nat} {c : Code} {kk : Nat} {ac : ACode} {L : List ALoop} (h : cCode P nt kk c = some (ac, L)) {l : Nat} (hl : hasLabel ac l = false) : findLabel c l = none := by
  rw [label_R c h l] at hl
  simpa using hl

theorem exit_arrives {b : Frame} {a : Act} {k : List Item} {cs : List Frame} {w : World} (id : Nat) : ArrivesIn Anyway P (lone (b.atR a (.code (.exit id) :: k)) cs w) b k cs (.exit id) a w :=
  ⟨fun _ hk => .one trivial (stepR_exit hk), fun _ hk => ⟨k, hk, .refl _⟩⟩
theorem goto_arrives {b : Frame} {a : Act} {k : List Item} {cs : List Frame} {w : World} (l : Nat) : ArrivesIn Anyway P (lone (b.atR a (.code (.goto l) :: k)) cs w) b k cs (.goto l) a w :=
  ⟨fun _ hk => .one trivial (stepR_goto hk), fun _ hk => ⟨k, hk, .refl _⟩⟩
theorem ret_arrives {b : Frame} {a : Act} {k : List Item} {cs : List Frame} {w : World} : ArrivesIn Anyway P (lone (b.atR a (.code .ret :: k)) cs w) b k cs .ret a w :=
  ⟨fun hn => ⟨_, .one trivial (stepR_ret hn)⟩, fun _ => ⟨k, .refl _⟩⟩

/-- behind a loop over a function: its pending jump -/
theorem jump_arrives {D : Nat → Prop} {θ : Th} {b : Frame} {a : Act} {k : List Item} {cs : List Frame} {w : World} (p : Option AJump) : ∃ e', exitR D θ (exitOf p) e' ∧
    ArrivesIn Anyway P (lone (b.atR a (((p.map jumpR).map Item.code).toList ++ k)) cs w) b k cs e' a w := by
  cases p with
  | none => exact ⟨.normal, trivial, .refl _⟩
  | some j =>
    cases j with
    | exit id => exact ⟨.exit id, rfl, exit_arrives id⟩
    | goto l => exact ⟨.goto l, rfl, goto_arrives l⟩
    | ret => exact ⟨.ret, trivial, ret_arrives⟩

/-- a loop over a function: the loop's record is laid -/
theorem range_sound {call : CallFn} {round : RoundFn} {ctx : Ctx} (hcall : CallSound P base call) {D : Nat → Prop} {θ : Th} {b : Frame} {nt : Nat} {st : St} {a : Act} {cs : List Frame} {w : World} {k : List Item} {H0 : AHeap} {dfs : List ADef} {w0 : World} {mark : List Deferred} {d : Nat}
    (hP : PGood P) {g : Operand} {ps : Array Tmp} {as body : Code} {kk : Nat} {v : AV} {r : AExit × St} {θ0 : Th}
    (h0 : HR P base (Up D st.H.next H0.next) θ0 H0 w0) (g0 : Grow D st.H θ w H0 θ0 w0) (hnx : st.H.next ≤ H0.next) (hS : SR P base D θ b nt ctx.round st a cs w) (hv : VR D θ v (a.eval g)) (hd : Up D st.H.next H0.next d)
    (hdf : dfsR (Up D st.H.next H0.next) θ0 dfs (mark ++ a.defers)) (hloop : LoopAt P ctx.fn kk a.tmps.size ps as body) (hfn : b.fn = ctx.fn)
    (he : (Instr.enterLoop b.fn a.tmps ps as body b.roundOf).run P w = .ok (w0.heap.size, mark) (w0.alloc (.loop { state := .ready, pending := none, fn := b.fn, tmps := a.tmps, params := ps, assign := as, body, defers := θ0.blk d })))
    (hr : rangeA call round ctx st kk H0 dfs d v = some r) (hf : Fresh D st.H.next r.2.H.next) (hm : CallMono call) :
    Out P base D θ b nt ctx.round k st cs w (lone (b.atR a (.code (.rangeFunc g ps as body) :: k)) cs w) r.1 r.2 := by
  unfold rangeA at hr
  split at hr
  · rename_i f first cap
    simp only [enterA, Option.bind_assoc, Option.bind_some, Option.bind_eq_some_iff] at hr
    obtain ⟨⟨e, u, H'⟩, hcl, hr⟩ := hr
    have hmono : H0.next + 1 ≤ H'.next := (hm _ _ _ _ _ _ _ hcl).1
    have hrn : r.2.H.next = H'.next ∧ r.2.dfs = dfs ∧ r.2.tm = st.tm ∧ r.2.up = st.up := by
      unfold endLoopA at hr
      split at hr
      · injection hr with hr; subst hr; exact ⟨rfl, rfl, rfl, rfl⟩
      · split at hr
        · cases hr
        · injection hr with hr; subst hr; exact ⟨rfl, rfl, rfl, rfl⟩
        · cases hr
    rw [hrn.1] at hf
    have hn : ¬ Up D st.H.next H0.next H0.next := fun q => by
      rcases q with q | ⟨_, q⟩
      · exact hf _ hnx (by omega) q
      · omega
    -- the record
    have hag0 := g0.ag
    have hag := Th.add_ag θ0 H0.next w0.heap.size 0 0 hn
    obtain ⟨e1, e2, e3⟩ := Th.add_new θ0 H0.next w0.heap.size 0 0
    have hup1 : ∀ x, D x → Up (Up D st.H.next H0.next) H0.next (H0.next + 1) x := fun x hx => .inl (.inl hx)
    have hDl : Up (Up D st.H.next H0.next) H0.next (H0.next + 1) H0.next := .inr ⟨Nat.le_refl _, Nat.lt_succ_self _⟩
    have hagd : Ag D θ (θ0.add H0.next w0.heap.size 0 0) := hag0.trans hag (fun x hx => .inl hx)
    have hR : ObjR P (Up (Up D st.H.next H0.next) H0.next (H0.next + 1)) (θ0.add H0.next w0.heap.size 0 0) H0.next (.loop .ready none ctx.fn kk st.tm d)
        (.loop { state := .ready, pending := none, fn := b.fn, tmps := a.tmps, params := ps, assign := as, body, defers := θ0.blk d }) :=
      ⟨_, rfl, rfl, rfl, hfn, hS.tms.up hagd hup1, hloop, .inl hd, ((hag d hd).1).symm⟩
    have h1 := h0.alloc hn (w' := w0.alloc (.loop { state := .ready, pending := none, fn := b.fn, tmps := a.tmps, params := ps, assign := as, body, defers := θ0.blk d })) (co := .loop { state := .ready, pending := none, fn := b.fn, tmps := a.tmps, params := ps, assign := as, body, defers := θ0.blk d }) (k := w0.heap.size) (off := 0) (ext := 0) (by rw [alloc_get]; simp)
      (fun j hj => by rw [alloc_get, if_neg (Nat.ne_of_lt hj)]) (Nat.le_refl _) (by simp) hR
    have g1 := Grow.alloc (base := base) h0 hn (.loop .ready none ctx.fn kk st.tm d) (.loop { state := .ready, pending := none, fn := b.fn, tmps := a.tmps, params := ps, assign := as, body, defers := θ0.blk d }) 0 0
    -- the call
    obtain ⟨fi, ci, q3, q4, q5, q6⟩ := fn_inv hv
    have hargs : VRL (Up (Up D st.H.next H0.next) H0.next (H0.next + 1)) (θ0.add H0.next w0.heap.size 0 0) (first ++ (.fn (.yield H0.next) [] [] :: cap)) ((fi.toArray ++ #[Value.func (.yield w0.heap.size) #[] #[]]) ++ ci.toArray).toList := by
      simp only [Array.toList_append, List.append_assoc]
      refine (q4.up hagd hup1).app (.cons (fun θ'' h'' => ?_) (q5.up hagd hup1))
      simp only [conc, concFn, concL]
      rw [(h'' _ hDl).1, e1]
    obtain ⟨⟨fn, c, k1, k2⟩, θ', w', cs', fr, e', s1, s2, s3, s4, s5, s6, s7, s8, s9, s10⟩ := hcall _ _ _ _ f _ ((fi.toArray ++ #[Value.func (.yield w0.heap.size) #[] #[]]) ++ ci.toArray) none H' e u .normal
      (b.atR { a with defers := mark ++ a.defers } (.inRangeFunc w0.heap.size :: k) :: cs) h1 hargs rfl hcl (fun x h3 h4 h5 => by
        rw [Up.up hnx (Nat.le_succ _)] at h5
        rcases h5 with h5 | ⟨_, h5⟩
        · exact hf x (by have : H0.next + 1 ≤ x := h3; omega) h4 h5
        · have : H0.next + 1 ≤ x := h3; omega)
    have hcs : cs' = b.atR { a with defers := mark ++ a.defers } (.inRangeFunc w0.heap.size :: k) :: cs := s9
    subst hcs
    have hstep := stepR_rangeFunc (P := P) (b := b) (a := a) (k := k) (cs := cs) (w := w) (g := g) (l := w0.heap.size) (d := { target := .fn (.func f) ci.toArray, args := fi.toArray ++ #[Value.func (.yield w0.heap.size) #[] #[]] }) he
      (by
      show (Deferred.ofValue (a.eval g) (#[Operand.const (.func (.yield w0.heap.size) #[] #[])].map a.eval)).run P _ = _
      rw [q3]; simp [Deferred.ofValue, concFn, Act.eval]; rfl) (by
        show (callFunc f (_ ++ ci.toArray)).run P _ = _
        exact run_callFunc hP k1 k2)
    have hl := going_leaving s4 s2
    have hupa : Up (Up (Up D st.H.next H0.next) H0.next (H0.next + 1)) (H0.next + 1) H'.next = Up D st.H.next H'.next := by
      rw [Up.up (Nat.le_succ _) hmono, Up.up hnx (by omega)]
    have hnext1 : (H0.alloc (.loop .ready none ctx.fn kk st.tm d)).next = H0.next + 1 := rfl
    rw [hnext1, hupa] at s5 s6 s10
    have gall : Grow D st.H θ w H' θ' w' := (g0.trans g1 Up.of).trans s7 hup1
    have hDup : ∀ x, Up D st.H.next H0.next x → Up D st.H.next H'.next x := fun x hx => by
      rcases hx with hx | ⟨h1, h2⟩
      · exact .inl hx
      · exact .inr ⟨h1, by omega⟩
    have hagf : Ag (Up D st.H.next H0.next) θ0 θ' := hag.trans s7.ag (fun x hx => .inl hx)
    have hSR : ∀ (H'' : AHeap) (w'' : World), HR P base (Up D st.H.next H'.next) θ' H'' w'' → SR P base (Up D st.H.next H'.next) θ' b nt ctx.round { st with dfs := dfs, H := H'' } { a with defers := mark ++ a.defers } cs w'' := fun H'' w'' hh =>
      ⟨hh, hS.tms.up gall.ag Up.of, hS.size, dfsR.up hagf hDup hdf, UpR.up gall.ag Up.of hS.up, RdR.up gall.ag Up.of hS.round⟩
    unfold endLoopA at hr
    cases e with
    | panic ch =>
      injection hr with hr; subst hr
      cases e' with
      | returned _ => exact s5.elim
      | outgrown => exact s5.elim
      | panicked ps' =>
        refine ⟨θ', _, w', cs, .panic ps', ⟨.inRangeFunc w0.heap.size :: k, StepsIn.of_steps (.head hstep (s1.trans (.one (by rw [step_leave_panicked hl, Frame.raise_atR]))))⟩, hSR _ _ s6, gall, s5, rfl, UpTo.refl hS.up⟩
    | ret x =>
      cases e' with
      | panicked _ => exact s5.elim
      | outgrown => exact s5.elim
      | returned cx =>
        have hback : Steps P (lone (b.atR a (.code (.rangeFunc g ps as body) :: k)) cs w) (lone (b.atR { a with defers := mark ++ a.defers } (.endRangeFunc w0.heap.size :: k)) cs w') := by
          exact .head hstep (s1.trans (.one (by rw [step_leave_returned hl, finish_atR_inRangeFunc])))
        simp only at hr
        split at hr
        · cases hr
        · rename_i ls p f2 k2' tm2 d2 hnb hget
          injection hr with hr; subst hr
          obtain ⟨hDl', co, hco, rl, rfl, r1, r2, r3, r4, r5, r6, r7⟩ := s6.obj _ _ hget
          have hblk : θ'.blk H0.next = w0.heap.size := by rw [(s7.ag _ hDl).1, e1]
          rw [hblk] at hco
          have hbusy : rl.state ≠ .busy := by
            intro q; rw [r1] at q
            cases ls with
            | busy => first | exact hnb _ _ _ _ _ rfl | exact hnb rfl | exact hnb
            | ready => cases q
            | done => cases q
            | exhausted => cases q
          have hend := run_endLoop (P := P) hco hbusy
          have hend2 := stepR_endRangeFunc (b := b) (a := { a with defers := mark ++ a.defers }) (k := k) (cs := cs) hend
          have hset := s6.set (o' := .loop .exhausted p f2 k2' tm2 d2) (co' := .loop { rl with state := .exhausted }) hget rfl rfl ⟨_, rfl, rfl, r2, r3, r4, r5, r6, r7⟩
          rw [hblk] at hset
          have gset : Grow (Up D st.H.next H'.next) H' θ' w' (H'.set H0.next (.loop .exhausted p f2 k2' tm2 d2)) θ' (wset w' (θ'.blk H0.next) (.loop { rl with state := .exhausted })) := Grow.set hget rfl (s6.lt hget)
          rw [hblk] at gset
          obtain ⟨e'', k3, k4⟩ := jump_arrives (P := P) (D := Up D st.H.next H'.next) (θ := θ') (b := b) (a := { a with defers := mark ++ a.defers }) (k := k) (cs := cs) (w := wset w' w0.heap.size (.loop { rl with state := .exhausted })) p
          rw [← r2] at k4
          exact ⟨θ', _, _, cs, e'', .of_steps (StepsIn.of_steps (hback.trans (.one hend2))) k4, hSR _ _ hset, gall.trans gset Up.of, k3, rfl, UpTo.refl hS.up⟩
        · cases hr
  · cases hr

theorem Out.normal {D : Nat → Prop} {θ : Th} {b : Frame} {nt : Nat} {rd : Option Nat} {k : List Item} {st : St} {cs : List Frame} {w : World} {m : Machine} {st' : St} (h : Out P base D θ b nt rd k st cs w m .normal st') :
    ∃ θ' a' w' cs', Steps P m (lone (b.atR a' k) cs' w') ∧ SR P base (Up D st.H.next st'.H.next) θ' b nt rd st' a' cs' w' ∧ Grow D st.H θ w st'.H θ' w' ∧ st'.up.isSome = st.up.isSome ∧ UpTo st.up cs cs' := by
  obtain ⟨θ', a', w', cs', e', h1, h2, h3, h4, h5, h6⟩ := h
  cases e' <;> first | exact ⟨θ', a', w', cs', StepsIn.steps h1, h2, h3, h5, h6⟩ | exact h4.elim

/-- a step ahead -/
theorem Out.head {D : Nat → Prop} {θ : Th} {b : Frame} {nt : Nat} {rd : Option Nat} {k : List Item} {st : St} {cs : List Frame} {w : World} {m m1 : Machine} {e : AExit} {st' : St} (hs : step P m = .next m1)
    (h : Out P base D θ b nt rd k st cs w m1 e st') : Out P base D θ b nt rd k st cs w m e st' := by
  obtain ⟨θ', a', w', cs', e', h1, h2, h3, h4, h5, h6⟩ := h
  exact ⟨θ', a', w', cs', e', .of_steps (StepsIn.one trivial hs) h1, h2, h3, h4, h5, h6⟩

theorem exitTo_inBlock (id id' : Nat) (k : List Item) : exitTo id' (.inBlock id :: k) = if id = id' then some k else exitTo id' k := by
  simp [exitTo]
theorem exitTo_inScope (id : Nat) (c : Code) (k : List Item) : exitTo id (.inScope c :: k) = exitTo id k := rfl

theorem nth_app {α : Type} (a b : List α) (i : Nat) : nth (a ++ b) i = if i < a.length then nth a i else nth b (i - a.length) := by
  simp only [nth_eq, List.getElem?_append]

set_option maxHeartbeats 1000000 in
/-- CODE -/
theorem code_sound (hP : PGood P) {rt : RT} (hcall : CallSound P base rt.call) (hround : RoundSound P base rt.round) (hAP : rt.AP = cProg P) (hcm : CallMono rt.call) (hrm : RoundMono rt.round) (hdraw : DrawSound P base rt)
    {fn : Func} {af : AFunc} (hfn : P.funcs[rt.ctx.fn]? = some fn) (haf : cFunc P fn = some af) : ∀ (c : Code) {kk : Nat} {ac : ACode} {L : List ALoop}, cCode P fn.ntmps kk c = some (ac, L) → (∀ i l, nth L i = some l → nth af.loops (kk + i) = some l) →
    ∀ {D : Nat → Prop} {θ : Th} {b : Frame} {k : List Item} {st : St} {a : Act} {cs : List Frame} {w : World} {r : AExit × St}, SR P base D θ b fn.ntmps rt.ctx.round st a cs w → b.fn = rt.ctx.fn → (codeC ac).run rt st = some r →
      Fresh D st.H.next r.2.H.next → Out P base D θ b fn.ntmps rt.ctx.round k st cs w (lone (b.atR a (.code c :: k)) cs w) r.1 r.2
  | .skip, kk, ac, L, h, hL, D, θ, b, k, st, a, cs, w, r, hS, hb, hr, hf => by
    injection h with h; injection h with h1 h2; subst h1
    injection hr with hr; subst hr
    exact .here hS (e' := .normal) (StepsIn.one trivial stepR_skip) trivial
  | .label _, kk, ac, L, h, hL, D, θ, b, k, st, a, cs, w, r, hS, hb, hr, hf => by
    injection h with h; injection h with h1 h2; subst h1
    injection hr with hr; subst hr
    exact .here hS (e' := .normal) (StepsIn.one trivial stepR_label) trivial
  | .exit id, kk, ac, L, h, hL, D, θ, b, k, st, a, cs, w, r, hS, hb, hr, hf => by
    injection h with h; injection h with h1 h2; subst h1
    injection hr with hr; subst hr
    exact .here hS (exit_arrives id) rfl
  | .goto l, kk, ac, L, h, hL, D, θ, b, k, st, a, cs, w, r, hS, hb, hr, hf => by
    injection h with h; injection h with h1 h2; subst h1
    injection hr with hr; subst hr
    exact .here hS (goto_arrives l) rfl
  | .ret, kk, ac, L, h, hL, D, θ, b, k, st, a, cs, w, r, hS, hb, hr, hf => by
    injection h with h; injection h with h1 h2; subst h1
    injection hr with hr; subst hr
    exact .here hS ret_arrives trivial
  | .refuse _, kk, ac, L, h, hL, D, θ, b, k, st, a, cs, w, r, hS, hb, hr, hf => by
    injection h with h; injection h with h1 h2; subst h1
    cases hr
  | .region id ops draw, kk, ac, L, h, hL, D, θ, b, k, st, a, cs, w, r, hS, hb, hr, hf => by
    simp only [cCode, Option.bind_eq_some_iff, Option.some.injEq, Prod.mk.injEq] at h
    obtain ⟨c, hc, rfl, rfl⟩ := h
    cases draw with
    | false =>
      obtain ⟨l, steps, h1, h2, h3, rfl⟩ := region_run hc
      exact .head stepR_region (seq_region hP hcall hround hAP hcm hrm h1 h2 _ h3 hS hr hf)
    | true => exact hdraw _ id ops c hc D θ b k st a cs w r hS hr hf
  | .seq x y, kk, ac, L, h, hL, D, θ, b, k, st, a, cs, w, r, hS, hb, hr, hf => by
    simp only [cCode, Option.bind_eq_some_iff, Option.some.injEq, Prod.mk.injEq] at h
    obtain ⟨⟨ax, lx⟩, hx, ⟨ay, ly⟩, hy, rfl, rfl⟩ := h
    simp only [codeC, Option.bind_eq_some_iff] at hr
    obtain ⟨⟨e, st1⟩, hq, hr⟩ := hr
    have hmy := (code_mono hP y hy).1
    have hmx := codeC_mono hcm hrm (code_mono hP x hx).1 hq
    have hLx : ∀ i l, nth lx i = some l → nth af.loops (kk + i) = some l := fun i l hl => hL i l (by
      rw [nth_app, if_pos]
      · exact hl
      · rw [nth_eq] at hl; exact (List.getElem?_eq_some_iff.1 hl).1)
    have hLy : ∀ i l, nth ly i = some l → nth af.loops (kk + lx.length + i) = some l := fun i l hl => by
      rw [Nat.add_assoc]
      exact hL (lx.length + i) l (by
        show nth (lx ++ ly) (lx.length + i) = _
        rw [nth_app, if_neg (by omega), Nat.add_sub_cancel_left]; exact hl)
    refine .head stepR_seq ?_
    by_cases he : e = .normal
    · subst he
      simp only [seqK] at hr
      have hmono := codeC_mono hcm hrm hmy hr
      obtain ⟨θ', a', w', cs', h1, h2, h3, h4, h5⟩ := (code_sound hP hcall hround hAP hcm hrm hdraw hfn haf x hx hLx (k := .code y :: k) hS hb hq (hf.left hmono)).normal
      exact Out.after h1 h3 h4 h5 hmono (code_sound hP hcall hround hAP hcm hrm hdraw hfn haf y hy hLy h2 hb hr (hf.right hmx))
    · have hn : isNormal e = false := by cases e <;> first | rfl | exact absurd rfl he
      have hr' : r = (e, st1) := by
        cases e <;> first | exact absurd rfl he | (injection hr with hr; exact hr.symm)
      subst hr'
      exact Out.pass (x := .code y) rfl hn (code_sound hP hcall hround hAP hcm hrm hdraw hfn haf x hx hLx hS hb hq hf)
  | .cond c x y, kk, ac, L, h, hL, D, θ, b, k, st, a, cs, w, r, hS, hb, hr, hf => by
    simp only [cCode, Option.bind_eq_some_iff, Option.some.injEq, Prod.mk.injEq] at h
    obtain ⟨cc, hcc, ⟨ax, lx⟩, hx, ⟨ay, ly⟩, hy, rfl, rfl⟩ := h
    simp only [codeC, Option.bind_eq_some_iff] at hr
    obtain ⟨v, hv, hr⟩ := hr
    rw [evC_run] at hv
    have hvr := evO_R (a := a) hS.heap hS.tms hcc hv
    have hLx : ∀ i l, nth lx i = some l → nth af.loops (kk + i) = some l := fun i l hl => hL i l (by
      rw [nth_app, if_pos]
      · exact hl
      · rw [nth_eq] at hl; exact (List.getElem?_eq_some_iff.1 hl).1)
    have hLy : ∀ i l, nth ly i = some l → nth af.loops (kk + lx.length + i) = some l := fun i l hl => by
      rw [Nat.add_assoc]
      exact hL (lx.length + i) l (by
        show nth (lx ++ ly) (lx.length + i) = _
        rw [nth_app, if_neg (by omega), Nat.add_sub_cancel_left]; exact hl)
    unfold condK at hr
    split at hr
    · rename_i q
      refine .head (stepR_cond hvr.now.symm) ?_
      cases q with
      | true => exact code_sound hP hcall hround hAP hcm hrm hdraw hfn haf x hx hLx hS hb hr hf
      | false => exact code_sound hP hcall hround hAP hcm hrm hdraw hfn haf y hy hLy hS hb hr hf
    · cases hr
  | .block id x, kk, ac, L, h, hL, D, θ, b, k, st, a, cs, w, r, hS, hb, hr, hf => by
    simp only [cCode, Option.bind_eq_some_iff, Option.some.injEq, Prod.mk.injEq] at h
    obtain ⟨⟨ax, lx⟩, hx, rfl, rfl⟩ := h
    simp only [codeC, Option.bind_eq_some_iff] at hr
    obtain ⟨⟨e, st1⟩, hq, hr⟩ := hr
    have hst : r.2 = st1 := by
      unfold blockK at hr
      split at hr <;> (injection hr with hr; subst hr; rfl)
    obtain ⟨θ', a', w', cs', e', h1, h2, h3, h4, h5, h6⟩ := code_sound hP hcall hround hAP hcm hrm hdraw hfn haf x hx hL (k := .inBlock id :: k) hS hb hq (hst ▸ hf)
    refine .head stepR_block ?_
    rw [hst]
    unfold blockK at hr
    cases e with
    | normal =>
      injection hr with hr; subst hr
      cases e' <;> try exact h4.elim
      exact ⟨θ', a', w', cs', .normal, StepsIn.trans h1 (.one trivial stepR_inBlock), h2, h3, trivial, h5, h6⟩
    | exit id' =>
      injection hr with hr; subst hr
      cases e' <;> try exact h4.elim
      rename_i j
      have h4 : j = id' := h4
      subst h4
      cases hbq : Nat.beq id j with
      | true =>
        simp only [Nat.beq_eq] at hbq; subst hbq
        exact ⟨θ', a', w', cs', .normal, h1.1 k (by rw [exitTo_inBlock, if_pos rfl]), h2, h3, trivial, h5, h6⟩
      | false =>
        have hne : ¬ id = j := by intro q; subst q; simp at hbq
        have hx : exitTo j (.inBlock id :: k) = exitTo j k := by rw [exitTo_inBlock, if_neg hne]
        exact ⟨θ', a', w', cs', .exit j, ⟨fun k' hk => h1.1 k' (by rw [hx]; exact hk), fun hr hk => h1.2 hr (by rw [hx]; exact hk)⟩, h2, h3, rfl, h5, h6⟩
    | goto l =>
      injection hr with hr; subst hr
      cases e' <;> try exact h4.elim
      rename_i j
      have hx : gotoIn j (.inBlock id :: k) = gotoIn j k := rfl
      exact ⟨θ', a', w', cs', .goto j, ⟨fun k' hk => h1.1 k' (by rw [hx]; exact hk), fun hr hk => h1.2 hr (by rw [hx]; exact hk)⟩, h2, h3, h4, h5, h6⟩
    | ret =>
      injection hr with hr; subst hr
      cases e' <;> try exact h4.elim
      exact ⟨θ', a', w', cs', .ret, h1, h2, h3, trivial, h5, h6⟩
    | panic ch =>
      injection hr with hr; subst hr
      cases e' <;> try exact h4.elim
      rename_i ps
      exact ⟨θ', a', w', cs', .panic ps, h1, h2, h3, h4, h5, h6⟩
  | .scope x, kk, ac, L, h, hL, D, θ, b, k, st, a, cs, w, r, hS, hb, hr, hf => by
    simp only [cCode, Option.bind_eq_some_iff, Option.some.injEq, Prod.mk.injEq] at h
    obtain ⟨⟨ax, lx⟩, hx, rfl, rfl⟩ := h
    simp only [codeC, Option.bind_eq_some_iff] at hr
    obtain ⟨⟨e, st1⟩, hq, hr⟩ := hr
    have hst : r = (e, st1) ∧ ∀ l, e = .goto l → hasLabel ax l = false := by
      unfold scopeK at hr
      split at hr
      · rename_i l he
        simp only at he
        rcases cond_some hr with ⟨_, hr⟩ | ⟨hl, hr⟩
        · cases hr
        · injection hr with hr; subst he; exact ⟨hr.symm, fun l' h' => by injection h' with h'; subst h'; exact hl⟩
      · rename_i hne
        injection hr with hr; exact ⟨hr.symm, fun l' h' => (hne l' h').elim⟩
    obtain ⟨rfl, hlab⟩ := hst
    obtain ⟨θ', a', w', cs', e', h1, h2, h3, h4, h5, h6⟩ := code_sound hP hcall hround hAP hcm hrm hdraw hfn haf x hx hL (k := .inScope x :: k) hS hb hq hf
    refine .head stepR_scope ?_
    cases e with
    | normal =>
      cases e' <;> try exact h4.elim
      exact ⟨θ', a', w', cs', .normal, StepsIn.trans h1 (.one trivial stepR_inScope), h2, h3, trivial, h5, h6⟩
    | exit id' =>
      cases e' <;> try exact h4.elim
      rename_i j
      have hx : exitTo j (.inScope x :: k) = exitTo j k := rfl
      exact ⟨θ', a', w', cs', .exit j, ⟨fun k' hk => h1.1 k' (by rw [hx]; exact hk), fun hr hk => h1.2 hr (by rw [hx]; exact hk)⟩, h2, h3, h4, h5, h6⟩
    | goto l =>
      cases e' <;> try exact h4.elim
      rename_i j
      have h4 : j = l := h4
      subst h4
      have hfl := findLabel_none hx (hlab j rfl)
      have hg : gotoIn j (.inScope x :: k) = gotoIn j k := by simp [gotoIn, hfl]
      exact ⟨θ', a', w', cs', .goto j, ⟨fun k' hk => h1.1 k' (by rw [hg]; exact hk), fun hr hk => h1.2 hr (by rw [hg]; exact hk)⟩, h2, h3, rfl, h5, h6⟩
    | ret =>
      cases e' <;> try exact h4.elim
      exact ⟨θ', a', w', cs', .ret, h1, h2, h3, trivial, h5, h6⟩
    | panic ch =>
      cases e' <;> try exact h4.elim
      rename_i ps
      exact ⟨θ', a', w', cs', .panic ps, h1, h2, h3, h4, h5, h6⟩
  | .loop x, kk, ac, L, h, hL, D, θ, b, k, st, a, cs, w, r, hS, hb, hr, hf => by
    simp only [cCode, Option.bind_eq_some_iff, Option.some.injEq, Prod.mk.injEq] at h
    obtain ⟨⟨ax, lx⟩, hx, rfl, rfl⟩ := h
    simp only [codeC] at hr
    refine .head stepR_loop ?_
    have hmx := (code_mono hP x hx).1
    have key : ∀ (n : Nat) (D : Nat → Prop) (θ : Th) (st : St) (a : Act) (cs : List Frame) (w : World) (r : AExit × St), SR P base D θ b fn.ntmps rt.ctx.round st a cs w → loopN none ((codeC ax).run rt) n st = some r → Fresh D st.H.next r.2.H.next →
        Out P base D θ b fn.ntmps rt.ctx.round k st cs w (lone (b.atR a (.code x :: .inLoop x :: k)) cs w) r.1 r.2 := by
      intro n
      induction n with
      | zero => intro D θ st a cs w r _ hr _; cases hr
      | succ n ih =>
        intro D θ st a cs w r hS hr hf
        simp only [loopN, Option.bind_eq_some_iff] at hr
        obtain ⟨⟨e, st1⟩, hq, hr⟩ := hr
        have hm1 := codeC_mono hcm hrm hmx hq
        by_cases he : e = .normal
        · subst he
          simp only at hr
          have hmono := loopN_mono (fun st r h => codeC_ext hcm hrm hmx h) none n _ _ hr
          obtain ⟨θ', a', w', cs', h1, h2, h3, h4, h5⟩ := (code_sound hP hcall hround hAP hcm hrm hdraw hfn haf x hx hL (k := .inLoop x :: k) hS hb hq (hf.left hmono)).normal
          exact Out.after (h1.trans (.one stepR_inLoop)) h3 h4 h5 hmono (ih _ θ' st1 a' cs' w' r h2 hr (hf.right hm1))
        · have hn : isNormal e = false := by cases e <;> first | rfl | exact absurd rfl he
          have hr' : r = (e, st1) := by
            cases e <;> first | exact absurd rfl he | (injection hr with hr; exact hr.symm)
          subst hr'
          exact Out.pass (x := .inLoop x) rfl hn (code_sound hP hcall hround hAP hcm hrm hdraw hfn haf x hx hL hS hb hq hf)
    exact key _ D θ st a cs w r hS hr hf
  | .rangeFunc g ps x y, kk, ac, L, h, hL, D, θ, b, k, st, a, cs, w, r, hS, hb, hr, hf => by
    simp only [cCode, Option.bind_eq_some_iff] at h
    obtain ⟨cg, hcg, ⟨ax, lx⟩, hx, ⟨ay, ly⟩, hy, h⟩ := h
    split at h
    · rename_i hps
      have hps : ∀ p ∈ ps.toList, p < fn.ntmps := fun p hp => by
        rw [List.all_eq_true] at hps
        simpa [Nat.blt_eq] using hps p hp
      injection h with h; injection h with h1 h2; subst h1; subst h2
      simp only [codeC, Option.bind_eq_some_iff] at hr
      obtain ⟨v, hv, hr⟩ := hr
      rw [evC_run] at hv
      have hvr := evO_R (a := a) hS.heap hS.tms hcg hv
      have hloop : LoopAt P rt.ctx.fn kk a.tmps.size ps x y := by
        refine ⟨fn, af, _, kk + 1, kk + 1 + lx.length, lx, ly, hfn, haf, hL 0 _ rfl, rfl, hps, hS.size, hx, fun i l hl => ?_, hy, fun i l hl => ?_⟩
        · rw [Nat.add_assoc]
          refine hL (1 + i) l ?_
          rw [Nat.add_comm 1 i, nth_eq, List.getElem?_cons_succ, ← nth_eq, nth_app, if_pos]
          · exact hl
          · rw [nth_eq] at hl; exact (List.getElem?_eq_some_iff.1 hl).1
        · rw [Nat.add_assoc, Nat.add_assoc]
          refine hL (1 + (lx.length + i)) l ?_
          rw [Nat.add_comm 1 _, nth_eq, List.getElem?_cons_succ, ← nth_eq]
          show nth (lx ++ ly) (lx.length + i) = _
          rw [nth_app, if_neg (by omega), Nat.add_sub_cancel_left]
          exact hl
      unfold rangeK at hr
      split at hr
      · rename_i hnone
        have hro : b.roundOf = none := by have := hS.round; rw [hnone] at this; exact this
        have hmono : st.H.next + 1 ≤ r.2.H.next := by
          have : (st.H.alloc (.deferred (some []))).next ≤ r.2.H.next := rangeA_mono (st := { st with H := st.H.alloc (.deferred (some [])) }) hcm (Ext.refl _) hr
          exact this
        have hn : ¬ D st.H.next := hf _ (Nat.le_refl _) hmono
        have hag := Th.add_ag θ st.H.next w.heap.size 0 0 hn
        obtain ⟨e1, e2, e3⟩ := Th.add_new θ st.H.next w.heap.size 0 0
        have hDn : Up D st.H.next (st.H.next + 1) st.H.next := .inr ⟨Nat.le_refl _, Nat.lt_succ_self _⟩
        have h0 := hS.heap.alloc hn (w' := w.alloc (.deferred (some []))) (co := .deferred (some [])) (o := .deferred (some [])) (k := w.heap.size) (off := 0) (ext := 0) (by rw [alloc_get]; simp)
          (fun j hj => by rw [alloc_get, if_neg (Nat.ne_of_lt hj)]) (Nat.le_refl _) (by simp) ⟨some [], rfl, rfl, rfl⟩
        have g0 := Grow.alloc (base := base) hS.heap hn (.deferred (some [])) (.deferred (some [])) 0 0
        refine range_sound hcall hP (H0 := st.H.alloc (.deferred (some []))) (dfs := .coll st.H.next :: st.dfs) (d := st.H.next) (mark := [{ target := .collected w.heap.size, args := #[] }]) h0 g0 (Nat.le_succ _) hS hvr hDn ⟨⟨hDn, by rw [e1]⟩, dfsR.up hag Up.of hS.dfs⟩ hloop hb ?_ hr hf hcm
        rw [hro, run_enterLoop_outer, e1]
        simp
      · rename_i l hl
        simp only [Option.bind_eq_some_iff] at hr
        obtain ⟨d, hd, hr⟩ := hr
        unfold loopD at hd
        split at hd
        · rename_i f2 k2 tm2 d2 hget
          injection hd with hd; subst hd
          obtain ⟨hDl, co, hco, rl, rfl, r1, r2, r3, r4, r5, r6, r7⟩ := hS.heap.obj _ _ hget
          have hro : b.roundOf = some (θ.blk l) := by have := hS.round; rw [hl] at this; exact this.2
          refine range_sound hcall hP (mark := []) (d := d2) (by rw [Up.none]; exact hS.heap) (Grow.refl _ _ _ _) (Nat.le_refl _) hS hvr (by rw [Up.none]; exact r6) (by rw [Up.none]; exact hS.dfs) hloop hb ?_ hr hf hcm
          rw [hro, run_enterLoop_inner _ _ _ _ _ hco, r7]
        · cases hd
    · cases h
end
end Go.Am
