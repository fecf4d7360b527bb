/- ONE OPERATION: what the machine makes of it the model makes of it. -/
import Derived.Test.YtjhjdlebhljcaaaGreatDoorAmStep
namespace Go.Am
set_option linter.unusedVariables false
set_option linter.unusedSimpArgs false

/-! ### the model's machine at an operation -/
section moves
variable {P : Program} {b : Frame} {a : Act} {k : List Item} {cs cs' : List Frame} {w w' : World} {ops : Array Oper} {i : Nat} {rest : List Nat} {o : Oper}

theorem at_fin (ho : ops[i]? = some o) (v : Value) : (b.atR a (.inRegion ops (i :: rest) :: k)).finish v = b.atR (a.put o.dst v) (.inRegion ops rest :: k) := by
  rw [Frame.finish_atR, ho]; rfl
theorem at_value (ho : ops[i]? = some o) (hw : Region.wanted o (yielded ops a.tmps) = true) {v : Value} (hr : (o.semAt b.roundOf a.eval).run P w = .ok (.value v) w') :
    step P (lone (b.atR a (.inRegion ops (i :: rest) :: k)) cs w) = .next (lone (b.atR (a.put o.dst v) (.inRegion ops rest :: k)) cs w') :=
  step_lone_go (by rw [stepGR_op ho hw, ← at_fin ho]; simp [stepG.apply, hr])
theorem at_skip (ho : ops[i]? = some o) (hw : Region.wanted o (yielded ops a.tmps) = true) (hr : (o.semAt b.roundOf a.eval).run P w = .ok .skip w') :
    step P (lone (b.atR a (.inRegion ops (i :: rest) :: k)) cs w) = .next (lone (b.atR (a.put o.dst undef) (.inRegion ops rest :: k)) cs w') :=
  step_lone_go (by rw [stepGR_op ho hw, ← at_fin ho]; simp [stepG.apply, hr])
theorem at_defer (ho : ops[i]? = some o) (hw : Region.wanted o (yielded ops a.tmps) = true) {d : Deferred} (hr : (o.semAt b.roundOf a.eval).run P w = .ok (.defer d) w') :
    step P (lone (b.atR a (.inRegion ops (i :: rest) :: k)) cs w) = .next (lone (b.atR (({ a with defers := d :: a.defers } : Act).put o.dst undef) (.inRegion ops rest :: k)) cs w') := by
  refine step_lone_go ?_
  have : ({ b.atR a (.inRegion ops (i :: rest) :: k) with defers := d :: a.defers } : Frame).finish undef =
      b.atR ({ a with defers := d :: a.defers }.put o.dst undef) (.inRegion ops rest :: k) := by
    have := Frame.finish_atR b { a with defers := d :: a.defers } ops i rest k undef
    rw [ho] at this; exact this
  rw [stepGR_op ho hw]; simp only [stepG.apply, Sem.runT_eq, hr, GStep.bare_after]
  exact congrArg (fun fr => GStep.go { frame := fr, callers := cs, status := .running, dying := none } w') this
theorem at_enter (ho : ops[i]? = some o) (hw : Region.wanted o (yielded ops a.tmps) = true) {f : FuncId} {args : Array Value} (hr : (o.semAt b.roundOf a.eval).run P w = .ok (.enter f args) w') :
    step P (lone (b.atR a (.inRegion ops (i :: rest) :: k)) cs w) = .next (lone (Frame.enter P f args .normal) (b.atR a (.inRegion ops (i :: rest) :: k) :: cs) w') :=
  step_lone_go (by rw [stepGR_op ho hw]; simp [stepG.apply, hr, Frame.atR])
theorem at_round (ho : ops[i]? = some o) (hw : Region.wanted o (yielded ops a.tmps) = true) {l : Nat} {f : FuncId} {tmps : Array Value} {as body : Code} (hr : (o.semAt b.roundOf a.eval).run P w = .ok (.round l f tmps as body) w') :
    step P (lone (b.atR a (.inRegion ops (i :: rest) :: k)) cs w) = .next (lone (Frame.round l f tmps as body .normal) (b.atR a (.inRegion ops (i :: rest) :: k) :: cs) w') :=
  step_lone_go (by rw [stepGR_op ho hw]; simp [stepG.apply, hr, Frame.atR])
theorem at_panic (ho : ops[i]? = some o) (hw : Region.wanted o (yielded ops a.tmps) = true) {v : Value} (hr : (o.semAt b.roundOf a.eval).run P w = .halt (.panic v) w') :
    step P (lone (b.atR a (.inRegion ops (i :: rest) :: k)) cs w) = .next (lone { b.atR a (.inRegion ops (i :: rest) :: k) with mode := .panicking [{ v, recovered := false }] } cs w') :=
  step_lone_go (by rw [stepGR_op ho hw, ← Frame.raise_atR]; simp [stepG.apply, hr])
theorem at_recover (ho : ops[i]? = some o) (hw : Region.wanted o (yielded ops a.tmps) = true) (hb : b.roundOf = none) (hr : (o.semAt b.roundOf a.eval).run P w = .ok .recover w') {v : Value}
    (ht : tryRecover (b.atR a (.inRegion ops (i :: rest) :: k)) cs = some (v, cs')) :
    step P (lone (b.atR a (.inRegion ops (i :: rest) :: k)) cs w) = .next (lone (b.atR (a.put o.dst v) (.inRegion ops rest :: k)) cs' w') :=
  step_lone_go (by
    rw [stepGR_op ho hw, ← at_fin ho]
    have hb' : (b.atR a (.inRegion ops (i :: rest) :: k)).roundOf = none := hb
    simp [stepG.apply, hr, hb', ht])
theorem at_recover_none (ho : ops[i]? = some o) (hw : Region.wanted o (yielded ops a.tmps) = true) (hb : b.roundOf = none) (hr : (o.semAt b.roundOf a.eval).run P w = .ok .recover w')
    (ht : tryRecover (b.atR a (.inRegion ops (i :: rest) :: k)) cs = none) :
    step P (lone (b.atR a (.inRegion ops (i :: rest) :: k)) cs w) = .next (lone (b.atR (a.put o.dst .nilIface) (.inRegion ops rest :: k)) cs w') :=
  step_lone_go (by
    rw [stepGR_op ho hw, ← at_fin ho]
    have hb' : (b.atR a (.inRegion ops (i :: rest) :: k)).roundOf = none := hb
    simp [stepG.apply, hr, hb', ht])
end moves

/-! ### what is asked of calls and rounds -/
def CallSound (P : Program) (base : Nat) (call : CallFn) : Prop :=
  ∀ (D : Nat → Prop) θ H w f vs (args : Array Value) up H' e up' kind cs, HR P base D θ H w → VRL D θ vs args.toList → UpR D θ kind up cs → call f vs up H = some (e, up', H') → Fresh D H.next H'.next →
    (∃ fn c, P.funcs[f]? = some fn ∧ fn.body = some c) ∧
    ∃ θ' w' cs' fr e', Steps P (lone (Frame.enter P f args kind) cs w) (lone fr cs' w') ∧ fr.kind = kind ∧ fr.fn = f ∧ fr.going P w' e' ∧ endR (Up D H.next H'.next) θ' e e' ∧
      HR P base (Up D H.next H'.next) θ' H' w' ∧ Grow D H θ w H' θ' w' ∧ up'.isSome = up.isSome ∧ UpTo up cs cs' ∧ UpR (Up D H.next H'.next) θ' kind up' cs'

def RoundSound (P : Program) (base : Nat) (round : RoundFn) : Prop :=
  ∀ (D : Nat → Prop) θ H w l vs (args : Array Value) H' e (c : Frame) cs, HR P base D θ H w → VRL D θ vs args.toList → round vs l H = some (e, H') → Fresh D H.next H'.next →
    ∃ f tmps as body, (Instr.yield (θ.blk l) args).run P w = .ok (.round (θ.blk l) f tmps as body) w ∧
    ∃ θ' w' fin, Steps P (lone (Frame.round (θ.blk l) f tmps as body .normal) (c :: cs) w) (lone fin cs w') ∧
      (match e with
        | .ret v => ∃ cv, VR (Up D H.next H'.next) θ' v cv ∧ fin = c.finish cv
        | .panic ch => ∃ ps, ch ≠ [] ∧ chainR (Up D H.next H'.next) θ' ch ps ∧ fin = c.raise ps) ∧
      HR P base (Up D H.next H'.next) θ' H' w' ∧ Grow D H θ w H' θ' w'

def OpRes.heap : OpRes → AHeap
  | .val _ _ _ H => H
  | .panic _ H => H

/-- what the model comes to -/
def OpOut (P : Program) (base : Nat) (D : Nat → Prop) (θ : Th) (st : St) (b : Frame) (a : Act) (ops : Array Oper) (i : Nat) (rest : List Nat) (k : List Item) (cs : List Frame) (w : World) (o : Oper) : OpRes → Prop
  | .val v dfs up H' => ∃ θ' w' c cs' ds, Steps P (lone (b.atR a (.inRegion ops (i :: rest) :: k)) cs w) (lone (b.atR (({ a with defers := ds } : Act).put o.dst c) (.inRegion ops rest :: k)) cs' w') ∧
      HR P base (Up D st.H.next H'.next) θ' H' w' ∧ Grow D st.H θ w H' θ' w' ∧ VR (Up D st.H.next H'.next) θ' v c ∧ dfsR (Up D st.H.next H'.next) θ' dfs ds ∧ up.isSome = st.up.isSome ∧
      UpR (Up D st.H.next H'.next) θ' b.kind up cs' ∧ UpTo st.up cs cs'
  | .panic ch H' => ∃ θ' w' ps todo, Steps P (lone (b.atR a (.inRegion ops (i :: rest) :: k)) cs w) (lone { b.atR a todo with mode := .panicking ps } cs w') ∧
      HR P base (Up D st.H.next H'.next) θ' H' w' ∧ Grow D st.H θ w H' θ' w' ∧ ch ≠ [] ∧ chainR (Up D st.H.next H'.next) θ' ch ps

section
variable {P : Program} {base : Nat} {D : Nat → Prop} {θ : Th}

theorem going_leaving {fr : Frame} {w : World} {e : Ending} (h : fr.going P w e) (hk : fr.kind = .normal) : fr.leaving P w e := by
  cases e with
  | returned v => obtain ⟨h1, h2, h3⟩ := h; exact ⟨h1, h2, hk, h3⟩
  | panicked c => exact h
  | outgrown => trivial

theorem run_callFunc {f : FuncId} {fn : Func} {c : Code} {args : Array Value} {w : World} (hP : PGood P) (hf : P.funcs[f]? = some fn) (hb : fn.body = some c) : (callFunc f args).run P w = .ok (.enter f args) w := by
  simp [callFunc, hf, hb, hP.names f fn hf]

theorem run_method {t : TypeId} {name : String} {f : Nat} (h : cMeth P t name = some f) (v : Value) (w : World) : (method (P.types.size + Made.depth) t v name).run P w = .ok (f, v) w := by
  unfold cMeth at h
  simp only [Option.bind_eq_some_iff] at h
  obtain ⟨i, hi, m, hm, h⟩ := h
  split at h
  · cases h
  · rename_i hpe
    simp only [Option.bind_eq_some_iff] at h
    obtain ⟨p, hp, h⟩ := h
    have hpath : m.path.toList = [] := by
      have : m.path.isEmpty = true := by simpa using hpe
      simpa using this
    obtain ⟨n, hn⟩ : ∃ n, P.types.size + Made.depth = n + 1 := ⟨P.types.size + 99, rfl⟩
    rw [hn]
    obtain ⟨pf, pr⟩ := p
    have hinfo : (typeInfo t).run P w = .ok i w := by simp [typeInfo, hi]
    simp only [method, Sem.run_bind, hinfo, Result.andThen_ok, hm, hpath, follow, Sem.run_pure, hp]
    cases hu : P.underlying t with
    | none => rw [hu] at h; cases h
    | some d =>
      rw [hu] at h
      have hr : ∀ wr, d = d → (receiverAt t (.val v) pr wr).run P w = .ok v w ∧ pf = f := by
        intro wr _
        cases d <;> cases pr <;> simp only [reduceCtorEq, Option.some.injEq] at h <;> exact ⟨by simp [receiverAt, run_und hu, Place.get], h⟩
      simp [(hr _ rfl).1, (hr none rfl).2]

/-- a call made by an operation -/
theorem enter_sound {call : CallFn} (hc : CallSound P base call) {st : St} {b : Frame} {a : Act} {ops : Array Oper} {i : Nat} {rest : List Nat} {k : List Item} {cs : List Frame} {w : World} {o : Oper}
    (ho : ops[i]? = some o) (hh : HR P base D θ st.H w) (hd : dfsR D θ st.dfs a.defers) (hu : UpR D θ b.kind st.up cs) {f : Nat} {vs : List AV} {args : Array Value} (hv : VRL D θ vs args.toList)
    (hs : (∃ fn c, P.funcs[f]? = some fn ∧ fn.body = some c) → step P (lone (b.atR a (.inRegion ops (i :: rest) :: k)) cs w) = .next (lone (Frame.enter P f args .normal) (b.atR a (.inRegion ops (i :: rest) :: k) :: cs) w))
    {r : AEnd × AHeap} {u : Option Chain} (hr : call f vs none st.H = some (r.1, u, r.2)) (hf : Fresh D st.H.next r.2.next) :
    OpOut P base D θ st b a ops i rest k cs w o (resOf st.dfs st.up r) := by
  obtain ⟨hfn, θ', w', cs', fr, e', g1, g2, g3, g4, g5, g6, g7, g8, g9, g10⟩ := hc D θ st.H w f vs args none r.2 r.1 u .normal (b.atR a (.inRegion ops (i :: rest) :: k) :: cs) hh hv rfl hr hf
  have hcs : cs' = b.atR a (.inRegion ops (i :: rest) :: k) :: cs := g9
  subst hcs
  have hstep := hs hfn
  have hl := going_leaving g4 g2
  obtain ⟨e, H'⟩ := r
  cases e with
  | ret v =>
    cases e' with
    | returned c =>
      refine ⟨θ', w', c, cs, a.defers, .head hstep (g1.trans (.one ?_)), g6, g7, g5, dfsR.up g7.ag Up.of hd, rfl, UpR.up g7.ag Up.of hu, UpTo.refl hu⟩
      rw [step_leave_returned hl, at_fin ho]
    | panicked c => exact g5.elim
    | outgrown => exact g5.elim
  | panic ch =>
    cases e' with
    | returned c => exact g5.elim
    | panicked ps =>
      refine ⟨θ', w', ps, .inRegion ops (i :: rest) :: k, .head hstep (g1.trans (.one ?_)), g6, g7, g5.1, g5.2⟩
      rw [step_leave_panicked hl, Frame.raise_atR]
    | outgrown => exact g5.elim

theorem VRL.app_args {l l' : List AV} {a b : Array Value} (h : VRL D θ l a.toList) (h' : VRL D θ l' b.toList) : VRL D θ (l ++ l') (a ++ b).toList := by
  rw [Array.toList_append]; exact h.app h'

theorem fn_inv {f : AFn} {first cap : List AV} {c : Value} (h : VR D θ (.fn f first cap) c) : ∃ x y : List Value, c = .func (concFn θ f) x.toArray y.toArray ∧ VRL D θ first x ∧ VRL D θ cap y ∧ (∀ θ', Ag D θ θ' → concFn θ' f = concFn θ f) := by
  refine ⟨concL θ first, concL θ cap, h.now.symm, fun θ' ha => ?_, fun θ' ha => ?_, fun θ' ha => ?_⟩ <;>
  · have := (h θ' ha).trans h.now.symm
    simp only [conc, Value.func.injEq] at this
    first
    | exact this.1
    | (have := this.2.1; simpa using this)
    | (have := this.2.2; simpa using this)

set_option maxHeartbeats 1000000 in
/-- THE OPERATION -/
theorem op_sound (hP : PGood P) {rt : RT} (hcall : CallSound P base rt.call) (hround : RoundSound P base rt.round) (hAP : rt.AP = cProg P) {o : Oper} {aop : AOp} {xs : List Operand} (hok : OpOK P o xs aop) (hdef : DefOK o aop)
    {ops : Array Oper} {i : Nat} {rest : List Nat} {a : Act} (ho : ops[i]? = some o) (hw : Region.wanted o (yielded ops a.tmps) = true) {st : St} {w : World} {b : Frame} {k : List Item} {cs : List Frame} {vs : List AV} {r : OpRes}
    (hh : HR P base D θ st.H w) (hd : dfsR D θ st.dfs a.defers) (hu : UpR D θ b.kind st.up cs) (hb : RdR D θ b.roundOf rt.ctx.round) (hv : VRL D θ vs (xs.map a.eval)) (hr : opR rt st vs aop = some r)
    (hf : Fresh D st.H.next r.heap.next) : OpOut P base D θ st b a ops i rest k cs w o r := by
  have hsame : Up D st.H.next st.H.next = D := Up.none
  have hnd : aop ≠ .defer → aop ≠ .pure Op.fail → o.semAt b.roundOf a.eval = execOp a.eval o := fun q1 q2 => Oper.semAt_eq _ _ _ (by
    rcases hdef with h | h | h
    · exact h
    · exact absurd h q1
    · exact absurd h q2)
  cases aop with
  | pure f =>
    simp only [opR, Option.bind_eq_some_iff, Option.some.injEq] at hr
    obtain ⟨v, h1, rfl⟩ := hr
    obtain ⟨c, g1, g2⟩ := hok D θ a.eval w vs v (rho_act a) hv h1
    have hsem : o.semAt b.roundOf a.eval = execOp a.eval o := hnd (by intro q; cases q) (by intro q; injection q with q; subst q; cases h1)
    refine ⟨θ, w, c, cs, a.defers, .one ?_, by rw [hsame]; exact hh, .refl _ _ _ _, by rw [hsame]; exact g2, by rw [hsame]; exact hd, rfl, by rw [hsame]; exact hu, UpTo.refl hu⟩
    rcases g1 with g1 | ⟨g1, rfl⟩
    · exact at_value ho hw (by rw [hsem]; exact g1)
    · exact at_skip ho hw (by rw [hsem]; exact g1)
  | read f =>
    simp only [opR, Option.bind_eq_some_iff, Option.some.injEq] at hr
    obtain ⟨v, h1, rfl⟩ := hr
    obtain ⟨c, g1, g2⟩ := hok base D θ st.H a.eval w vs v hh hv h1
    have hsem : o.semAt b.roundOf a.eval = execOp a.eval o := hnd (by intro q; cases q) (by intro q; cases q)
    refine ⟨θ, w, c, cs, a.defers, .one ?_, by rw [hsame]; exact hh, .refl _ _ _ _, by rw [hsame]; exact g2, by rw [hsame]; exact hd, rfl, by rw [hsame]; exact hu, UpTo.refl hu⟩
    rcases g1 with g1 | ⟨g1, rfl⟩
    · exact at_value ho hw (by rw [hsem]; exact g1)
    · exact at_skip ho hw (by rw [hsem]; exact g1)
  | alloc f =>
    simp only [opR, Option.bind_eq_some_iff, Option.some.injEq] at hr
    obtain ⟨⟨ob, mk⟩, h1, rfl⟩ := hr
    obtain ⟨hown, w0, co, ext, c, g1, g2, g3⟩ := hok.1 D θ a.eval w vs ob mk (rho_act a) hv h1
    have hsem : o.semAt b.roundOf a.eval = execOp a.eval o := hnd (by intro q; cases q) (by intro q; cases q)
    have hn : ¬ D st.H.next := hf _ (Nat.le_refl _) (Nat.lt_succ_self _)
    have hag := Th.add_ag θ st.H.next w0.heap.size 0 ext hn
    obtain ⟨e1, e2, e3⟩ := Th.add_new θ st.H.next w0.heap.size 0 ext
    obtain ⟨k1, k2⟩ := g3 (Up D st.H.next (st.H.next + 1)) (θ.add st.H.next w0.heap.size 0 ext) st.H.next hag Up.of (.inr ⟨Nat.le_refl _, Nat.lt_succ_self _⟩) (by rw [e1, g2.heap]) e2 e3
    have hh0 : HR P base D θ st.H w0 := hh.draw g2.heap
    refine ⟨θ.add st.H.next w0.heap.size 0 ext, w0.alloc co, c, cs, a.defers, .one (at_value ho hw (by rw [hsem]; exact g1)), ?_, ?_, k2, dfsR.up hag Up.of hd, rfl, UpR.up hag Up.of hu, UpTo.refl hu⟩
    · refine hh0.alloc hn ?_ ?_ (Nat.le_refl _) ?_ k1
      · rw [alloc_get]; simp
      · intro j hj; rw [alloc_get, if_neg (Nat.ne_of_lt hj)]
      · simp
    · exact (Grow.draw (w := w) (w' := w0) g2.heap g2.os g2.tape g2.output).trans (Grow.alloc (w := w0) hh0 hn _ _ _ _) (fun _ h => h)
  | eff f =>
    simp only [opR, Option.bind_eq_some_iff, Option.some.injEq] at hr
    obtain ⟨⟨v, H'⟩, h1, rfl⟩ := hr
    obtain ⟨θ', w', c, g1, g2, g3, g4⟩ := hok.1 base D θ st.H a.eval w vs v H' hh hv h1 hf
    have hsem : o.semAt b.roundOf a.eval = execOp a.eval o := hnd (by intro q; cases q) (by intro q; cases q)
    refine ⟨θ', w', c, cs, a.defers, .one ?_, g2, g3, g4, dfsR.up g3.ag Up.of hd, rfl, UpR.up g3.ag Up.of hu, UpTo.refl hu⟩
    rcases g1 with g1 | ⟨g1, rfl⟩
    · exact at_value ho hw (by rw [hsem]; exact g1)
    · exact at_skip ho hw (by rw [hsem]; exact g1)
  | callF f =>
    obtain ⟨c, fn, body, h1, h2, rfl, h3, h4⟩ := hok
    simp only [opR, enterA, Option.bind_assoc, Option.bind_some, Option.bind_eq_some_iff, Option.some.injEq] at hr
    obtain ⟨⟨e, u, H'⟩, hc, rfl⟩ := hr
    have hsem : o.semAt b.roundOf a.eval = execOp a.eval o := Oper.semAt_eq _ _ _ (fun c' => by rw [h1]; simp)
    refine enter_sound hcall ho hh hd hu (args := c.args.map a.eval) (by simpa using hv) (fun _ => at_enter ho hw ?_) hc (by cases e <;> exact hf)
    rw [hsem]
    simp [execOp, h1, resolve, h2, Act.eval, Deferred.ofValue, invoke, run_callFunc hP h3 h4]
  | callV =>
    obtain ⟨c, x, h1, h2, rfl⟩ := hok
    have hsem : o.semAt b.roundOf a.eval = execOp a.eval o := Oper.semAt_eq _ _ _ (fun c' => by rw [h1]; simp)
    simp only [opR] at hr
    split at hr
    · rename_i f first cap args
      simp only [enterA, Option.bind_assoc, Option.bind_some, Option.bind_eq_some_iff, Option.some.injEq] at hr
      obtain ⟨⟨e, u, H'⟩, hc, rfl⟩ := hr
      obtain ⟨cf, ca, hce, q1, q2⟩ := hv.uncons
      simp only [List.map_cons, List.cons.injEq] at hce
      obtain ⟨rfl, rfl⟩ := hce
      obtain ⟨fi, ci, q3, q4, q5, _⟩ := fn_inv q1
      refine enter_sound hcall ho hh hd hu (args := (fi.toArray ++ c.args.map a.eval) ++ ci.toArray) ?_ (fun hfn => at_enter ho hw ?_) hc (by cases e <;> exact hf)
      · simpa using q4.app (q2.app q5)
      · obtain ⟨fn, body, h3, h4⟩ := hfn
        rw [hsem]
        simp [execOp, h1, resolve, h2, q3, concFn, Deferred.ofValue, invoke, run_callFunc hP h3 h4]
    · rename_i l first args
      simp only [enterA, Option.bind_eq_some_iff, Option.some.injEq] at hr
      obtain ⟨⟨e, H'⟩, hc, rfl⟩ := hr
      obtain ⟨cf, ca, hce, q1, q2⟩ := hv.uncons
      simp only [List.map_cons, List.cons.injEq] at hce
      obtain ⟨rfl, rfl⟩ := hce
      obtain ⟨fi, ci, q3, q4, q5, _⟩ := fn_inv q1
      have hf' : Fresh D st.H.next H'.next := by cases e <;> exact hf
      obtain ⟨f, tmps, as, body, g1, θ', w', fin, g2, g3, g4, g5⟩ := hround D θ st.H w l (first ++ args) (fi.toArray ++ c.args.map a.eval) H' e (b.atR a (.inRegion ops (i :: rest) :: k)) cs hh (by simpa using q4.app q2) hc hf'
      have hstep := at_round (P := P) (b := b) (k := k) (cs := cs) (w := w) (rest := rest) ho hw (l := θ.blk l) (f := f) (tmps := tmps) (as := as) (body := body) (w' := w) (by
        rw [hsem]
        simp [execOp, h1, resolve, h2, q3, concFn, Deferred.ofValue, invoke, g1])
      cases e with
      | ret v =>
        obtain ⟨cv, k1, rfl⟩ := g3
        refine ⟨θ', w', cv, cs, a.defers, .head hstep ?_, g4, g5, k1, dfsR.up g5.ag Up.of hd, rfl, UpR.up g5.ag Up.of hu, UpTo.refl hu⟩
        rw [at_fin ho] at g2; exact g2
      | panic ch =>
        obtain ⟨ps, k0, k1, rfl⟩ := g3
        refine ⟨θ', w', ps, .inRegion ops (i :: rest) :: k, .head hstep ?_, g4, g5, k0, k1⟩
        rw [Frame.raise_atR] at g2; exact g2
    · cases hr
  | invoke m =>
    obtain ⟨c, x, h1, h2, rfl⟩ := hok
    have hsem : o.semAt b.roundOf a.eval = execOp a.eval o := Oper.semAt_eq _ _ _ (fun c' => by rw [h1]; simp)
    simp only [opR] at hr
    split at hr
    · rename_i t v args
      simp only [enterA, Option.bind_assoc, Option.bind_some, Option.bind_eq_some_iff, Option.some.injEq] at hr
      obtain ⟨f, hm, ⟨e, u, H'⟩, hc, rfl⟩ := hr
      obtain ⟨cf, ca, hce, q1, q2⟩ := hv.uncons
      simp only [List.map_cons, List.cons.injEq] at hce
      obtain ⟨rfl, rfl⟩ := hce
      obtain ⟨cv, q3, q4⟩ := q1.iface_inv
      rw [hAP] at hm
      have hm' : cMeth P t m = some f := hm
      refine enter_sound hcall ho hh hd hu (args := #[cv] ++ c.args.map a.eval) (by simpa using VRL.cons q4 q2) (fun hfn => at_enter ho hw ?_) hc (by cases e <;> exact hf)
      obtain ⟨fn, body, h3, h4⟩ := hfn
      rw [hsem]
      have hx : (#[Value.iface t cv] ++ c.args.map a.eval)[0]? = some (.iface t cv) := by
        rw [Array.getElem?_append]; simp
      have hx2 : (#[Value.iface t cv] ++ c.args.map a.eval).extract 1 (#[Value.iface t cv] ++ c.args.map a.eval).size = c.args.map a.eval := by
        apply Array.ext'
        rw [Array.toList_extract, Array.toList_append]
        simp [List.extract, List.take_of_length_le]
      simp only [execOp, h1, resolve, h2, Sem.run_bind, Sem.run_pure, Result.andThen_ok, invoke, q3, hx, hx2, callMethod, program, Sem.run, run_method hm', run_callFunc hP h3 h4]
    · cases hr
  | recover =>
    obtain ⟨c, h1, h2, rfl⟩ := hok
    have hsem : o.semAt b.roundOf a.eval = execOp a.eval o := Oper.semAt_eq _ _ _ (fun c' => by rw [h1]; simp)
    simp only [opR] at hr
    split at hr
    · cases hr
    · rename_i hnone
      rw [hnone] at hb
      have hb : b.roundOf = none := hb
      have hrun : (o.semAt b.roundOf a.eval).run P w = .ok .recover w := by
        rw [hsem]
        obtain ⟨cc, hE⟩ := exec_builtin (ρ := a.eval) h1 h2
        rw [hE]; rfl
      split at hr
      · split at hr
        · rename_i v older hup
          injection hr with hr; subst hr
          rw [hup] at hu
          cases cs with
          | nil => exact hu.elim
          | cons c0 cs0 =>
            obtain ⟨hk, hm⟩ := hu
            cases hmode : c0.mode with
            | run => rw [hmode] at hm; exact hm.elim
            | returning => rw [hmode] at hm; cases hm
            | panicking ps =>
              rw [hmode] at hm
              obtain ⟨_, hm⟩ := hm
              cases ps with
              | nil => exact hm.elim
              | cons p ps =>
                obtain ⟨⟨m1, m2, m3⟩, m4⟩ := hm
                obtain ⟨pv, pr, pg⟩ := p
                simp only at m1 m2 m3
                subst m2; subst m3
                refine ⟨θ, w, pv, { c0 with mode := .panicking ({ v := pv, recovered := true } :: ps) } :: cs0, a.defers, .one ?_, by rw [hsame]; exact hh, .refl _ _ _ _, by rw [hsame]; exact m1, by rw [hsame]; exact hd, by rw [hup]; rfl, ?_, ?_⟩
                · refine at_recover ho hw hb hrun ?_
                  simp [tryRecover, Frame.atR, hk, hmode]
                · rw [hsame]
                  exact ⟨hk, by simp, ⟨m1, rfl, rfl⟩, m4⟩
                · rw [hup]; exact ⟨_, rfl⟩
        · rename_i hup
          injection hr with hr; subst hr
          refine ⟨θ, w, .nilIface, cs, a.defers, .one (at_recover_none ho hw hb hrun ?_), by rw [hsame]; exact hh, .refl _ _ _ _, fun _ _ => rfl, by rw [hsame]; exact hd, rfl, by rw [hsame]; exact hu, UpTo.refl hu⟩
          unfold tryRecover
          cases hupc : st.up with
          | none =>
            rw [hupc] at hu
            have hk : b.kind = .normal := hu
            simp [Frame.atR, hk]
          | some ch =>
            rw [hupc] at hu
            cases cs with
            | nil => exact hu.elim
            | cons c0 cs0 =>
              obtain ⟨hk, hm⟩ := hu
              cases hmode : c0.mode with
              | run => rw [hmode] at hm; exact hm.elim
              | returning => simp [Frame.atR, hk, hmode]
              | panicking ps =>
                rw [hmode] at hm
                obtain ⟨_, hm⟩ := hm
                cases ps with
                | nil => simp [Frame.atR, hk, hmode]
                | cons p ps =>
                  cases ch with
                  | nil => exact hm.elim
                  | cons e es =>
                    obtain ⟨⟨m1, m2, m3⟩, m4⟩ := hm
                    obtain ⟨pv, pr, pg⟩ := p
                    obtain ⟨ev, er⟩ := e
                    simp only at m2 m3
                    subst m2; subst m3
                    cases pr with
                    | false => exact absurd hupc (hup _ _)
                    | true => simp [Frame.atR, hk, hmode]
      · cases hr
  | defer =>
    obtain ⟨c, x, h1, h2, rfl⟩ := hok
    simp only [opR] at hr
    split at hr
    · cases hr
    · rename_i hnone
      rw [hnone] at hb
      have hb : b.roundOf = none := hb
      split at hr
      · rename_i f first cap args
        injection hr with hr; subst hr
        obtain ⟨cf, ca, hce, q1, q2⟩ := hv.uncons
        simp only [List.map_cons, List.cons.injEq] at hce
        obtain ⟨rfl, rfl⟩ := hce
        obtain ⟨fi, ci, q3, q4, q5, q6⟩ := fn_inv q1
        refine ⟨θ, w, undef, cs, { target := .fn (.func f) ci.toArray, args := fi.toArray ++ c.args.map a.eval } :: a.defers, .one ?_, by rw [hsame]; exact hh, .refl _ _ _ _, .undef, ?_, rfl, by rw [hsame]; exact hu, UpTo.refl hu⟩
        · refine at_defer ho hw ?_
          rw [hb, Oper.semAt_none]
          simp [execOp, h1, resolve, h2, q3, concFn, Deferred.ofValue]
        · rw [hsame]
          exact ⟨⟨_, _, rfl, fun _ _ => rfl, by simpa using q4.app (q2.app q5)⟩, hd⟩
      · cases hr
  | panic =>
    simp only [opR] at hr
    split at hr
    · rename_i t v
      injection hr with hr; subst hr
      obtain ⟨x, rfl, q1⟩ := hv.len1
      obtain ⟨cv, q3, q4⟩ := q1.iface_inv
      have hrun : (o.semAt b.roundOf a.eval).run P w = .halt (.panic (a.eval x)) w := by
        rcases hok with ⟨y, h1, hy⟩ | ⟨c, h1, h2, hy⟩
        · simp only [List.cons.injEq, and_true] at hy; subst hy
          rw [Oper.semAt_eq _ _ _ (fun c' => by rw [h1]; simp)]
          simp [execOp, h1, q3, Instr.panic, goPanic]
        · rw [Oper.semAt_eq _ _ _ (fun c' => by rw [h1]; simp)]
          obtain ⟨cc, hE⟩ := exec_builtin (ρ := a.eval) h1 h2
          rw [hE, args_of hy.symm]
          simp [builtin, q3, Instr.panic, goPanic]
      refine ⟨θ, w, [{ v := a.eval x, recovered := false }], .inRegion ops (i :: rest) :: k, .one (at_panic ho hw hrun), by rw [hsame]; exact hh, .refl _ _ _ _, by simp, ?_⟩
      rw [hsame]
      exact ⟨⟨q1, rfl, rfl⟩, trivial⟩
    · cases hr
end
end Go.Am
