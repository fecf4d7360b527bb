/- ONE OPERATION, IN THE MODEL's MACHINE. -/
import Derived.Test.YtjhjdlebhljcaaaGreatDoorAmOps
import Derived.Defers
import Derived.RangeFuncRecord
namespace Go.Am
set_option linter.unusedVariables false
set_option linter.unusedSimpArgs false

/-! ### the relations -/
def dfsR (D : Nat → Prop) (θ : Th) : List ADef → List Deferred → Prop
  | [], [] => True
  | d :: ds, e :: es => defR D θ d e ∧ dfsR D θ ds es
  | _, _ => False
def entryR (D : Nat → Prop) (θ : Th) (e : AV × Bool) (p : PanicEntry) : Prop := VR D θ e.1 p.v ∧ p.recovered = e.2 ∧ p.goexit = false
def chainR (D : Nat → Prop) (θ : Th) : Chain → List PanicEntry → Prop
  | [], [] => True
  | e :: es, p :: ps => entryR D θ e p ∧ chainR D θ es ps
  | _, _ => False
/-- a frame that unwinds: what it unwinds with -/
def modeR (D : Nat → Prop) (θ : Th) (c : Chain) (m : FrameMode) : Prop :=
  match m with
  | .run => False
  | .returning => c = []
  | .panicking ps => c ≠ [] ∧ chainR D θ c ps
/-- what a frame's `recover` would find -/
def UpR (D : Nat → Prop) (θ : Th) (kind : CallKind) : Option Chain → List Frame → Prop
  | none, _ => kind = .normal
  | some ch, c :: _ => kind = .deferred ∧ modeR D θ ch c.mode
  | some _, [] => False
def UpTo : Option Chain → List Frame → List Frame → Prop
  | none, cs, cs' => cs' = cs
  | some _, c :: rest, cs' => ∃ u, cs' = { c with mode := u } :: rest
  | some _, [], _ => False
/-- a round of a loop over a function: the loop's block -/
def RdR (D : Nat → Prop) (θ : Th) (ro : Option Nat) : Option Nat → Prop
  | none => ro = none
  | some l => D l ∧ ro = some (θ.blk l)
def exitR (D : Nat → Prop) (θ : Th) : AExit → Exit → Prop
  | .normal, .normal => True
  | .exit i, .exit j => j = i
  | .goto i, .goto j => j = i
  | .ret, .ret => True
  | .panic c, .panic ps => c ≠ [] ∧ chainR D θ c ps
  | _, _ => False
def endR (D : Nat → Prop) (θ : Th) : AEnd → Ending → Prop
  | .ret v, .returned c => VR D θ v c
  | .panic c, .panicked ps => c ≠ [] ∧ chainR D θ c ps
  | _, _ => False

section
variable {D D' : Nat → Prop} {θ θ' : Th}
theorem dfsR.up (ha : Ag D θ θ') (hd : ∀ b, D b → D' b) : ∀ {l : List ADef} {m : List Deferred}, dfsR D θ l m → dfsR D' θ' l m
  | [], [], _ => trivial
  | d :: ds, e :: es, ⟨h1, h2⟩ => by
    refine ⟨?_, dfsR.up ha hd h2⟩
    cases d with
    | coll b => exact ⟨hd b h1.1, by rw [(ha b h1.1).1]; exact h1.2⟩
    | fn f args =>
      obtain ⟨c, cap, h3, h4, h5⟩ := h1
      refine ⟨c, cap, ?_, fun θ'' h'' => ?_, h5.up ha hd⟩
      · rw [h3, h4 θ' ha]
      · rw [h4 θ'' (ha.trans h'' hd), h4 θ' ha]
  | [], _ :: _, h => h.elim
  | _ :: _, [], h => h.elim
theorem chainR.up (ha : Ag D θ θ') (hd : ∀ b, D b → D' b) : ∀ {l : Chain} {m : List PanicEntry}, chainR D θ l m → chainR D' θ' l m
  | [], [], _ => trivial
  | e :: es, p :: ps, ⟨⟨h1, h2, h3⟩, h⟩ => ⟨⟨h1.up ha hd, h2, h3⟩, chainR.up ha hd h⟩
  | [], _ :: _, h => h.elim
  | _ :: _, [], h => h.elim
theorem modeR.up (ha : Ag D θ θ') (hd : ∀ b, D b → D' b) {c : Chain} {m : FrameMode} (h : modeR D θ c m) : modeR D' θ' c m := by
  cases m with
  | run => exact h.elim
  | returning => exact h
  | panicking ps => exact ⟨h.1, chainR.up ha hd h.2⟩
theorem UpR.up (ha : Ag D θ θ') (hd : ∀ b, D b → D' b) {k : CallKind} {u : Option Chain} {cs : List Frame} (h : UpR D θ k u cs) : UpR D' θ' k u cs := by
  cases u with
  | none => exact h
  | some ch =>
    cases cs with
    | nil => exact h.elim
    | cons c r => exact ⟨h.1, modeR.up ha hd h.2⟩
theorem RdR.up (ha : Ag D θ θ') (hd : ∀ b, D b → D' b) {ro r : Option Nat} (h : RdR D θ ro r) : RdR D' θ' ro r := by
  cases r with
  | none => exact h
  | some l => exact ⟨hd l h.1, by rw [(ha l h.1).1]; exact h.2⟩
theorem UpTo.refl {D : Nat → Prop} {θ : Th} {k : CallKind} {u : Option Chain} {cs : List Frame} (h : UpR D θ k u cs) : UpTo u cs cs := by
  cases u with
  | none => rfl
  | some ch =>
    cases cs with
    | nil => exact h.elim
    | cons c r => exact ⟨c.mode, rfl⟩
theorem UpTo.trans {u u' : Option Chain} (hu : u'.isSome = u.isSome) {cs cs' cs'' : List Frame} (h : UpTo u cs cs') (h' : UpTo u' cs' cs'') : UpTo u cs cs'' := by
  cases u with
  | none =>
    cases u' with
    | none => exact Eq.trans h' h
    | some _ => cases hu
  | some ch =>
    cases u' with
    | none => cases hu
    | some ch' =>
      cases cs with
      | nil => exact h.elim
      | cons c r =>
        obtain ⟨m, rfl⟩ := h
        obtain ⟨m', rfl⟩ := h'
        exact ⟨m', rfl⟩
theorem tmR.up (ha : Ag D θ θ') (hd : ∀ b, D b → D' b) {tm : T AV} {a : Array Value} (h : tmR D θ tm a) : tmR D' θ' tm a := fun t v hv =>
  let ⟨c, h1, h2⟩ := h t v hv; ⟨c, h1, h2.up ha hd⟩
theorem tmR.put {tm : T AV} {a : Array Value} (h : tmR D θ tm a) {d : Nat} (hd : d < a.size) {v : AV} {c : Value} (hv : VR D θ v c) : tmR D θ (tm.set d v) (a.setIfInBounds d c) := by
  intro t x hx
  rw [T.get_set] at hx
  rw [Array.getElem?_setIfInBounds]
  by_cases e : d = t
  · subst e
    simp only [if_true, Option.some.injEq] at hx; subst hx
    exact ⟨c, by simp [hd], hv⟩
  · simp only [e, if_false] at hx ⊢
    exact h t x hx
theorem tmR.forget {a : Array Value} : ∀ (ds : List Nat) {tm : T AV}, tmR D θ tm a → tmR D θ (forget ds tm) a
  | [], _, h => h
  | d :: ds, tm, h => tmR.forget ds (tm := tm.put d none) (fun t v hv => by
      rw [T.get_put] at hv
      split at hv
      · cases hv
      · exact h t v hv)
/-- slots that are forgotten may hold whatever -/
theorem T.get_forget : ∀ (ds : List Nat) (tm : T AV) (t : Nat), (forget ds tm).get t = if t ∈ ds then none else tm.get t
  | [], tm, t => by simp [Am.forget]
  | d :: ds, tm, t => by
    rw [Am.forget, T.get_forget ds, T.get_put]
    by_cases h1 : t ∈ ds
    · simp [h1]
    · by_cases h2 : d = t
      · simp [h2]
      · have h3 : ¬ t = d := fun e => h2 e.symm
        simp [h1, h2, h3]
end

/-! ### operands -/
section
variable {P : Program} {base : Nat} {D : Nat → Prop} {θ : Th} {H : AHeap} {w : World} {a : Act} {tm : T AV}
theorem evO_R (hh : HR P base D θ H w) (ht : tmR D θ tm a.tmps) {x : Operand} {y : AOpd} (hc : cOpd P.globals.size x = some y) {v : AV} (hv : evO tm y = some v) : VR D θ v (a.eval x) := by
  cases x with
  | tmp t =>
    injection hc with hc; subst hc
    obtain ⟨c, h1, h2⟩ := ht t v hv
    simpa [Act.eval, h1] using h2
  | const k =>
    simp only [cOpd, Option.bind_eq_some_iff, Option.some.injEq] at hc
    obtain ⟨u, hu, rfl⟩ := hc
    injection hv with hv; subst hv
    exact toAV_VR hu
  | global g =>
    simp only [cOpd] at hc
    split at hc
    · rename_i hg
      injection hc with hc; subst hc
      injection hv with hv; subst hv
      obtain ⟨h1, h2, h3⟩ := hh.glob g (by simpa [Nat.blt_eq] using hg)
      have := VR.ptr (θ := θ) (o := 0) h1
      rw [h2, h3] at this; exact this
    · cases hc
  | func f =>
    injection hc with hc; subst hc
    injection hv with hv; subst hv
    exact fun _ _ => rfl
theorem evL_R (hh : HR P base D θ H w) (ht : tmR D θ tm a.tmps) : ∀ {xs : List Operand} {ys : List AOpd}, cOpds P.globals.size xs = some ys → ∀ {vs : List AV}, evL tm ys = some vs → VRL D θ vs (xs.map a.eval)
  | [], ys, hc, vs, hv => by
    injection hc with hc; subst hc
    injection hv with hv; subst hv
    exact .nil
  | x :: xs, ys, hc, vs, hv => by
    simp only [cOpds, Option.bind_eq_some_iff, Option.some.injEq] at hc
    obtain ⟨y, hy, ys', hys, rfl⟩ := hc
    simp only [evL, Option.bind_eq_some_iff, Option.some.injEq] at hv
    obtain ⟨v, h1, vs', h2, rfl⟩ := hv
    exact .cons (evO_R hh ht hy h1) (evL_R hh ht hys h2)
theorem evC_run (x : AOpd) (tm : T AV) : (evC x).run tm = evO tm x := by
  cases x <;> simp [evC, evO, T.getC_run, T.get]
theorem evLC_run : ∀ (xs : List AOpd) (tm : T AV), (evLC xs).run tm = evL tm xs
  | [], _ => rfl
  | [x], tm => by simp [evLC, evL, evC_run]
  | x :: y :: xs, tm => by
    rw [evLC, evL]
    · simp only [evC_run, evLC_run (y :: xs) tm]
    · simp
theorem rho_act (a : Act) : RhoOK a.eval := ⟨fun _ => rfl, fun _ => rfl⟩
theorem putDC_run (d : Option Nat) (v : AV) (tm : T AV) : (putDC d).run v tm = putD d v tm := by
  cases d <;> simp [putDC, putD, T.putC_run, T.set, T.put]
end

/-! ### the machine's own view of an operation -/
inductive OpRes where
  | val (v : AV) (dfs : List ADef) (up : Option Chain) (H : AHeap)
  | panic (c : Chain) (H : AHeap)

def resOf (dfs : List ADef) (up : Option Chain) (r : AEnd × AHeap) : OpRes :=
  match r.1 with
  | .ret v => .val v dfs up r.2
  | .panic c => .panic c r.2
def opR (rt : RT) (st : St) (vs : List AV) : AOp → Option OpRes
  | .pure f => (f vs).bind fun v => some (.val v st.dfs st.up st.H)
  | .read f => (f vs st.H).bind fun v => some (.val v st.dfs st.up st.H)
  | .alloc f => (f vs).bind fun r => some (.val (r.2 st.H.next) st.dfs st.up (st.H.alloc r.1))
  | .eff f => (f vs st.H).bind fun r => some (.val r.1 st.dfs st.up r.2)
  | .callF f => (enterA rt.call rt.round (.func f) vs st.H).bind fun r => some (resOf st.dfs st.up r)
  | .callV => match vs with
    | .fn (.func f) first cap :: args => (enterA rt.call rt.round (.func f) (first ++ (args ++ cap)) st.H).bind fun r => some (resOf st.dfs st.up r)
    | .fn (.yield l) first [] :: args => (enterA rt.call rt.round (.yield l) (first ++ args) st.H).bind fun r => some (resOf st.dfs st.up r)
    | _ => none
  | .invoke name => match vs with
    | .iface t v :: args => (rt.AP.meth t name).bind fun f => (enterA rt.call rt.round (.func f) (v :: args) st.H).bind fun r => some (resOf st.dfs st.up r)
    | _ => none
  | .recover => match rt.ctx.round with
    | some _ => none
    | none => match vs with
      | [] => match st.up with
        | some ((v, false) :: older) => some (.val v st.dfs (some ((v, true) :: older)) st.H)
        | _ => some (.val .nili st.dfs st.up st.H)
      | _ => none
  | .defer => match rt.ctx.round with
    | some _ => none
    | none => match vs with
      | .fn (.func f) first cap :: args => some (.val .undef (.fn (.func f) (first ++ (args ++ cap)) :: st.dfs) st.up st.H)
      | _ => none
  | .panic => match vs with
    | [.iface t v] => some (.panic [(.iface t v, false)] st.H)
    | _ => none
def finR (put : AV → T AV → T AV) (psafe : Option (List Nat)) (st : St) (k : St → Res) : OpRes → Res
  | .val v dfs up H => k ⟨put v st.tm, dfs, up, H⟩
  | .panic c H => psafe.bind fun ds => some (.panic c, ⟨forget ds st.tm, st.dfs, st.up, H⟩)
theorem fin_res (put : AV → T AV → T AV) (psafe : Option (List Nat)) (st : St) (k : St → Res) (r : AEnd × AHeap) : stepEnd put psafe st k r = finR put psafe st k (resOf st.dfs st.up r) := by
  unfold stepEnd resOf
  split <;> rename_i h <;> rw [h] <;> rfl
theorem opC_run (put : AV → T AV → T AV) (psafe : Option (List Nat)) (rt : RT) (st : St) (k : St → Res) (vs : List AV) (op : AOp) :
    (opC put psafe op).run rt st k vs = (opR rt st vs op).bind (finR put psafe st k) := by
  cases op with
  | pure f => simp only [opC, kPure, opR, Option.bind_assoc, Option.bind_some]; rfl
  | read f => simp only [opC, kRead, opR, Option.bind_assoc, Option.bind_some]; rfl
  | alloc f => simp only [opC, kAlloc, opR, Option.bind_assoc, Option.bind_some]; rfl
  | eff f => simp only [opC, kEff, opR, Option.bind_assoc, Option.bind_some]; rfl
  | callF f => simp only [opC, kCallF, opR, Option.bind_assoc, Option.bind_some, fin_res]
  | callV =>
    simp only [opC, kCallV, opR]
    split
    · simp only [Option.bind_assoc, Option.bind_some, fin_res]
    · simp only [Option.bind_assoc, Option.bind_some, fin_res]
    · rename_i h1 h2
      split
      · exact (h1 _ _ _ _ rfl).elim
      · exact (h2 _ _ _ rfl).elim
      · rfl
  | invoke name =>
    simp only [opC, kInvoke, opR]
    split
    · simp only [Option.bind_assoc, Option.bind_some, fin_res]
    · rename_i h1
      split
      · exact (h1 _ _ _ rfl).elim
      · rfl
  | recover =>
    simp only [opC, kRecover, opR]
    cases rt.ctx.round with
    | some l => rfl
    | none =>
      cases vs with
      | cons x xs => rfl
      | nil =>
        rcases hu : st.up with _ | _ | ⟨⟨v, _ | _⟩, older⟩ <;> simp only [recoverA, hu] <;> rfl
  | defer =>
    simp only [opC, kDefer, opR]
    cases rt.ctx.round with
    | some l => rfl
    | none =>
      simp only
      split
      · rfl
      · rename_i h
        split
        · exact (h _ _ _ _ rfl).elim
        · rfl
  | panic =>
    simp only [opC, kPanic, opR]
    split
    · simp only [fin_res, resOf, Option.bind_some]
    · rename_i h
      split
      · exact (h _ _ rfl).elim
      · rfl
end Go.Am
