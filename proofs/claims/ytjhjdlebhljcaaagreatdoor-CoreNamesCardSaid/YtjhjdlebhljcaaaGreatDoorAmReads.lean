/- THE READS: what the machine answers the model answers. -/
import Derived.Test.YtjhjdlebhljcaaaGreatDoorAmPure3
import Derived.DeepKeys3
namespace Go.Am
set_option linter.unusedVariables false
set_option linter.unusedSimpArgs false

def ReadOK (P : Program) (o : Oper) (xs : List Operand) (f : List AV → AHeap → Option AV) : Prop :=
  ∀ (base : Nat) (D : Nat → Prop) θ H (ρ : Operand → Value) w vs v, HR P base D θ H w → VRL D θ vs (xs.map ρ) → f vs H = some v → ∃ c, Gives P (execOp ρ o) w c w ∧ VR D θ v c

section
variable {P : Program}

theorem read_load1 {o : Oper} {t : TypeId} {x : Operand} (ho : o.op = .load t x) (ht : aggN P t = some none) : ReadOK P o [x] Op.load1 := by
  intro base D θ H ρ w vs v hh h hv
  unfold Op.load1 at hv
  split at hv
  · rename_i b off
    obtain ⟨x', he, ha⟩ := h.len1
    simp only [List.cons.injEq, and_true] at he; subst he
    obtain ⟨c, h1, h2⟩ := hh.load1 hv
    refine ⟨c, .inl ?_, h2⟩
    obtain ⟨g1, _⟩ := isAgg_of (w := w) ht
    simp only [execOp, ho, ← ha.now, conc, Instr.loadAt, Instr.sureAddr, loadVar, Sem.run_bind, Sem.run_pure, Result.andThen_ok, g1, Option.isSome_none, Bool.false_eq_true, if_false, h1]
  · cases hv

theorem read_loadN {o : Oper} {t : TypeId} {x : Operand} {n : Nat} (ho : o.op = .load t x) (ht : aggN P t = some (some n)) : ReadOK P o [x] (Op.loadN n) := by
  intro base D θ H ρ w vs v hh h hv
  unfold Op.loadN at hv
  split at hv
  · rename_i b off
    obtain ⟨x', he, ha⟩ := h.len1
    simp only [List.cons.injEq, and_true] at he; subst he
    cases hl : H.loadN b off n with
    | none => rw [hl] at hv; cases hv
    | some l =>
      rw [hl] at hv
      injection hv with hv; subst hv
      obtain ⟨cs, h1, h2, _⟩ := hh.loadN hl
      refine ⟨.agg cs.toArray, .inl ?_, .agg h2⟩
      obtain ⟨g1, g2⟩ := isAgg_of (w := w) ht
      simp only [execOp, ho, ← ha.now, conc, Instr.loadAt, Instr.sureAddr, loadVar, Sem.run_bind, Sem.run_pure, Result.andThen_ok, g1, g2 n rfl, Option.isSome_some, if_true, h1]
  · cases hv

theorem HR.mapAt {base : Nat} {D : Nat → Prop} {θ : Th} {H : AHeap} {w : World} (h : HR P base D θ H w) {b : Nat} {m : List (AV × AV × Nat) × Nat} (hb : H.mapAt b = some m) :
    H.get b = some (.map m.1 m.2) ∧ D b ∧ ∃ ms : List MapEntry, w.heap[θ.blk b]? = some (.map ms.toArray m.2) ∧ entsR D θ m.1 ms := by
  unfold AHeap.mapAt at hb
  cases hg : H.get b with
  | none => rw [hg] at hb; cases hb
  | some o =>
    rw [hg] at hb
    obtain ⟨hd, co, hc, hr⟩ := h.obj b o hg
    cases o <;> simp only [reduceCtorEq, Option.some.injEq] at hb
    subst hb
    obtain ⟨ms, h1, h2⟩ := hr
    exact ⟨rfl, hd, ms, by rw [hc, h1], h2⟩

theorem run_getMap {w : World} {r : Nat} {ms : Array MapEntry} {c : Nat} (h : w.heap[r]? = some (.map ms c)) : (getObj r).run P w = .ok (.map ms c) w := by
  simp [getObj, Sem.run, h]

theorem entsR.length {D : Nat → Prop} {θ : Th} : ∀ (es : List (AV × AV × Nat)) (ms : List MapEntry), entsR D θ es ms → es.length = ms.length
  | [], [], _ => rfl
  | _ :: es, _ :: ms, ⟨_, h⟩ => by simp [entsR.length es ms h]
  | [], _ :: _, h => h.elim
  | _ :: _, [], h => h.elim

theorem read_lenMap {o : Oper} {c : Call} {xs : List Operand} {t k e : TypeId} (ho : o.op = .call c) (hc : c.callee = .builtin .len) (hx : c.args.toList = xs) (ht : c.argTypes[0]? = some t)
    (hu : P.underlying t = some (.map k e)) : ReadOK P o xs Op.lenMap := by
  intro base D θ H ρ w vs v hh h hv
  unfold Op.lenMap at hv
  split at hv
  · obtain ⟨x, rfl, ha⟩ := h.len1
    injection hv with hv; subst hv
    refine ⟨_, .inl ?_, .int _ _⟩
    obtain ⟨cc, hE⟩ := exec_builtin (ρ := ρ) ho hc
    rw [hE, args_of hx]
    simp [builtin, Builtin.len_, ht, ← ha.now, conc, run_und hu, goInt]
  · rename_i b
    obtain ⟨x, rfl, ha⟩ := h.len1
    cases hm : H.mapAt b with
    | none => rw [hm] at hv; cases hv
    | some m =>
      rw [hm] at hv
      injection hv with hv; subst hv
      obtain ⟨_, _, ms, h1, h2⟩ := hh.mapAt hm
      refine ⟨_, .inl ?_, .int _ _⟩
      obtain ⟨cc, hE⟩ := exec_builtin (ρ := ρ) ho hc
      rw [hE, args_of hx]
      simp [builtin, Builtin.len_, ht, ← ha.now, conc, run_und hu, goInt, run_getMap h1, entsR.length _ _ h2]
  · cases hv

/-! ### equality by parts -/
theorem VR.isAgg {D : Nat → Prop} {θ : Th} {l : List AV} {c : Value} (h : VR D θ (.agg l) c) : ∃ cs : List Value, c = .agg cs.toArray ∧ VRL D θ l cs := h.agg_inv

theorem fieldsOf_eq {t : TypeId} {fs : Array Field} (h : P.underlying t = some (.struct fs)) : P.fieldsOf t = fs := by
  simp [Program.fieldsOf, h]

theorem eqTree_int {x y : AV} {r : Bool} (h : eqTree .int x y = some r) : ∃ k a b, x = .int k a ∧ y = .int k b ∧ r = (a == b) := by
  cases x <;> cases y <;> simp only [eqTree, reduceCtorEq] at h
  rename_i k a k' b
  cases hk : eqK k k' with
  | false => rw [hk] at h; cases h
  | true =>
    rw [hk] at h
    simp only [cond_true, Option.some.injEq] at h
    have : k = k' := by simpa [eqK_eq] using hk
    subst this
    exact ⟨k, a, b, rfl, rfl, by rw [← h, eqI_eq]⟩
theorem eqTree_str {x y : AV} {r : Bool} (h : eqTree .str x y = some r) : ∃ a b, x = .str a ∧ y = .str b ∧ r = (a == b) := by
  cases x <;> cases y <;> simp only [eqTree, reduceCtorEq, Option.some.injEq] at h
  exact ⟨_, _, rfl, rfl, by rw [← h, eqS_eq]⟩
theorem eqTree_bool {x y : AV} {r : Bool} (h : eqTree .bool x y = some r) : ∃ a b, x = .bool a ∧ y = .bool b ∧ r = (a == b) := by
  cases x <;> cases y <;> simp only [eqTree, reduceCtorEq, Option.some.injEq] at h
  exact ⟨_, _, rfl, rfl, h.symm⟩
theorem eqTree_part {off : Nat} {n : Option Nat} {t rest : EqTree} {x y : AV} {r : Bool} (h : eqTree (.part off n t rest) x y = some r) :
    ∃ l l' a b q, x = .agg l ∧ y = .agg l' ∧ partAt l off n = some a ∧ partAt l' off n = some b ∧ eqTree t a b = some q ∧ (q = true → eqTree rest (.agg l) (.agg l') = some r) ∧ (q = false → r = false) := by
  cases x <;> cases y <;> simp only [eqTree, reduceCtorEq] at h
  rename_i l l'
  simp only [Option.bind_eq_some_iff] at h
  obtain ⟨a, ha, b, hb, q, hq, h⟩ := h
  refine ⟨l, l', a, b, q, rfl, rfl, ha, hb, hq, fun e => ?_, fun e => ?_⟩
  · subst e; exact h
  · subst e; simpa using h.symm
theorem eqTree_nil {x y : AV} {r : Bool} (h : eqTree .nil x y = some r) : r = true ∧ (∃ l, x = .agg l) ∧ (∃ l, y = .agg l) := by
  cases x <;> cases y <;> simp only [eqTree, reduceCtorEq, Option.some.injEq] at h
  exact ⟨h.symm, ⟨_, rfl⟩, ⟨_, rfl⟩⟩

theorem itemsT_agg (s : Nat) (a : Option Nat) (q : EqTree) (n i : Nat) {x y : AV} {r : Bool} (h : eqTree (treeT.itemsT s a q n i) x y = some r) : (∃ l, x = .agg l) ∧ (∃ l, y = .agg l) := by
  cases n with
  | zero => exact (eqTree_nil h).2
  | succ n => obtain ⟨l, l', _, _, _, h1, h2, _⟩ := eqTree_part h; exact ⟨⟨l, h1⟩, ⟨l', h2⟩⟩
theorem fieldsT_agg {go : TypeId → Option EqTree} {fs : List Field} {q : EqTree} (hq : treeT.fieldsT P go fs = some q) {x y : AV} {r : Bool} (h : eqTree q x y = some r) : (∃ l, x = .agg l) ∧ (∃ l, y = .agg l) := by
  cases fs with
  | nil => injection hq with hq; subst hq; exact (eqTree_nil h).2
  | cons f fs =>
    simp only [treeT.fieldsT] at hq
    split at hq
    · cases hq
    · simp only [Option.bind_eq_some_iff] at hq
      obtain ⟨a, _, q1, _, r1, _, hq⟩ := hq
      injection hq with hq; subst hq
      obtain ⟨l, l', _, _, _, h1, h2, _⟩ := eqTree_part h; exact ⟨⟨l, h1⟩, ⟨l', h2⟩⟩

/-- equality at a type, told part by part -/
def EqRun (P : Program) (w : World) (D : Nat → Prop) (θ : Th) (m : Nat) (t : TypeId) (q : EqTree) : Prop :=
  ∀ (x y : AV) (cx cy : Value) (r : Bool), VR D θ x cx → VR D θ y cy → eqTree q x y = some r → (Op.equalIn m t cx cy).run P w = .ok r w

theorem eqFields_run {w : World} {D : Nat → Prop} {θ : Th} {m : Nat} {go : TypeId → Option EqTree} (ih : ∀ t q, go t = some q → EqRun P w D θ m t q) {l l' : List AV} {cs cs' : List Value} (hl : VRL D θ l cs) (hl' : VRL D θ l' cs') :
    ∀ (fs : List Field) (q : EqTree) (r : Bool), treeT.fieldsT P go fs = some q → eqTree q (.agg l) (.agg l') = some r → (Op.eqFields m cs.toArray cs'.toArray fs).run P w = .ok r w
  | [], q, r, hq, h => by
    injection hq with hq; subst hq
    rw [(eqTree_nil h).1]; simp [Op.eqFields]
  | f :: fs, q, r, hq, h => by
    simp only [treeT.fieldsT] at hq
    split at hq
    · cases hq
    · rename_i hn
      simp only [Option.bind_eq_some_iff] at hq
      obtain ⟨a, ha, q1, hq1, r1, hr1, hq⟩ := hq
      injection hq with hq; subst hq
      obtain ⟨l1, l2, x, y, e, h1, h2, h3, h4, h5, h6, h7⟩ := eqTree_part h
      injection h1 with h1; injection h2 with h2; subst h1; subst h2
      obtain ⟨c, p1, v1⟩ := part_run (w := w) ha hl h3
      obtain ⟨c', p2, v2⟩ := part_run (w := w) ha hl' h4
      have p3 := ih f.type q1 hq1 x y c c' e v1 v2 h5
      simp only [Op.eqFields, hn, ne_eq, not_false_eq_true, if_true, Sem.run_bind, p1, p2, p3, Result.andThen_ok]
      cases e
      · simp [h7 rfl]
      · simpa using eqFields_run ih hl hl' fs r1 r hr1 (h6 rfl)

theorem eqItems_run {w : World} {D : Nat → Prop} {θ : Th} {m : Nat} {e : TypeId} {s : Nat} {a : Option Nat} {q : EqTree} (ha : aggN P e = some a) (ih : EqRun P w D θ m e q) {l l' : List AV} {cs cs' : List Value} (hl : VRL D θ l cs) (hl' : VRL D θ l' cs') :
    ∀ (n i : Nat) (r : Bool), eqTree (treeT.itemsT s a q n i) (.agg l) (.agg l') = some r → (Op.eqItems m e s cs.toArray cs'.toArray (List.range' i n)).run P w = .ok r w
  | 0, i, r, h => by rw [(eqTree_nil h).1]; simp [Op.eqItems]
  | n + 1, i, r, h => by
    obtain ⟨l1, l2, x, y, b, h1, h2, h3, h4, h5, h6, h7⟩ := eqTree_part h
    injection h1 with h1; injection h2 with h2; subst h1; subst h2
    obtain ⟨c, p1, v1⟩ := part_run (w := w) ha hl h3
    obtain ⟨c', p2, v2⟩ := part_run (w := w) ha hl' h4
    have p3 := ih x y c c' b v1 v2 h5
    simp only [List.range'_succ, Op.eqItems, Sem.run_bind, p1, p2, p3, Result.andThen_ok]
    cases b
    · simp [h7 rfl]
    · simpa using eqItems_run ha ih hl hl' n (i + 1) r (h6 rfl)

theorem eqTree_run (m : Nat) {D : Nat → Prop} {θ : Th} (w : World) : ∀ (d : Nat) (t : TypeId) (q : EqTree), treeT P d t = some q → EqRun P w D θ (d + m) t q
  | 0, _, _, h => by cases h
  | d + 1, t, q, h => by
    intro x y cx cy r hx hy hr
    unfold treeT at h
    have ed : d + 1 + m = (d + m) + 1 := by omega
    rw [ed]
    cases hu : P.underlying t with
    | none => rw [hu] at h; cases h
    | some kd =>
      rw [hu] at h
      cases kd
      case int k0 =>
        injection h with h; subst h
        obtain ⟨k, a, b, rfl, rfl, rfl⟩ := eqTree_int hr
        rw [← hx.now, ← hy.now, conc, conc, run_equalIn_int w _ t k k0 a b hu]
      case string =>
        injection h with h; subst h
        obtain ⟨a, b, rfl, rfl, rfl⟩ := eqTree_str hr
        rw [← hx.now, ← hy.now, conc, conc, run_equalIn_string w _ t _ _ hu, toList_mk, toList_mk]
      case bool =>
        injection h with h; subst h
        obtain ⟨a, b, rfl, rfl, rfl⟩ := eqTree_bool hr
        rw [← hx.now, ← hy.now, conc, conc, run_equalIn_bool' w _ t _ _ hu]
      case struct fs =>
        simp only at h
        split at h
        · cases h
        · rename_i hst
          have hst' : P.stoodInHeld t = false := by simpa using hst
          obtain ⟨⟨l, rfl⟩, ⟨l', rfl⟩⟩ := fieldsT_agg h hr
          obtain ⟨cs, rfl, hl⟩ := hx.agg_inv
          obtain ⟨cs', rfl, hl'⟩ := hy.agg_inv
          have hf := fieldsOf_eq hu
          rw [run_equalIn_struct w _ t _ _ (by rw [hf]; exact hu) hst', hf]
          exact eqFields_run (fun t q hq => eqTree_run m w d t q hq) hl hl' _ _ _ h hr
      case array n e =>
        simp only [Option.bind_eq_some_iff] at h
        obtain ⟨s, hs, a, ha, q1, hq1, h⟩ := h
        injection h with h; subst h
        obtain ⟨⟨l, rfl⟩, ⟨l', rfl⟩⟩ := itemsT_agg _ _ _ _ _ hr
        obtain ⟨cs, rfl, hl⟩ := hx.agg_inv
        obtain ⟨cs', rfl, hl'⟩ := hy.agg_inv
        obtain ⟨i, hi, his⟩ := info_of_size hs
        rw [run_equalIn_array _ _ _ _ hu hi, List.range_eq_range']
        have hc : P.cellsOf e = s := by simp [Program.cellsOf, hi, his]
        rw [hc]
        exact eqItems_run ha (eqTree_run m w d e q1 hq1) hl hl' n 0 r hr
      all_goals (cases h)

/-! ### maps: keys -/
theorem okTree_part {off : Nat} {n : Option Nat} {t rest : EqTree} {x : AV} (h : okTree (.part off n t rest) x = true) :
    ∃ l a, x = .agg l ∧ partAt l off n = some a ∧ okTree t a = true ∧ okTree rest (.agg l) = true := by
  cases x <;> simp only [okTree, reduceCtorEq, Bool.false_eq_true] at h
  rename_i l
  split at h
  · rename_i a ha
    cases ht : okTree t a with
    | false => rw [ht] at h; cases h
    | true => rw [ht] at h; exact ⟨l, a, rfl, ha, ht, h⟩
  · cases h
theorem okTree_nil {x : AV} (h : okTree .nil x = true) : ∃ l, x = .agg l := by
  cases x <;> simp only [okTree, reduceCtorEq, Bool.false_eq_true] at h
  exact ⟨_, rfl⟩

theorem okItems_agg (s : Nat) (a : Option Nat) (q : EqTree) (n i : Nat) {x : AV} (h : okTree (treeT.itemsT s a q n i) x = true) : ∃ l, x = .agg l := by
  cases n with
  | zero => exact okTree_nil h
  | succ n => obtain ⟨l, _, h1, _⟩ := okTree_part h; exact ⟨l, h1⟩
theorem okFields_agg {go : TypeId → Option EqTree} {fs : List Field} {q : EqTree} (hq : treeT.fieldsT P go fs = some q) {x : AV} (h : okTree q x = true) : ∃ l, x = .agg l := by
  cases fs with
  | nil => injection hq with hq; subst hq; exact okTree_nil h
  | cons f fs =>
    simp only [treeT.fieldsT] at hq
    split at hq
    · cases hq
    · simp only [Option.bind_eq_some_iff] at hq
      obtain ⟨a, _, q1, _, r1, _, hq⟩ := hq
      injection hq with hq; subst hq
      obtain ⟨l, _, h1, _⟩ := okTree_part h; exact ⟨l, h1⟩

def OkRun (P : Program) (w : World) (D : Nat → Prop) (θ : Th) (em : Bool) (m : Nat) (t : TypeId) (q : EqTree) : Prop :=
  ∀ (x : AV) (cx : Value), VR D θ x cx → okTree q x = true → (Instr.checkKey em m t cx).run P w = .ok () w

theorem okItems_run {w : World} {D : Nat → Prop} {θ : Th} {em : Bool} {m : Nat} {e : TypeId} {s : Nat} {a : Option Nat} {q : EqTree} (ha : aggN P e = some a) (hs : sizeT P e = some s) (ih : OkRun P w D θ em m e q) {l : List AV} {cs : List Value} (hl : VRL D θ l cs) :
    ∀ (n i : Nat), okTree (treeT.itemsT s a q n i) (.agg l) = true →
      (forIn (List.range' i n) PUnit.unit (fun i _ => (do Instr.checkKey em m e (← part e cs.toArray (i * (← sizeOf e))); pure (ForInStep.yield PUnit.unit) : Sem (ForInStep PUnit)))).run P w = .ok PUnit.unit w
  | 0, i, h => by simp
  | n + 1, i, h => by
    obtain ⟨l1, x, h1, h3, h5, h6⟩ := okTree_part h
    injection h1 with h1; subst h1
    obtain ⟨c, p1, v1⟩ := part_run (w := w) ha hl h3
    have p3 := ih x c v1 h5
    simp only [List.range'_succ, List.forIn_cons, Sem.run_bind, run_sizeT hs, p1, p3, Result.andThen_ok, Sem.run_pure]
    simpa using okItems_run ha hs ih hl n (i + 1) h6

theorem okTree_run (em : Bool) (m : Nat) {D : Nat → Prop} {θ : Th} (w : World) : ∀ (d : Nat) (t : TypeId) (q : EqTree), treeT P d t = some q → OkRun P w D θ em (d + m) t q
  | 0, _, _, h => by cases h
  | d + 1, t, q, h => by
    intro x cx hx hr
    unfold treeT at h
    have ed : d + 1 + m = (d + m) + 1 := by omega
    rw [ed]
    cases hu : P.underlying t with
    | none => rw [hu] at h; cases h
    | some kd =>
      rw [hu] at h
      cases kd
      case int k0 => simp [Instr.checkKey, run_und hu]
      case string => simp [Instr.checkKey, run_und hu]
      case bool => simp [Instr.checkKey, run_und hu]
      case struct fs =>
        simp only at h
        split at h
        · cases h
        · obtain ⟨l, rfl⟩ := okFields_agg h hr
          obtain ⟨cs, rfl, hl⟩ := hx.agg_inv
          simp only [Instr.checkKey, Sem.run_bind, run_und hu, Result.andThen_ok]
          rw [← Array.forIn_toList]
          clear hu
          generalize fs.toList = L at h
          induction L generalizing q with
          | nil => simp
          | cons f L ihL =>
            simp only [treeT.fieldsT] at h
            split at h
            · cases h
            · rename_i hn
              simp only [Option.bind_eq_some_iff] at h
              obtain ⟨a, ha, q1, hq1, r1, hr1, h⟩ := h
              injection h with h; subst h
              obtain ⟨l1, x, h1, h3, h5, h6⟩ := okTree_part hr
              injection h1 with h1; subst h1
              obtain ⟨c, p1, v1⟩ := part_run (w := w) ha hl h3
              have p3 := okTree_run em m w d f.type q1 hq1 x c v1 h5
              simp only [List.forIn_cons, Sem.run_bind, hn, ne_eq, not_false_eq_true, if_true, Result.andThen_ok, p1, p3, Sem.run_pure]
              exact ihL r1 h6 hr1
      case array n e =>
        simp only [Option.bind_eq_some_iff] at h
        obtain ⟨s, hs, a, ha, q1, hq1, h⟩ := h
        injection h with h; subst h
        obtain ⟨l, rfl⟩ := okItems_agg _ _ _ _ _ hr
        obtain ⟨cs, rfl, hl⟩ := hx.agg_inv
        have := okItems_run (w := w) (em := em) ha hs (okTree_run em m w d e q1 hq1) hl n 0 hr
        simp only [Instr.checkKey, Sem.run_bind, run_und hu, Result.andThen_ok]
        simp only [Std.Legacy.Range.forIn_eq_forIn_range', Std.Legacy.Range.size, Nat.sub_zero, Nat.add_one_sub_one, Nat.div_one]
        simp at this
        simp [this]
      all_goals (cases h)

theorem key_ok {em : Bool} {D : Nat → Prop} {θ : Th} {w : World} {t : TypeId} {q : EqTree} (h : keyT P t = some q) {x : AV} {cx : Value} (hx : VR D θ x cx) (hr : okTree q x = true) :
    (Instr.checkKey em 10000 t cx).run P w = .ok () w := okTree_run em 9980 w 20 t q h x cx hx hr
theorem key_eq {D : Nat → Prop} {θ : Th} {w : World} {t : TypeId} {q : EqTree} (h : keyT P t = some q) {x y : AV} {cx cy : Value} {r : Bool} (hx : VR D θ x cx) (hy : VR D θ y cy) (hr : eqTree q x y = some r) :
    (Op.equal t cx cy).run P w = .ok r w := eqTree_run 9980 w 20 t q h x y cx cy r hx hy hr

def FindR (D : Nat → Prop) (θ : Th) : Option (Nat × AV) → Option (Nat × Value) → Prop
  | none, none => True
  | some (i, v), some (j, c) => i = j ∧ VR D θ v c
  | _, _ => False

theorem findAsking_run {D : Nat → Prop} {θ : Th} {w : World} {t : TypeId} {q : EqTree} (h : keyT P t = some q) {k : AV} {ck : Value} (hk : VR D θ k ck) :
    ∀ (es : List (AV × AV × Nat)) (ms : List MapEntry) (i : Nat) (r : Option (Nat × AV)), entsR D θ es ms → findKey q k es i = some r →
      ∃ r', (Instr.findAsking t ck ms i).run P w = .ok r' w ∧ FindR D θ r r'
  | [], [], i, r, _, hr => by
    simp only [findKey, Option.some.injEq] at hr; subst hr
    exact ⟨none, by simp [Instr.findAsking], trivial⟩
  | (k', v, b) :: es, e :: ms, i, r, ⟨⟨h1, h2, _⟩, hes⟩, hr => by
    simp only [findKey, Option.bind_eq_some_iff] at hr
    obtain ⟨c, hc, hr⟩ := hr
    have := key_eq (w := w) h hk h1 hc
    cases c
    · obtain ⟨r', g1, g2⟩ := findAsking_run (w := w) h hk es ms (i + 1) r hes hr
      exact ⟨r', by simp [Instr.findAsking, this, g1], g2⟩
    · simp only [cond_true, Option.some.injEq] at hr; subst hr
      exact ⟨some (i, e.val), by simp [Instr.findAsking, this], rfl, h2⟩
  | [], _ :: _, _, _, h, _ => h.elim
  | _ :: _, [], _, _, h, _ => h.elim

theorem sameNow_run {t : TypeId} {d : TypeDesc} (hu : P.underlying t = some d) {x y : Value} {b : Bool} (h : Instr.sameNow d x y = some b) (w : World) : (Op.equal t x y).run P w = .ok b w := by
  unfold Instr.sameNow at h
  split at h
  · rename_i k a k' b'
    split at h
    · rename_i hk; subst hk
      injection h with h; subst h
      exact run_equalIn_int w _ t _ _ _ _ hu
    · cases h
  · injection h with h; subst h
    show (Op.equalIn (9999 + 1) t _ _).run P w = _
    rw [run_equalIn_string w _ t _ _ hu, beq_toListBytes]
  · injection h with h; subst h
    exact run_equalIn_bool' w _ t _ _ hu
  · cases h

theorem findNow_run {t : TypeId} {d : TypeDesc} (hu : P.underlying t = some d) {ck : Value} (w : World) : ∀ (ms : List MapEntry) (i : Nat) (r r' : Option (Nat × Value)),
    Instr.findNow d ck ms i = some r → (Instr.findAsking t ck ms i).run P w = .ok r' w → r = r'
  | [], i, r, r', h, h' => by
    simp [Instr.findNow] at h; simp [Instr.findAsking] at h'; rw [← h, ← h']
  | e :: ms, i, r, r', h, h' => by
    simp only [Instr.findNow] at h
    cases hs : Instr.sameNow d ck e.key with
    | none => rw [hs] at h; cases h
    | some b =>
      rw [hs] at h
      have := sameNow_run hu hs w
      cases b
      · simp [Instr.findAsking, this] at h'
        exact findNow_run hu w ms (i + 1) r r' h h'
      · simp [Instr.findAsking, this] at h'
        simp at h; rw [← h, ← h']

theorem findKey_run {D : Nat → Prop} {θ : Th} {w : World} {t : TypeId} {q : EqTree} (h : keyT P t = some q) {k : AV} {ck : Value} (hk : VR D θ k ck) {es : List (AV × AV × Nat)} {ms : List MapEntry} {r : Option (Nat × AV)}
    (hes : entsR D θ es ms) (hr : findKey q k es 0 = some r) : ∃ r', (Instr.findKey t ck ms).run P w = .ok r' w ∧ FindR D θ r r' := by
  obtain ⟨r', g1, g2⟩ := findAsking_run (w := w) h hk es ms 0 r hes hr
  have hu : ∃ d, P.underlying t = some d := by
    cases hu : P.underlying t with
    | none => simp [keyT, treeT, hu] at h
    | some d => exact ⟨d, rfl⟩
  obtain ⟨d, hu⟩ := hu
  refine ⟨r', ?_, g2⟩
  simp only [Instr.findKey, Sem.run_bind, run_und hu, Result.andThen_ok]
  cases hn : Instr.findNow d ck ms 0 with
  | none => simpa using g1
  | some r2 => simp [findNow_run hu w ms 0 r2 r' hn g1]

theorem read_lookup {o : Oper} {t kt e : TypeId} {mm kk : Operand} {ok : Bool} {q : EqTree} {z : AV} (ho : o.op = .lookup t mm kk ok) (hu : P.underlying t = some (.map kt e)) (hq : keyT P kt = some q) (hz : zeroOf P e = some z) :
    ReadOK P o [mm, kk] (Op.lookup q z ok) := by
  intro base D θ H ρ w vs v hh h hv
  obtain ⟨zc, hz1, hz2⟩ := run_zero (w := w) hz
  unfold Op.lookup at hv
  split at hv
  · rename_i k
    obtain ⟨x, y, he, ha, hb⟩ := h.len2
    simp only [List.cons.injEq, and_true] at he; obtain ⟨rfl, rfl⟩ := he
    cases hok : okTree q k with
    | false => rw [hok] at hv; cases hv
    | true =>
      rw [hok] at hv
      simp only [cond_true, Option.some.injEq] at hv
      have hc := fun em => key_ok (em := em) (w := w) hq hb hok
      have hf : (Instr.findKey kt (ρ kk) []).run P w = .ok none w := by
        have hu : ∃ d, P.underlying kt = some d := by
          cases hu : P.underlying kt with
          | none => simp [keyT, treeT, hu] at hq
          | some d => exact ⟨d, rfl⟩
        obtain ⟨d, hu⟩ := hu
        simp [Instr.findKey, run_und hu, Instr.findNow]
      subst hv
      cases ok
      · refine ⟨zc, .inl ?_, hz2 _ _⟩
        simp [execOp, ho, Instr.lookup, run_und hu, ← ha.now, conc, hc, hf, hz1]
      · refine ⟨.tuple [zc, .bool false].toArray, .inl ?_, .tuple (.cons (hz2 _ _) (.one (.bool _)))⟩
        simp [execOp, ho, Instr.lookup, run_und hu, ← ha.now, conc, hc, hf, hz1]
  · rename_i b k
    obtain ⟨x, y, he, ha, hb⟩ := h.len2
    simp only [List.cons.injEq, and_true] at he; obtain ⟨rfl, rfl⟩ := he
    cases hok : okTree q k with
    | false => rw [hok] at hv; cases hv
    | true =>
      rw [hok] at hv
      simp only [cond_true, Option.bind_eq_some_iff] at hv
      obtain ⟨m, hm, r, hr, hv⟩ := hv
      obtain ⟨_, _, ms, h1, h2⟩ := hh.mapAt hm
      have hc := fun em => key_ok (em := em) (w := w) hq hb hok
      obtain ⟨r', g1, g2⟩ := findKey_run (w := w) hq hb h2 hr
      cases r with
      | none =>
        cases r' with
        | some _ => exact g2.elim
        | none =>
          simp only [Option.some.injEq] at hv; subst hv
          cases ok
          · refine ⟨zc, .inl ?_, hz2 _ _⟩
            simp [execOp, ho, Instr.lookup, run_und hu, ← ha.now, conc, hc, g1, hz1, run_getMap h1]
          · refine ⟨.tuple [zc, .bool false].toArray, .inl ?_, .tuple (.cons (hz2 _ _) (.one (.bool _)))⟩
            simp [execOp, ho, Instr.lookup, run_und hu, ← ha.now, conc, hc, g1, hz1, run_getMap h1]
      | some p =>
        obtain ⟨i, pv⟩ := p
        cases r' with
        | none => exact g2.elim
        | some p' =>
          obtain ⟨i', pc⟩ := p'
          obtain ⟨_, g2⟩ := g2
          simp only [Option.some.injEq] at hv; subst hv
          cases ok
          · refine ⟨pc, .inl ?_, g2⟩
            simp [execOp, ho, Instr.lookup, run_und hu, ← ha.now, conc, hc, g1, hz1, run_getMap h1]
          · refine ⟨.tuple [pc, .bool true].toArray, .inl ?_, .tuple (.cons g2 (.one (.bool _)))⟩
            simp [execOp, ho, Instr.lookup, run_und hu, ← ha.now, conc, hc, g1, hz1, run_getMap h1]
  · cases hv
end
end Go.Am
