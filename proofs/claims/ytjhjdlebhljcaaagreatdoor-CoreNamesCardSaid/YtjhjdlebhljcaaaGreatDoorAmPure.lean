/- THE PURE OPERATIONS: what the machine answers the model answers. -/
import Derived.Test.YtjhjdlebhljcaaaGreatDoorAmHeap
import Derived.WalkLawsBesides
namespace Go.Am
set_option linter.unusedVariables false
set_option linter.unusedSimpArgs false

/-- an operation's run comes to a value (or to none, where nothing is handed back) -/
def Gives (P : Program) (s : Sem Next) (w : World) (c : Value) (w' : World) : Prop := s.run P w = .ok (.value c) w' ∨ (s.run P w = .ok .skip w' ∧ c = Go.undef)

def PureOK (P : Program) (o : Oper) (xs : List Operand) (f : List AV → Option AV) : Prop :=
  ∀ (D : Nat → Prop) θ (ρ : Operand → Value) w vs v, VRL D θ vs (xs.map ρ) → f vs = some v → ∃ c, Gives P (execOp ρ o) w c w ∧ VR D θ v c

/-! ### types -/
section
variable {P : Program} {w : World}
theorem run_und {t : TypeId} {d : TypeDesc} (h : P.underlying t = some d) : (underlying t).run P w = .ok d w := run_underlying h w
theorem run_sizeT {t : TypeId} {n : Nat} (h : sizeT P t = some n) : (sizeOf t).run P w = .ok n w := by
  unfold sizeT at h
  cases hi : P.info? t with
  | none => rw [hi] at h; cases h
  | some i => rw [hi] at h; injection h with h; subst h; simp [sizeOf, typeInfo, hi]
theorem info_of_size {t : TypeId} {n : Nat} (h : sizeT P t = some n) : ∃ i, P.info? t = some i ∧ i.size = n := by
  unfold sizeT at h
  cases hi : P.info? t with
  | none => rw [hi] at h; cases h
  | some i => rw [hi] at h; injection h with h; exact ⟨i, rfl, h⟩
theorem isAgg_of {t : TypeId} {n : Option Nat} (h : aggN P t = some n) : (isAgg t).run P w = .ok n.isSome w ∧ ∀ k, n = some k → (sizeOf t).run P w = .ok k w := by
  unfold aggN at h
  cases hu : P.underlying t with
  | none => rw [hu] at h; cases h
  | some d =>
    rw [hu] at h
    cases d
    case struct fs =>
      simp only at h
      cases hs : sizeT P t with
      | none => rw [hs] at h; cases h
      | some m =>
        rw [hs] at h; injection h with h; subst h
        exact ⟨by simp [isAgg, run_und hu], fun k hk => by injection hk with hk; subst hk; exact run_sizeT hs⟩
    case array m e =>
      simp only at h
      cases hs : sizeT P t with
      | none => rw [hs] at h; cases h
      | some m =>
        rw [hs] at h; injection h with h; subst h
        exact ⟨by simp [isAgg, run_und hu], fun k hk => by injection hk with hk; subst hk; exact run_sizeT hs⟩
    all_goals
      (injection h with h; subst h
       exact ⟨by simp [isAgg, run_und hu], fun k hk => by cases hk⟩)

mutual
theorem toAV_conc (θ : Th) : ∀ (c : Value) (v : AV), toAV c = some v → conc θ v = c
  | .bool b, v, h => by simp [toAV] at h; subst h; rfl
  | .int k n, v, h => by simp [toAV] at h; subst h; rfl
  | .string s, v, h => by simp [toAV] at h; subst h; simp [conc]
  | .pointer none, v, h => by simp [toAV] at h; subst h; rfl
  | .pointer (some a), v, h => by simp [toAV] at h
  | .slice none 0 0, v, h => by simp [toAV] at h; subst h; rfl
  | .slice none 0 (n + 1), v, h => by simp [toAV] at h
  | .slice none (n + 1) c, v, h => by simp [toAV] at h
  | .slice (some a) n c, v, h => by simp [toAV] at h
  | .map none, v, h => by simp [toAV] at h; subst h; rfl
  | .map (some r), v, h => by simp [toAV] at h
  | .nilFunc, v, h => by simp [toAV] at h; subst h; rfl
  | .nilIface, v, h => by simp [toAV] at h; subst h; rfl
  | .iface t x, v, h => by
    simp only [toAV] at h
    cases hx : toAV x with
    | none => rw [hx] at h; cases h
    | some y => rw [hx] at h; injection h with h; subst h; simp [conc, toAV_conc θ x y hx]
  | .agg cs, v, h => by
    simp only [toAV] at h
    cases hx : toAVs cs.toList with
    | none => rw [hx] at h; cases h
    | some l => rw [hx] at h; injection h with h; subst h; simp [conc, toAVs_conc θ cs.toList l hx]
  | .tuple cs, v, h => by
    simp only [toAV] at h
    cases hx : toAVs cs.toList with
    | none => rw [hx] at h; cases h
    | some l => rw [hx] at h; injection h with h; subst h; simp [conc, toAVs_conc θ cs.toList l hx]
  | .float _ _, v, h => by simp [toAV] at h
  | .complex _ _ _, v, h => by simp [toAV] at h
  | .chan _, v, h => by simp [toAV] at h
  | .func _ _ _, v, h => by simp [toAV] at h
theorem toAVs_conc (θ : Th) : ∀ (cs : List Value) (l : List AV), toAVs cs = some l → concL θ l = cs
  | [], l, h => by simp [toAVs] at h; subst h; rfl
  | c :: cs, l, h => by
    simp only [toAVs] at h
    cases hx : toAV c with
    | none => rw [hx] at h; cases h
    | some y =>
      rw [hx] at h; simp only [Option.bind_some] at h
      cases hy : toAVs cs with
      | none => rw [hy] at h; cases h
      | some ys => rw [hy] at h; injection h with h; subst h; simp [concL, toAV_conc θ c y hx, toAVs_conc θ cs ys hy]
end
theorem toAV_VR {D : Nat → Prop} {θ : Th} {c : Value} {v : AV} (h : toAV c = some v) : VR D θ v c := fun θ' _ => toAV_conc θ' c v h

theorem run_zero {t : TypeId} {z : AV} (h : zeroOf P t = some z) : ∃ c, (zeroValue t).run P w = .ok c w ∧ ∀ D θ, VR D θ z c := by
  unfold zeroOf at h
  cases hi : P.info? t with
  | none => rw [hi] at h; cases h
  | some i =>
    rw [hi] at h; simp only [Option.bind_some] at h
    cases hz : i.zero with
    | none => rw [hz] at h; cases h
    | some c => rw [hz] at h; exact ⟨c, by simp [zeroValue, typeInfo, hi, hz], fun D θ => toAV_VR h⟩
end

/-! ### aggregates' cells -/
section
variable {D : Nat → Prop} {θ : Th}
theorem VR.cells {v : AV} {c : Value} (h : VR D θ v c) : VRL D θ v.cells c.cells.toList := by
  intro θ' ha
  have h1 := h θ' ha
  subst h1
  cases v <;> simp [AV.cells, conc, Value.cells, concL]
end

/-! ### taking operands' values apart -/
theorem map_cons_inv {ρ : Operand → Value} {xs : List Operand} {c : Value} {cs : List Value} (h : xs.map ρ = c :: cs) : True := trivial

section
variable {P : Program} {D : Nat → Prop} {θ : Th} {ρ : Operand → Value} {w : World}

theorem VRL.one_inv {x : Operand} {vs : List AV} (h : VRL D θ vs ([x].map ρ)) : ∃ v, vs = [v] ∧ VR D θ v (ρ x) := by
  cases vs with
  | nil => have := h.length; simp at this
  | cons v vs =>
    obtain ⟨c, cs, h1, h2, h3⟩ := h.uncons
    simp only [List.map_cons, List.map_nil, List.cons.injEq] at h1
    obtain ⟨rfl, rfl⟩ := h1
    have := h3.length
    cases vs with
    | nil => exact ⟨v, rfl, h2⟩
    | cons _ _ => simp at this
theorem VRL.two_inv {x y : Operand} {vs : List AV} (h : VRL D θ vs ([x, y].map ρ)) : ∃ a b, vs = [a, b] ∧ VR D θ a (ρ x) ∧ VR D θ b (ρ y) := by
  cases vs with
  | nil => have := h.length; simp at this
  | cons v vs =>
    obtain ⟨c, cs, h1, h2, h3⟩ := h.uncons
    simp only [List.map_cons, List.map_nil, List.cons.injEq] at h1
    obtain ⟨rfl, rfl⟩ := h1
    obtain ⟨b, rfl, hb⟩ := VRL.one_inv (ρ := ρ) (x := y) h3
    exact ⟨v, b, rfl, h2, hb⟩
theorem VRL.three_inv {x y z : Operand} {vs : List AV} (h : VRL D θ vs ([x, y, z].map ρ)) : ∃ a b c, vs = [a, b, c] ∧ VR D θ a (ρ x) ∧ VR D θ b (ρ y) ∧ VR D θ c (ρ z) := by
  cases vs with
  | nil => have := h.length; simp at this
  | cons v vs =>
    obtain ⟨c, cs, h1, h2, h3⟩ := h.uncons
    simp only [List.map_cons, List.map_nil, List.cons.injEq] at h1
    obtain ⟨rfl, rfl⟩ := h1
    obtain ⟨a, b, rfl, ha, hb⟩ := VRL.two_inv (ρ := ρ) (x := y) (y := z) h3
    exact ⟨v, a, b, rfl, h2, ha, hb⟩

theorem pure_move {o : Oper} {x : Operand} (ho : o.op = .move x ∨ o.op = .assign x) : PureOK P o [x] Op.move := by
  intro D θ ρ w vs v h hf
  obtain ⟨a, rfl, ha⟩ := VRL.one_inv h
  simp only [Op.move, Option.some.injEq] at hf; subst hf
  refine ⟨ρ x, .inl ?_, ha⟩
  rcases ho with ho | ho <;> simp [execOp, ho]

theorem pure_pick {o : Oper} {c a b : Operand} (ho : o.op = .pick c a b) : PureOK P o [c, a, b] Op.pick := by
  intro D θ ρ w vs v h hf
  obtain ⟨q, x, y, rfl, hq, hx, hy⟩ := VRL.three_inv h
  unfold Op.pick at hf
  split at hf
  · rename_i b' x' y' heq
    injection heq with h1 h2; subst h1; injection h2 with h2 h3; subst h2; injection h3 with h3 _; subst h3
    injection hf with hf; subst hf
    have hb : ρ c = .bool b' := hq.now.symm
    cases b'
    · exact ⟨ρ b, .inl (by simp [execOp, ho, hb, asBool]), hy⟩
    · exact ⟨ρ a, .inl (by simp [execOp, ho, hb, asBool]), hx⟩
  · cases hf

theorem pure_un {o : Oper} {op : UnOp} {t : TypeId} {x : Operand} (ho : o.op = .unOp op t x) : PureOK P o [x] (Op.un op) := by
  intro D θ ρ w vs v h hf
  obtain ⟨a, rfl, ha⟩ := VRL.one_inv h
  simp only [Op.un, unV] at hf
  have hr := ha.now
  split at hf
  · rename_i k n
    injection hf with hf; subst hf
    exact ⟨_, .inl (by simp [execOp, ho, ← hr, conc, Go.Op.unary, Go.Op.intArith] <;> rfl), .int _ _⟩
  · rename_i k n
    simp only [intBin] at hf
    injection hf with hf; subst hf
    exact ⟨_, .inl (by simp [execOp, ho, ← hr, conc, Go.Op.unary, Go.Op.intBits] <;> rfl), .int _ _⟩
  · injection hf with hf; subst hf
    exact ⟨_, .inl (by simp [execOp, ho, ← hr, conc, Go.Op.unary]), .bool _⟩
  · cases hf

theorem pure_wrap {o : Oper} {src dst : TypeId} {x : Operand} {k j : IntKind} (ho : o.op = .convert src dst x) (h1 : P.underlying src = some (.int j)) (h2 : P.underlying dst = some (.int k)) : PureOK P o [x] (Op.wrap k) := by
  intro D θ ρ w vs v h hf
  obtain ⟨a, rfl, ha⟩ := VRL.one_inv h
  have hr := ha.now
  unfold Op.wrap at hf
  split at hf
  · rename_i k' n heq
    injection heq with heq; subst heq
    injection hf with hf; subst hf
    exact ⟨_, .inl (by simp [execOp, ho, ← hr, conc, convert, run_und h1, run_und h2, Conv.intToInt] <;> rfl), .int _ _⟩
  · cases hf

theorem pure_sameStr {o : Oper} {src dst : TypeId} {x : Operand} (ho : o.op = .convert src dst x) (h1 : P.underlying src = some .string) (h2 : P.underlying dst = some .string) : PureOK P o [x] Op.sameStr := by
  intro D θ ρ w vs v h hf
  obtain ⟨a, rfl, ha⟩ := VRL.one_inv h
  have hr := ha.now
  unfold Op.sameStr at hf
  split at hf
  · rename_i s heq
    injection heq with heq; subst heq
    injection hf with hf; subst hf
    exact ⟨_, .inl (by simp [execOp, ho, ← hr, conc, convert, run_und h1, run_und h2]), ha⟩
  · cases hf

theorem pure_mkIface {o : Oper} {t : TypeId} {x : Operand} (ho : o.op = .makeInterface t x) (ht : ∃ d, P.underlying t = some d ∧ (match d with | .interface _ => false | _ => true) = true) : PureOK P o [x] (Op.mkIface t) := by
  intro D θ ρ w vs v h hf
  obtain ⟨a, rfl, ha⟩ := VRL.one_inv h
  simp only [Op.mkIface, Option.some.injEq] at hf; subst hf
  obtain ⟨d, hd, hd2⟩ := ht
  refine ⟨.iface t (ρ x), .inl ?_, ha.iface⟩
  cases d <;> simp_all [execOp, Instr.makeInterface, run_und hd]

theorem pure_mkFunc {o : Oper} {f : FuncId} {a b : Array Operand} (ho : o.op = .makeFunc (.func f) a b) : PureOK P o (a.toList ++ b.toList) (Op.mkFunc f a.size) := by
  intro D θ ρ w vs v h hf
  simp only [Op.mkFunc, Option.some.injEq] at hf; subst hf
  refine ⟨.func (.func f) (a.map ρ) (b.map ρ), .inl (by simp [execOp, ho, Instr.makeFunc]), fun θ' hg => ?_⟩
  have h1 := (h.take a.size) θ' hg
  have h2 := (h.drop a.size) θ' hg
  simp only [conc, concFn, h1, h2]
  congr 1
  · rw [List.map_append, List.take_append_of_le_length (by simp)]; apply Array.ext'; simp [List.take_of_length_le]
  · rw [List.map_append, List.drop_append_of_le_length (by simp)]; apply Array.ext'; simp [List.drop_of_length_le]

theorem pure_extract {o : Oper} {x : Operand} {i : Nat} (ho : o.op = .extract x i) : PureOK P o [x] (Op.extract i) := by
  intro D θ ρ w vs v h hf
  obtain ⟨a, rfl, ha⟩ := VRL.one_inv h
  unfold Op.extract at hf
  split at hf
  · rename_i l heq
    injection heq with heq; subst heq
    obtain ⟨cs, hc, hl⟩ := ha.tuple_inv
    rw [nth_eq] at hf
    obtain ⟨c, hc1, hc2⟩ := hl.of_get hf
    exact ⟨c, .inl (by simp [execOp, ho, hc, Instr.extract, hc1]), hc2⟩
  · cases hf

theorem lenV_run {x : AV} {n : Nat} {c : Value} (h : VR D θ x c) (hl : lenV x = some n) : (Builtin.lenOf c).run P w = .ok n w ∧ (match c with | .string s => s.size = n | .slice _ m _ => m = n | _ => False) := by
  have hr := h.now
  subst hr
  cases x <;> simp_all [lenV, conc, Builtin.lenOf, lenL_eq, ByteArray.size]

theorem exec_builtin {o : Oper} {c : Call} {b : Builtin} (ho : o.op = .call c) (hc : c.callee = .builtin b) :
    ∃ consts, execOp ρ o = builtin b c.argTypes o.type consts (c.args.map ρ) := by
  refine ⟨c.args.map fun | .const _ => true | _ => false, ?_⟩
  simp only [execOp, ho, resolve, hc, invoke]
  rfl

theorem args_of {c : Call} {xs : List Operand} (hx : c.args.toList = xs) : c.args.map ρ = (xs.map ρ).toArray := by
  subst hx; apply Array.ext'; simp
theorem VRL.len1 {xs : List Operand} {a : AV} (h : VRL D θ [a] (xs.map ρ)) : ∃ x, xs = [x] ∧ VR D θ a (ρ x) := by
  have := h.length
  match xs, this, h with
  | [x], _, h => obtain ⟨_, heq, ha⟩ := VRL.one_inv h; injection heq with heq _; subst heq; exact ⟨x, rfl, ha⟩
theorem VRL.len2 {xs : List Operand} {a b : AV} (h : VRL D θ [a, b] (xs.map ρ)) : ∃ x y, xs = [x, y] ∧ VR D θ a (ρ x) ∧ VR D θ b (ρ y) := by
  have := h.length
  match xs, this, h with
  | [x, y], _, h =>
    obtain ⟨_, _, heq, ha, hb⟩ := VRL.two_inv h
    injection heq with h1 h2; injection h2 with h2 _; subst h1; subst h2; exact ⟨x, y, rfl, ha, hb⟩

theorem size_mk (s : List UInt8) : (⟨s.toArray⟩ : ByteArray).size = s.length := by simp [ByteArray.size]
theorem pure_lenStr {o : Oper} {c : Call} {xs : List Operand} {t : TypeId} (ho : o.op = .call c) (hc : c.callee = .builtin .len) (hx : c.args.toList = xs) (ht : c.argTypes[0]? = some t)
    (hu : P.underlying t = some .string) : PureOK P o xs Op.lenStr := by
  intro D θ ρ w vs v h hf
  unfold Op.lenStr at hf
  split at hf
  · rename_i s
    obtain ⟨x, rfl, ha⟩ := h.len1
    injection hf with hf; subst hf
    obtain ⟨consts, he⟩ := exec_builtin (ρ := ρ) ho hc
    refine ⟨_, .inl ?_, .int _ _⟩
    rw [he, args_of hx]
    simp [builtin, Builtin.len_, run_und hu, ht, ← ha.now, conc, goInt, size_mk, lenL_eq] <;> rfl
  · cases hf

theorem pure_lenSl {o : Oper} {c : Call} {xs : List Operand} {t e : TypeId} (ho : o.op = .call c) (hc : c.callee = .builtin .len) (hx : c.args.toList = xs) (ht : c.argTypes[0]? = some t)
    (hu : P.underlying t = some (.slice e)) : PureOK P o xs Op.lenSl := by
  intro D θ ρ w vs v h hf
  obtain ⟨consts, he⟩ := exec_builtin (ρ := ρ) ho hc
  unfold Op.lenSl at hf
  split at hf
  · obtain ⟨x, rfl, ha⟩ := h.len1
    injection hf with hf; subst hf
    refine ⟨_, .inl ?_, .int _ _⟩
    rw [he, args_of hx]
    simp [builtin, Builtin.len_, run_und hu, ht, ← ha.now, conc, goInt] <;> rfl
  · obtain ⟨x, rfl, ha⟩ := h.len1
    injection hf with hf; subst hf
    refine ⟨_, .inl ?_, .int _ _⟩
    rw [he, args_of hx]
    simp [builtin, Builtin.len_, run_und hu, ht, ← ha.now, conc, goInt] <;> rfl
  · obtain ⟨x, rfl, ha⟩ := h.len1
    injection hf with hf; subst hf
    refine ⟨_, .inl ?_, .int _ _⟩
    rw [he, args_of hx]
    simp [builtin, Builtin.len_, run_und hu, ht, ← ha.now, conc, goInt] <;> rfl
  · obtain ⟨x, rfl, ha⟩ := h.len1
    injection hf with hf; subst hf
    refine ⟨_, .inl ?_, .int _ _⟩
    rw [he, args_of hx]
    simp [builtin, Builtin.len_, run_und hu, ht, ← ha.now, conc, goInt] <;> rfl
  · cases hf

theorem pure_lenC {o : Oper} {c : Call} {xs : List Operand} {t e : TypeId} {n : Nat} (ho : o.op = .call c) (hc : c.callee = .builtin .len) (hx : c.args.toList = xs) (ht : c.argTypes[0]? = some t)
    (hu : P.underlying t = some (.array n e) ∨ ∃ a, P.underlying t = some (.pointer a) ∧ P.underlying a = some (.array n e)) : PureOK P o xs (Op.lenC n) := by
  intro D θ ρ w vs v h hf
  obtain ⟨consts, he⟩ := exec_builtin (ρ := ρ) ho hc
  unfold Op.lenC at hf
  split at hf
  · rename_i a
    obtain ⟨x, rfl, ha⟩ := h.len1
    injection hf with hf; subst hf
    refine ⟨_, .inl ?_, .int _ _⟩
    rw [he, args_of hx]
    rcases hu with hu | ⟨a, hu, hu2⟩
    · simp [builtin, Builtin.len_, run_und hu, ht, goInt] <;> rfl
    · simp [builtin, Builtin.len_, run_und hu, run_und hu2, ht, goInt] <;> rfl
  · cases hf

theorem pure_cap {o : Oper} {c : Call} {xs : List Operand} {t e : TypeId} (ho : o.op = .call c) (hc : c.callee = .builtin .cap) (hx : c.args.toList = xs) (ht : c.argTypes[0]? = some t)
    (hu : P.underlying t = some (.slice e)) : PureOK P o xs Op.cap := by
  intro D θ ρ w vs v h hf
  obtain ⟨consts, he⟩ := exec_builtin (ρ := ρ) ho hc
  unfold Op.cap at hf
  split at hf
  · obtain ⟨x, rfl, ha⟩ := h.len1
    injection hf with hf; subst hf
    refine ⟨_, .inl ?_, .int _ _⟩
    rw [he, args_of hx]
    simp [builtin, Builtin.cap_, run_und hu, ht, ← ha.now, conc, goInt] <;> rfl
  · obtain ⟨x, rfl, ha⟩ := h.len1
    injection hf with hf; subst hf
    refine ⟨_, .inl ?_, .int _ _⟩
    rw [he, args_of hx]
    simp [builtin, Builtin.cap_, run_und hu, ht, ← ha.now, conc, goInt] <;> rfl
  · cases hf

/-! ### integers and strings -/
theorem intBin_run {op : BinOp} {k : IntKind} {a b : Int} {v : AV} (hs : isShift op = false) (h : intBin op k a b = some v) (t : TypeId) :
    ∃ c, (binOp op t (.int k a) (.int k b)).run P w = .ok c w ∧ VR D θ v c := by
  cases op <;> simp only [intBin, isShift, Option.some.injEq, eqI_eq, ltI_eq, leI_eq, Bool.true_eq_false] at h hs
  case quo =>
    cases hb : (b == 0) <;> rw [hb] at h <;> simp at h
    subst h
    exact ⟨_, by simp [binOp, Go.Op.intDiv, by simpa using hb] <;> rfl, .int _ _⟩
  case rem =>
    cases hb : (b == 0) <;> rw [hb] at h <;> simp at h
    subst h
    exact ⟨_, by simp [binOp, Go.Op.intDiv, by simpa using hb] <;> rfl, .int _ _⟩
  all_goals
    subst h
    first | refine ⟨_, ?_, VR.int _ _⟩ | refine ⟨_, ?_, VR.bool _⟩
    simp only [binOp, ne_eq, not_true_eq_false, if_false, Go.Op.intBits, Go.Op.intArith, Go.Op.intCmp]
    rfl

theorem bytesLess_eq (a b : List UInt8) : bytesLess a b = Go.Op.bytesLess a b := by
  induction a generalizing b with
  | nil => cases b <;> rfl
  | cons x a ih => cases b with
    | nil => rfl
    | cons y b =>
      simp only [bytesLess, Go.Op.bytesLess, ih, eqB_eq]
      congr 1
      rw [Bool.eq_iff_iff]; simp [UInt8.lt_iff_toNat_lt]
theorem toList_mk (s : List UInt8) : (⟨s.toArray⟩ : ByteArray).toList = s := by rw [ByteArray.toList_eq]

theorem strBin_run {op : BinOp} {a b : List UInt8} {v : AV} (h : strBin op a b = some v) (t : TypeId) :
    ∃ c, (binOp op t (.string ⟨a.toArray⟩) (.string ⟨b.toArray⟩)).run P w = .ok c w ∧ VR D θ v c := by
  cases op <;> simp only [strBin, Option.some.injEq, reduceCtorEq, eqS_eq, bytesLess_eq] at h
  case add =>
    cases hb : Nat.ble (a.length + b.length) 140737488355328 <;> rw [hb] at h <;> simp at h
    subst h
    have hle : a.length + b.length ≤ 140737488355328 := by simpa [Nat.ble_eq] using hb
    refine ⟨.string (⟨a.toArray⟩ ++ ⟨b.toArray⟩), ?_, fun θ' _ => ?_⟩
    · simp only [binOp, Go.Op.stringOp, size_mk, Sem.run_ite]
      rw [if_neg (by simp [IntKind.max, IntKind.bits, IntKind.signed]; omega)]
      rfl
    · show Value.string ⟨(a ++ b).toArray⟩ = _
      congr 1
  all_goals
    subst h
    exact ⟨_, by simp [binOp, Go.Op.stringOp, toList_mk] <;> rfl, .bool _⟩

theorem pure_bin {o : Oper} {op : BinOp} {t t' : TypeId} {x y : Operand} (ho : o.op = .binOp op t x y t') : PureOK P o [x, y] (Op.bin op) := by
  intro D θ ρ w vs v h hf
  obtain ⟨a, b, rfl, ha, hb⟩ := VRL.two_inv h
  simp only [Op.bin, binV] at hf
  have hra := ha.now
  have hrb := hb.now
  have guard : ∀ (u u' : Value), (∀ l, u ≠ .agg l) → u ≠ .nilIface → (eqGuard op t x y u u').run P w = .ok () w := by
    intro u u' h1 h2
    unfold eqGuard
    cases u <;> cases op <;> simp_all
  split at hf
  · rename_i k a k' b
    cases hs : isShift op
    · rw [hs] at hf
      simp only [cond_false, eqK_eq] at hf
      by_cases hk : k = k'
      · subst hk
        simp only [decide_true, cond_true] at hf
        obtain ⟨c, hc, hv⟩ := intBin_run (P := P) (w := w) (D := D) (θ := θ) hs hf t
        refine ⟨c, .inl ?_, hv⟩
        have hg := guard (.int k a) (.int k b) (fun _ => by simp) (by simp)
        simp [execOp, ho, ← hra, ← hrb, conc, hg, hc]
      · simp [hk] at hf
    · rw [hs] at hf
      simp only [cond_true, shiftV, ltI_eq] at hf
      by_cases hb0 : b < 0
      · simp [hb0] at hf
      · simp only [hb0, decide_false, cond_false] at hf
        have hg := guard (.int k a) (.int k' b) (fun _ => by simp) (by simp)
        cases op <;> simp only [isShift, Bool.false_eq_true, Bool.true_eq_false] at hs
        all_goals
          injection hf with hf; subst hf
          exact ⟨_, .inl (by simp [execOp, ho, ← hra, ← hrb, conc, hg, binOp, Go.Op.shift, hb0] <;> rfl), .int _ _⟩
  · rename_i a b
    obtain ⟨c, hc, hv⟩ := strBin_run (P := P) (w := w) (D := D) (θ := θ) hf t
    have hg := guard (.string ⟨a.toArray⟩) (.string ⟨b.toArray⟩) (fun _ => by simp) (by simp)
    exact ⟨c, .inl (by simp [execOp, ho, ← hra, ← hrb, conc, hg, hc]), hv⟩
  · cases hf
end
end Go.Am
