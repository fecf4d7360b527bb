/- WHAT IT MEANS THAT THE MACHINE's STATE IS THE MODEL's. -/
import Derived.Test.YtjhjdlebhljcaaaGreatDoorAmLists
import Derived.CallsIn
namespace Go.Am

/-- where the machine's blocks lie in the model's memory: the block, from which cell on, and how much spare room a grown row has -/
structure Th where
  blk : Nat → Nat
  off : Nat → Nat
  ext : Nat → Nat

def concFn (θ : Th) : AFn → Fn
  | .func f => .func f
  | .yield l => .yield (θ.blk l)

/-- an address' spot, told by a number -/
def spotOf : Nat → Option Nat
  | 0 => none
  | n + 1 => some n
mutual
def conc (θ : Th) : AV → Value
  | .bool b => .bool b
  | .int k n => .int k n
  | .str s => .string ⟨s.toArray⟩
  | .nilp => .pointer none
  | .ptr b o => .pointer (some ⟨θ.blk b, θ.off b + o, none⟩)
  | .nils => .slice none 0 0
  | .slice b o n c => .slice (some ⟨θ.blk b, θ.off b + o, none⟩) n c
  | .gslice b i m s alt n => .slice (some ⟨θ.blk b, θ.off b + (if (m - i) + θ.ext b = 0 then alt else i * s), none⟩) n ((m - i) + θ.ext b)
  | .eslice b => .slice (some ⟨θ.blk b, θ.off b, spotOf (θ.ext b)⟩) 0 0
  | .nilm => .map none
  | .map b => .map (some (θ.blk b))
  | .fn f a b => .func (concFn θ f) (concL θ a).toArray (concL θ b).toArray
  | .nilf => .nilFunc
  | .iface t v => .iface t (conc θ v)
  | .nili => .nilIface
  | .agg l => .agg (concL θ l).toArray
  | .tuple l => .tuple (concL θ l).toArray
def concL (θ : Th) : List AV → List Value
  | [] => []
  | v :: vs => conc θ v :: concL θ vs
end

theorem concL_eq (θ : Th) (l : List AV) : concL θ l = l.map (conc θ) := by
  induction l with
  | nil => rfl
  | cons x l ih => simp [concL, ih]

/-- two places agree on the blocks of `D` -/
def Ag (D : Nat → Prop) (θ θ' : Th) : Prop := ∀ b, D b → θ'.blk b = θ.blk b ∧ θ'.off b = θ.off b ∧ θ'.ext b = θ.ext b
theorem Ag.refl (D : Nat → Prop) (θ : Th) : Ag D θ θ := fun _ _ => ⟨rfl, rfl, rfl⟩
theorem Ag.trans {D D' : Nat → Prop} {θ θ' θ'' : Th} (h : Ag D θ θ') (h' : Ag D' θ' θ'') (hd : ∀ b, D b → D' b) : Ag D θ θ'' := fun b hb =>
  let ⟨a1, a2, a3⟩ := h b hb; let ⟨b1, b2, b3⟩ := h' b (hd b hb); ⟨b1.trans a1, b2.trans a2, b3.trans a3⟩
theorem Ag.mono {D D' : Nat → Prop} {θ θ' : Th} (h : Ag D θ θ') (hd : ∀ b, D' b → D b) : Ag D' θ θ' := fun b hb => h b (hd b hb)

/-- the machine's value is the model's, and stays so where more blocks come -/
def VR (D : Nat → Prop) (θ : Th) (v : AV) (c : Value) : Prop := ∀ θ', Ag D θ θ' → conc θ' v = c
def VRL (D : Nat → Prop) (θ : Th) (l : List AV) (cs : List Value) : Prop := ∀ θ', Ag D θ θ' → concL θ' l = cs

section
variable {D D' : Nat → Prop} {θ θ' : Th}
theorem VR.now {v : AV} {c : Value} (h : VR D θ v c) : conc θ v = c := h θ (Ag.refl D θ)
theorem VRL.now {l : List AV} {cs : List Value} (h : VRL D θ l cs) : concL θ l = cs := h θ (Ag.refl D θ)
theorem VR.up {v : AV} {c : Value} (h : VR D θ v c) (ha : Ag D θ θ') (hd : ∀ b, D b → D' b) : VR D' θ' v c := fun θ'' h' => h θ'' (ha.trans h' hd)
theorem VRL.up {l : List AV} {cs : List Value} (h : VRL D θ l cs) (ha : Ag D θ θ') (hd : ∀ b, D b → D' b) : VRL D' θ' l cs := fun θ'' h' => h θ'' (ha.trans h' hd)
theorem VRL.nil : VRL D θ [] [] := fun _ _ => rfl
theorem VRL.cons {v : AV} {c : Value} {l : List AV} {cs : List Value} (h : VR D θ v c) (hl : VRL D θ l cs) : VRL D θ (v :: l) (c :: cs) :=
  fun θ' ha => by simp [concL, h θ' ha, hl θ' ha]
theorem VRL.uncons {v : AV} {l : List AV} {cs : List Value} (h : VRL D θ (v :: l) cs) : ∃ c cs', cs = c :: cs' ∧ VR D θ v c ∧ VRL D θ l cs' := by
  refine ⟨conc θ v, concL θ l, (by rw [← h.now]; rfl), fun θ' ha => ?_, fun θ' ha => ?_⟩
  · have := (h θ' ha).trans h.now.symm; simp only [concL] at this; injection this
  · have := (h θ' ha).trans h.now.symm; simp only [concL] at this; injection this
theorem VRL.nil_inv {cs : List Value} (h : VRL D θ [] cs) : cs = [] := h.now.symm
theorem VRL.length {l : List AV} {cs : List Value} (h : VRL D θ l cs) : cs.length = l.length := by rw [← h.now, concL_eq]; simp
theorem VRL.app {l l' : List AV} {cs cs' : List Value} (h : VRL D θ l cs) (h' : VRL D θ l' cs') : VRL D θ (l ++ l') (cs ++ cs') := by
  intro θ' ha; rw [concL_eq, List.map_append, ← concL_eq, ← concL_eq, h θ' ha, h' θ' ha]
theorem VRL.of_get {l : List AV} {cs : List Value} (h : VRL D θ l cs) {i : Nat} {v : AV} (hv : l[i]? = some v) : ∃ c, cs[i]? = some c ∧ VR D θ v c := by
  refine ⟨conc θ v, ?_, fun θ' ha => ?_⟩
  · rw [← h.now, concL_eq, List.getElem?_map, hv]; rfl
  · have := (h θ' ha).trans h.now.symm
    rw [concL_eq, concL_eq] at this
    have h2 := congrArg (fun l => l[i]?) this
    simp only [List.getElem?_map, hv, Option.map_some, Option.some.injEq] at h2
    exact h2
theorem VRL.drop {l : List AV} {cs : List Value} (h : VRL D θ l cs) (n : Nat) : VRL D θ (l.drop n) (cs.drop n) := by
  intro θ' ha; rw [concL_eq, List.map_drop, ← concL_eq, h θ' ha]
theorem VRL.take {l : List AV} {cs : List Value} (h : VRL D θ l cs) (n : Nat) : VRL D θ (l.take n) (cs.take n) := by
  intro θ' ha; rw [concL_eq, List.map_take, ← concL_eq, h θ' ha]
theorem VRL.one {v : AV} {c : Value} (h : VR D θ v c) : VRL D θ [v] [c] := .cons h .nil
theorem VR.agg {l : List AV} {cs : List Value} (h : VRL D θ l cs) : VR D θ (.agg l) (.agg cs.toArray) := fun θ' ha => by simp [conc, h θ' ha]
theorem VR.tuple {l : List AV} {cs : List Value} (h : VRL D θ l cs) : VR D θ (.tuple l) (.tuple cs.toArray) := fun θ' ha => by simp [conc, h θ' ha]
theorem VR.agg_inv {l : List AV} {c : Value} (h : VR D θ (.agg l) c) : ∃ cs : List Value, c = .agg cs.toArray ∧ VRL D θ l cs := by
  refine ⟨concL θ l, h.now.symm, fun θ' ha => ?_⟩
  have := (h θ' ha).trans h.now.symm; simpa [conc] using this
theorem VR.tuple_inv {l : List AV} {c : Value} (h : VR D θ (.tuple l) c) : ∃ cs : List Value, c = .tuple cs.toArray ∧ VRL D θ l cs := by
  refine ⟨concL θ l, h.now.symm, fun θ' ha => ?_⟩
  have := (h θ' ha).trans h.now.symm; simpa [conc] using this
theorem VR.iface {t : Nat} {v : AV} {c : Value} (h : VR D θ v c) : VR D θ (.iface t v) (.iface t c) := fun θ' ha => by simp [conc, h θ' ha]
theorem VR.iface_inv {t : Nat} {v : AV} {c : Value} (h : VR D θ (.iface t v) c) : ∃ c', c = .iface t c' ∧ VR D θ v c' := by
  refine ⟨conc θ v, h.now.symm, fun θ' ha => ?_⟩
  have := (h θ' ha).trans h.now.symm; simpa [conc] using this
theorem VR.undef : VR D θ .undef Go.undef := fun _ _ => rfl
theorem VR.bool (b : Bool) : VR D θ (.bool b) (.bool b) := fun _ _ => rfl
theorem VR.int (k : IntKind) (n : Int) : VR D θ (.int k n) (.int k n) := fun _ _ => rfl
theorem VR.str (s : List UInt8) : VR D θ (.str s) (.string ⟨s.toArray⟩) := fun _ _ => rfl
theorem VR.ptr {b o : Nat} (hb : D b) : VR D θ (.ptr b o) (.pointer (some ⟨θ.blk b, θ.off b + o, none⟩)) := fun θ' ha => by obtain ⟨h1, h2, _⟩ := ha b hb; simp [conc, h1, h2]
theorem VR.map {b : Nat} (hb : D b) : VR D θ (.map b) (.map (some (θ.blk b))) := fun θ' ha => by obtain ⟨h1, _, _⟩ := ha b hb; simp [conc, h1]
theorem VR.slice {b o n c : Nat} (hb : D b) : VR D θ (.slice b o n c) (conc θ (.slice b o n c)) := fun θ' ha => by obtain ⟨h1, h2, _⟩ := ha b hb; simp [conc, h1, h2]
theorem VR.gslice {b i m s alt n : Nat} (hb : D b) : VR D θ (.gslice b i m s alt n) (conc θ (.gslice b i m s alt n)) := fun θ' ha => by
  obtain ⟨h1, h2, h3⟩ := ha b hb; simp [conc, h1, h2, h3]
/-- a value that is told by values that are known: known too -/
theorem VR.of_all {v : AV} {c : Value} (h : ∀ θ', Ag D θ θ' → conc θ' v = c) : VR D θ v c := h
end

/-! ### memory -/
/-- the frozen range: nothing of the model's is frozen within a row but what the machine knows of; a range that ends ahead of its beginning: something may be frozen ahead of the row, or behind it -/
def FzR (fz cfz : Nat × Nat) (off size : Nat) : Prop := cfz.1 = cfz.2 ∨ (cfz.1 < cfz.2 ∧ off + fz.1 ≤ cfz.1 ∧ cfz.2 ≤ off + fz.2) ∨ (fz.2 < fz.1 ∧ (size ≤ cfz.1 ∨ cfz.2 ≤ off))

/-- the same of a row of the machine's own -/
def FzE (fz cfz : Nat × Nat) : Prop := cfz.1 = cfz.2 ∨ (cfz.1 < cfz.2 ∧ fz.1 ≤ cfz.1 ∧ cfz.2 ≤ fz.2)

def own : AObj → Bool
  | .row _ _ _ o => o
  | _ => true

def tmR (D : Nat → Prop) (θ : Th) (tm : T AV) (a : Array Value) : Prop := ∀ t v, tm.get t = some v → ∃ c, a[t]? = some c ∧ VR D θ v c

def stR : LState → LoopState
  | .ready => .ready | .busy => .busy | .done => .done | .exhausted => .exhausted
def jumpR : AJump → Code
  | .exit id => .exit id
  | .goto l => .goto l
  | .ret => .ret

def entR (D : Nat → Prop) (θ : Th) (e : AV × AV × Nat) (m : MapEntry) : Prop := VR D θ e.1 m.key ∧ VR D θ e.2.1 m.val ∧ m.born = e.2.2

def entsR (D : Nat → Prop) (θ : Th) : List (AV × AV × Nat) → List MapEntry → Prop
  | [], [] => True
  | e :: es, m :: ms => entR D θ e m ∧ entsR D θ es ms
  | _, _ => False

/-- the k-th loop over a function in function `f` -/
def LoopAt (P : Program) (f k n : Nat) (params : Array Tmp) (assign body : Code) : Prop :=
  ∃ fn af lp ka kb L1 L2, P.funcs[f]? = some fn ∧ cFunc P fn = some af ∧ nth af.loops k = some lp ∧ lp.params = params.toList ∧ (∀ p ∈ params.toList, p < fn.ntmps) ∧ fn.ntmps ≤ n ∧
    cCode P fn.ntmps ka assign = some (lp.assign, L1) ∧ (∀ i l, nth L1 i = some l → nth af.loops (ka + i) = some l) ∧
    cCode P fn.ntmps kb body = some (lp.body, L2) ∧ (∀ i l, nth L2 i = some l → nth af.loops (kb + i) = some l)

def defR (D : Nat → Prop) (θ : Th) : ADef → Deferred → Prop
  | .coll b, d => D b ∧ d = { target := .collected (θ.blk b), args := #[] }
  | .fn f args, d => ∃ c cap : Array Value, d = { target := .fn (concFn θ f) cap, args := c } ∧ (∀ θ', Ag D θ θ' → concFn θ' f = concFn θ f) ∧ VRL D θ args (c ++ cap).toList

def ObjR (P : Program) (D : Nat → Prop) (θ : Th) (b : Nat) : AObj → Obj → Prop
  | .row cells e fz ow, o => ∃ pre cs post cfz e', o = .cells (pre ++ cs ++ post).toArray e' cfz ∧ pre.length = θ.off b ∧ VRL D θ cells cs ∧
      (ow = true → e' = e ∧ pre = [] ∧ post = [] ∧ FzE fz cfz)
  | .grown m size cells e fz, o => ∃ pre cs post cfz, o = .cells (pre ++ cs ++ post).toArray e cfz ∧ pre.length = θ.off b ∧ VRL D θ cells cs ∧
      cells.length = m * size ∧ post.length = θ.ext b * size ∧ 0 < size ∧ m + θ.ext b ≤ maxLen ∧ FzR fz cfz (θ.off b) (pre.length + cs.length + post.length)
  | .map es clock, o => ∃ ms : List MapEntry, o = .map ms.toArray clock ∧ entsR D θ es ms
  | .strIter s pos, o => o = .stringIter ⟨s.toArray⟩ pos ∧ θ.off b = 0
  | .loop st pend f k tm d, o => ∃ r : Loop, o = .loop r ∧ r.state = stR st ∧ r.pending = pend.map jumpR ∧ r.fn = f ∧ tmR D θ tm r.tmps ∧ LoopAt P f k r.tmps.size r.params r.assign r.body ∧
      D d ∧ r.defers = θ.blk d
  | .deferred calls, o => ∃ ds, o = .deferred ds ∧ (match calls, ds with
      | none, none => True
      | some l, some l' => l = [] ∧ l' = []
      | _, _ => False)

structure HR (P : Program) (base : Nat) (D : Nat → Prop) (θ : Th) (H : AHeap) (w : World) : Prop where
  obj : ∀ b o, H.get b = some o → D b ∧ ∃ co, w.heap[θ.blk b]? = some co ∧ ObjR P D θ b o co
  inj : ∀ b b' o o', H.get b = some o → H.get b' = some o' → own o = true → b ≠ b' → θ.blk b ≠ θ.blk b'
  above : ∀ b o, H.get b = some o → own o = true → base ≤ θ.blk b
  glob : ∀ g, g < P.globals.size → D g ∧ θ.blk g = g ∧ θ.off g = 0
  low : base ≤ w.heap.size

/-- the blocks below a number -/
def Lt (n : Nat) : Nat → Prop := fun b => b < n

end Go.Am
