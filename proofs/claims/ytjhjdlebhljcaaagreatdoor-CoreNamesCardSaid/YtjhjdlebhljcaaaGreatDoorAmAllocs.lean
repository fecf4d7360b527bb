/- ALLOCATIONS. -/
import Derived.Test.YtjhjdlebhljcaaaGreatDoorAmReads3
import Derived.Room.MakeNoZero
import Derived.Laws.IdiomStrings
namespace Go.Am
set_option linter.unusedVariables false
set_option linter.unusedSimpArgs false

/-- nothing but draws lies between -/
structure Quiet (w w0 : World) : Prop where
  heap : w0.heap = w.heap
  os : w0.os = w.os
  tape : w0.tape = w.tape
  output : w0.output = w.output
theorem Quiet.refl (w : World) : Quiet w w := ⟨rfl, rfl, rfl, rfl⟩
theorem Quiet.drew (w : World) : Quiet w w.drew := ⟨rfl, rfl, rfl, rfl⟩
theorem Quiet.trans {a b c : World} (h : Quiet a b) (h' : Quiet b c) : Quiet a c := ⟨h'.heap.trans h.heap, h'.os.trans h.os, h'.tape.trans h.tape, h'.output.trans h.output⟩

def AllocOK (P : Program) (o : Oper) (xs : List Operand) (f : List AV → Option (AObj × (Nat → AV))) : Prop :=
  ∀ (D : Nat → Prop) θ (ρ : Operand → Value) w vs ob mk, VRL D θ vs (xs.map ρ) → f vs = some (ob, mk) →
    own ob = true ∧ ∃ w0 co ext c, (execOp ρ o).run P w = .ok (.value c) (w0.alloc co) ∧ Quiet w w0 ∧
      ∀ (D' : Nat → Prop) θ' id, Ag D θ θ' → (∀ b, D b → D' b) → D' id → θ'.blk id = w.heap.size → θ'.off id = 0 → θ'.ext id = ext → ObjR P D' θ' id ob co ∧ VR D' θ' (mk id) c

section
variable {P : Program}

/-- a row of the machine's own, just made -/
theorem newRow_R {D' : Nat → Prop} {θ' : Th} {id : Nat} {cells : List AV} {cs : List Value} {e : TypeId} (h : VRL D' θ' cells cs) (ho : θ'.off id = 0) :
    ObjR P D' θ' id (.row cells e (0, 0) true) (.cells cs.toArray e (0, 0)) :=
  ⟨[], cs, [], (0, 0), _, by simp, by simp [ho], h, fun _ => ⟨rfl, rfl, rfl, .inl rfl⟩⟩
theorem newPtr_R {D' : Nat → Prop} {θ' : Th} {id k : Nat} (hd : D' id) (hb : θ'.blk id = k) (ho : θ'.off id = 0) : VR D' θ' (Op.ptrTo id) (.pointer (some ⟨k, 0, none⟩)) := by
  have := VR.ptr (θ := θ') (o := 0) hd
  rw [hb, ho] at this; exact this
theorem newSlice_R {D' : Nat → Prop} {θ' : Th} {id k n m : Nat} (hd : D' id) (hb : θ'.blk id = k) (ho : θ'.off id = 0) : VR D' θ' (Op.sliceTo n m id) (.slice (some ⟨k, 0, none⟩) n m) := by
  have := VR.slice (θ := θ') (o := 0) (n := n) (c := m) hd
  simp only [conc, hb, ho] at this; exact this

theorem alloc_alloc {o : Oper} {e : TypeId} {z : AV} (ho : o.op = .alloc e) (hz : zeroOf P e = some z) : AllocOK P o [] (Op.alloc e z.cells) := by
  intro D θ ρ w vs ob mk h hv
  unfold Op.alloc at hv
  split at hv
  · injection hv with hv; injection hv with h1 h2; subst h1; subst h2
    obtain ⟨zc, hz1, hz2⟩ := run_zero (w := w) hz
    refine ⟨rfl, w, .cells zc.cells e (0, 0), 0, .pointer (some ⟨w.heap.size, 0, none⟩), ?_, .refl w, fun D' θ' id ha hd hid hb hoff _ => ⟨?_, newPtr_R hid hb hoff⟩⟩
    · simp [execOp, ho, Instr.alloc, hz1, newVar, newRow]
    · have := newRow_R (P := P) (e := e) (hz2 D' θ').cells hoff
      simpa using this
  · cases hv

theorem alloc_box {o : Oper} {e : TypeId} {x : Operand} (ho : o.op = .box e x) : AllocOK P o [x] (Op.box e) := by
  intro D θ ρ w vs ob mk h hv
  unfold Op.box at hv
  split at hv
  · rename_i v
    obtain ⟨x', he, ha⟩ := h.len1
    simp only [List.cons.injEq, and_true] at he; subst he
    injection hv with hv; injection hv with h1 h2; subst h1; subst h2
    refine ⟨rfl, w, .cells (ρ x).cells e (0, 0), 0, .pointer (some ⟨w.heap.size, 0, none⟩), ?_, .refl w, fun D' θ' id hg hd hid hb hoff _ => ⟨?_, newPtr_R hid hb hoff⟩⟩
    · simp [execOp, ho, Instr.box, newVar, newRow]
    · have := newRow_R (P := P) (e := e) (ha.up hg hd).cells hoff
      simpa using this
  · cases hv

theorem alloc_mkMap {o : Oper} {t : TypeId} {r : Option Operand} (ho : o.op = .makeMap t r) (hr : r = none ∨ (∃ k n, r = some (.const (.int k n)) ∧ ∃ a b, P.underlying t = some (.map a b)))
    (hc : ∀ (ρ : Operand → Value), True) : ∀ (D : Nat → Prop) θ (ρ : Operand → Value) w vs ob mk, (∀ v, ρ (.const v) = v) → VRL D θ vs (([] : List Operand).map ρ) → Op.mkMap vs = some (ob, mk) →
    own ob = true ∧ ∃ w0 co ext c, (execOp ρ o).run P w = .ok (.value c) (w0.alloc co) ∧ Quiet w w0 ∧
      ∀ (D' : Nat → Prop) θ' id, Ag D θ θ' → (∀ b, D b → D' b) → D' id → θ'.blk id = w.heap.size → θ'.off id = 0 → θ'.ext id = ext → ObjR P D' θ' id ob co ∧ VR D' θ' (mk id) c := by
  intro D θ ρ w vs ob mk hρ h hv
  unfold Op.mkMap at hv
  split at hv
  · injection hv with hv; injection hv with h1 h2; subst h1; subst h2
    refine ⟨rfl, w, .map #[] 0, 0, .map (some w.heap.size), ?_, .refl w, fun D' θ' id hg hd hid hb hoff _ => ⟨⟨[], rfl, trivial⟩, ?_⟩⟩
    · rcases hr with rfl | ⟨k, n, rfl, a, b, hu⟩
      · simp [execOp, ho, Instr.makeMap]
      · simp [execOp, ho, Instr.makeMap, run_und hu, hρ, asInt, asIntOf]
    · have := VR.map (θ := θ') hid
      rwa [hb] at this
  · cases hv

/-! rows of zeros -/
theorem repl_len (n : Nat) (z : List AV) : (repl n z).length = n * z.length := by
  induction n with
  | zero => simp [repl]
  | succ n ih => simp [repl, appL_eq, ih, Nat.add_mul]; omega
theorem repl_VRL {D : Nat → Prop} {θ : Th} {z : List AV} {zc : List Value} (h : VRL D θ z zc) (n : Nat) : VRL D θ (repl n z) (List.replicate n zc).flatten := by
  induction n with
  | zero => exact .nil
  | succ n ih =>
    simp only [repl, appL_eq, List.replicate_succ, List.flatten_cons]
    exact h.app ih
theorem zeros_eq (zc : List Value) (n : Nat) : ((Array.range (n * zc.length)).map (fun i => zc.toArray[i % zc.toArray.size]!)) = (List.replicate n zc).flatten.toArray := by
  apply Array.ext'
  simp only [Array.toList_map, Array.toList_range, List.size_toArray]
  induction n with
  | zero => simp
  | succ n ih =>
    rw [show (n + 1) * zc.length = zc.length + n * zc.length from by rw [Nat.add_mul]; omega, List.range_add, List.map_append, List.map_map, List.replicate_succ, List.flatten_cons]
    congr 1
    · apply List.ext_getElem
      · simp
      · intro i h1 h2
        simp at h1
        simp [Nat.mod_eq_of_lt h1, h1]
    · rw [← ih]
      apply List.map_congr_left
      intro i hi
      simp

theorem alloc_buildSlice {o : Oper} {t e : TypeId} {len n : Nat} {parts : Array (Nat × Operand)} {z : AV} {ps : List (Nat × Nat)} (ho : o.op = .buildSlice t len parts) (hu : P.underlying t = some (.slice e))
    (hs : sizeT P e = some n) (hz : zeroOf P e = some z) (hp : placesOf (arrPlace n) parts.toList = some ps) (hzn : z.cells.length = n) (hbig : len * n ≤ 16777216) :
    AllocOK P o (parts.toList.map (·.2)) (Op.buildSlice e len z.cells ps) := by
  intro D θ ρ w vs ob mk h hv
  simp only [Op.buildSlice, Option.bind_eq_some_iff] at hv
  obtain ⟨c, hc, hv⟩ := hv
  injection hv with hv; injection hv with h1 h2; subst h1; subst h2
  obtain ⟨zc, hz1, hz2⟩ := run_zero (w := w) hz
  have hzl := (hz2 D θ).cells.length
  have hnew : VRL D θ (repl len z.cells) (List.replicate len zc.cells.toList).flatten := repl_VRL (hz2 D θ).cells len
  have hv' : VRL D θ vs (parts.toList.map fun p => ρ p.2) := by simpa [List.map_map, Function.comp_def] using h
  obtain ⟨cout, g1, g2⟩ := fill_run ps vs parts.toList (arrPlace n) c hp hv' _ _ hnew hc
  have hsize : zc.cells.size = n := by rw [← Array.length_toList]; omega
  refine ⟨rfl, w, .cells cout.toArray e (0, 0), 0, .slice (some ⟨w.heap.size, 0, none⟩) len len, ?_, .refl w, fun D' θ' id hg hd hid hb hoff _ => ⟨newRow_R (g2.up hg hd) hoff, newSlice_R hid hb hoff⟩⟩
  have hzeros := zeros_eq zc.cells.toList len
  rw [show zc.cells.toList.length = n from by omega] at hzeros
  simp only [Array.toArray_toList] at hzeros
  have hfill : Instr.fill (fun i => some (i * n, n)) (((Array.range (len * n)).map (fun i => zc.cells[i % zc.cells.size]!))) ((parts.map fun (p : Nat × Operand) => (p.1, ρ p.2)).toList) = some cout.toArray := by
    rw [hzeros, parts_map]; exact g1
  by_cases h0 : len * n = 0
  · have hfill' : Instr.fill (fun i => some (i * n, n)) #[] ((parts.map fun (p : Nat × Operand) => (p.1, ρ p.2)).toList) = some cout.toArray := by
      rw [h0, show Array.range 0 = #[] from rfl] at hfill; simpa only [Array.map_empty] using hfill
    simp only [execOp, ho, Instr.buildSlice, Sem.run_bind, run_und hu, Result.andThen_ok, run_sizeT hs, h0, show Array.range 0 = #[] from rfl, Array.map_empty, if_true, Sem.run_pure, hfill']
    simp [newRow]
  · have hb : ¬ (len * n > 2 ^ 24) := by omega
    simp only [execOp, ho, Instr.buildSlice, Sem.run_bind, run_und hu, Result.andThen_ok, run_sizeT hs, h0, hb, if_false, hz1, Sem.run_pure]
    simp only [hfill]
    simp [newRow]

theorem alloc_mkSlice {o : Oper} {t e : TypeId} {l c : Operand} {b n : Nat} {z : AV} (ho : o.op = .makeSlice t l c) (hu : P.underlying t = some (.slice e)) (hb : bytesT P e = some b)
    (hs : sizeT P e = some n) (hz : zeroOf P e = some z) (hzn : z.cells.length = n) : AllocOK P o [l, c] (Op.mkSlice e b z.cells) := by
  intro D θ ρ w vs ob mk h hv
  unfold Op.mkSlice at hv
  split at hv
  · rename_i k1 i1 k2 i2
    obtain ⟨x, y, he, ha, hb'⟩ := h.len2
    simp only [List.cons.injEq, and_true] at he; obtain ⟨rfl, rfl⟩ := he
    cases hcond : (leI 0 i1 && leI i1 i2 && leI (i2 * b) 140737488355328 && leI i2 140737488355328) with
    | false => rw [hcond] at hv; cases hv
    | true =>
      rw [hcond] at hv
      simp only [cond_true, Option.some.injEq, Prod.mk.injEq] at hv
      obtain ⟨rfl, rfl⟩ := hv
      simp only [Bool.and_eq_true, leI_eq, decide_eq_true_eq] at hcond
      obtain ⟨⟨⟨c1, c2⟩, c3⟩, c4⟩ := hcond
      obtain ⟨zc, hz1, hz2⟩ := run_zero (w := w) hz
      have hzl := (hz2 D θ).cells.length
      have hsize : zc.cells.size = n := by rw [← Array.length_toList]; omega
      refine ⟨rfl, w, .cells (List.replicate i2.toNat zc.cells.toList).flatten.toArray e (0, 0), 0, .slice (some ⟨w.heap.size, 0, none⟩) i1.toNat i2.toNat, ?_, .refl w,
        fun D' θ' id hg hd hid hb hoff _ => ⟨newRow_R (repl_VRL ((hz2 D' θ').cells) _) hoff, newSlice_R hid hb hoff⟩⟩
      have w1 : IntKind.i64.wrap i1 = i1 := by simp [IntKind.wrap, IntKind.signed, IntKind.bits]; omega
      have w2 : IntKind.i64.wrap i2 = i2 := by simp [IntKind.wrap, IntKind.signed, IntKind.bits]; omega
      have hbt : ∃ i, P.info? e = some i ∧ i.bytes = b := by
        unfold bytesT at hb
        cases hi : P.info? e with
        | none => rw [hi] at hb; cases hb
        | some i => rw [hi] at hb; injection hb with hb; exact ⟨i, rfl, hb⟩
      obtain ⟨inf, hi, rfl⟩ := hbt
      have hzeros := zeros_eq zc.cells.toList i2.toNat
      rw [show zc.cells.toList.length = n from by omega] at hzeros
      simp only [Array.toArray_toList] at hzeros
      have t2 : ¬ (i2 < 0) := by omega
      have t3 : ¬ ((inf.bytes : Int) * i2 > 2 ^ 48) := by rw [Int.mul_comm]; omega
      have t4 : ¬ (i1 < 0) := by omega
      have t5 : ¬ (i1 > i2) := by omega
      have t6 : ¬ (i2.toNat * inf.bytes > roomBytes) := by
        have : ((i2.toNat * inf.bytes : Nat) : Int) = i2 * inf.bytes := by rw [Int.natCast_mul]; congr 1; omega
        unfold roomBytes; omega
      have t7 : (2 : Int) ^ 48 = 281474976710656 := by decide
      simp only [execOp, ho, ← ha.now, ← hb'.now, conc, Instr.makeSlice, Sem.run_bind, run_und hu, Result.andThen_ok, asInt, asIntOf, Sem.run_pure, typeInfo, run_program, hi, w1, w2, run_sizeT hs]
      by_cases h0 : i2.toNat * n = 0
      · have hzeros' : (List.replicate i2.toNat zc.cells.toList).flatten.toArray = #[] := by rw [← hzeros, h0, show Array.range 0 = #[] from rfl, Array.map_empty]
        simp only [t2, t3, t4, t5, t6, h0, askRoom, hzeros', decide_false, decide_true, Bool.or_self, Bool.false_eq_true, if_false, if_true, Sem.run_bind, Sem.run_pure, Result.andThen_ok, run_sizeT hs, show Array.range 0 = #[] from rfl, Array.map_empty]
        simp [newRow]
      · simp only [t2, t3, t4, t5, t6, h0, askRoom, decide_false, decide_true, Bool.or_self, Bool.false_eq_true, if_false, if_true, Sem.run_bind, Sem.run_pure, Result.andThen_ok, run_sizeT hs, hz1, hzeros]
        simp [newRow]
  · cases hv

theorem alloc_rangeStr {o : Oper} {t : TypeId} {x : Operand} (ho : o.op = .range t x) (hu : P.underlying t = some .string) : AllocOK P o [x] Op.rangeStr := by
  intro D θ ρ w vs ob mk h hv
  unfold Op.rangeStr at hv
  split at hv
  · rename_i s
    obtain ⟨x', he, ha⟩ := h.len1
    simp only [List.cons.injEq, and_true] at he; subst he
    injection hv with hv; injection hv with h1 h2; subst h1; subst h2
    refine ⟨rfl, w, .stringIter ⟨s.toArray⟩ 0, 0, .pointer (some ⟨w.heap.size, 0, none⟩), ?_, .refl w, fun D' θ' id hg hd hid hb hoff _ => ⟨⟨rfl, hoff⟩, newPtr_R hid hb hoff⟩⟩
    simp [execOp, ho, Instr.range, run_und hu, ← ha.now, conc]
  · cases hv

theorem grownCap_bounds (w : World) (n : Nat) (e : TypeId) (h : n ≤ maxLen) : n ≤ grownCap w n 0 e ∧ grownCap w n 0 e ≤ maxLen := by
  exact ⟨grownCap_ge w n 0 e, grownCap_le_maxLen w n 0 e h⟩

theorem alloc_bytesOfStr {o : Oper} {src dst e : TypeId} {x : Operand} (ho : o.op = .convert src dst x) (hs : P.underlying src = some .string) (hd : P.underlying dst = some (.slice e)) (he : P.underlying e = some (.int .u8)) :
    AllocOK P o [x] (Op.bytesOfStr e) := by
  intro D θ ρ w vs ob mk h hv
  unfold Op.bytesOfStr at hv
  split at hv
  · rename_i s
    obtain ⟨x', hx', ha⟩ := h.len1
    simp only [List.cons.injEq, and_true] at hx'; subst hx'
    cases hb : Nat.ble s.length 140737488355328 with
    | false => rw [hb] at hv; cases hv
    | true =>
      rw [hb] at hv
      simp only [cond_true, Option.some.injEq, Prod.mk.injEq] at hv
      obtain ⟨rfl, rfl⟩ := hv
      have hlen : s.length ≤ maxLen := by simp only [Nat.ble_eq] at hb; unfold maxLen; omega
      have hr := run_bytes_of_string (P := P) w src dst e ⟨s.toArray⟩ hs hd he
      rw [size_mk] at hr
      obtain ⟨b1, b2⟩ := grownCap_bounds w s.length e hlen
      generalize grownCap w s.length 0 e = cap at hr b1 b2
      refine ⟨rfl, w.drew, _, cap - s.length, _, by simp only [execOp, ho]; rw [← ha.now]; simp only [conc]; rw [Sem.run_bind, hr]; rfl, .drew w, fun D' θ' id hg hd hid hbk hoff hext => ⟨?_, ?_⟩⟩
      · have hrow : bytesRow ⟨s.toArray⟩ cap = (([] : List Value) ++ s.map (fun (b : UInt8) => Value.int .u8 b.toNat) ++ List.replicate (cap - s.length) (Value.int .u8 0)).toArray := by
          simp [bytesRow, size_mk]
        refine ⟨[], s.map (fun (b : UInt8) => Value.int .u8 b.toNat), List.replicate (cap - s.length) (Value.int .u8 0), _, congrArg (fun a => Obj.cells a e _) hrow, by simp [hoff], ?_, by simp, by simp [hext], by omega, by rw [hext]; omega, .inr (.inr ⟨by decide, .inl ?_⟩)⟩
        · intro θ'' _; rw [concL_eq, List.map_map]; rfl
        · rw [hrow]; simp
      · have := VR.gslice (θ := θ') (i := 0) (m := s.length) (s := 1) (alt := 0) (n := s.length) hid
        intro θ'' hag
        rw [show Op.gsliceTo s.length s.length id = AV.gslice id 0 s.length 1 0 s.length from rfl, this θ'' hag]
        simp only [conc, hbk, hoff, hext, Nat.zero_mul, ite_self, Nat.add_zero, Nat.sub_zero]
        congr 1; omega
  · cases hv

theorem mnz_eq (ps rs : Array TypeId) (n : Int) (t : TypeId) (h : rs[0]? = some t) : Extern.BytealgMakeNoZero.makeNoZero ps rs #[.int .i64 n] = Extern.BytealgMakeNoZero.makeNoZero ps #[t] #[.int .i64 n] := by
  obtain ⟨l⟩ := rs
  cases l with
  | nil => simp at h
  | cons a l =>
    simp at h
    subst h
    rfl

theorem alloc_makeNoZero {o : Oper} {c : Call} {f : FuncId} {fn : Func} {xs : List Operand} {t e : TypeId} (ho : o.op = .call c) (hc : c.callee = .value (.func f)) (hf : P.funcs[f]? = some fn) (hb : fn.body = none)
    (hn : fn.name ≠ "runtime.NumGoroutine") (h1 : Extern.findNext fn = none) (h2 : Extern.find fn = some (Extern.BytealgMakeNoZero.makeNoZero fn.params fn.resultTypes)) (hx : c.args.toList = xs)
    (hrt : fn.resultTypes[0]? = some t) (hu : P.underlying t = some (.slice e)) :
    ∀ (D : Nat → Prop) θ (ρ : Operand → Value) w vs ob mk, ρ (.func f) = .func (.func f) #[] #[] → VRL D θ vs (xs.map ρ) → Op.makeNoZero e vs = some (ob, mk) →
    own ob = true ∧ ∃ w0 co ext c, (execOp ρ o).run P w = .ok (.value c) (w0.alloc co) ∧ Quiet w w0 ∧
      ∀ (D' : Nat → Prop) θ' id, Ag D θ θ' → (∀ b, D b → D' b) → D' id → θ'.blk id = w.heap.size → θ'.off id = 0 → θ'.ext id = ext → ObjR P D' θ' id ob co ∧ VR D' θ' (mk id) c := by
  intro D θ ρ w vs ob mk hρ h hv
  unfold Op.makeNoZero at hv
  split at hv
  · rename_i n
    obtain ⟨x, rfl, ha⟩ := h.len1
    cases hcond : (leI 0 n && leI n 140737488355328) with
    | false => rw [hcond] at hv; cases hv
    | true =>
      rw [hcond] at hv
      simp only [cond_true, Option.some.injEq, Prod.mk.injEq] at hv
      obtain ⟨rfl, rfl⟩ := hv
      simp only [Bool.and_eq_true, leI_eq, decide_eq_true_eq] at hcond
      obtain ⟨c1, c2⟩ := hcond
      obtain ⟨m, rfl⟩ := Int.eq_ofNat_of_zero_le c1
      have hml : m ≤ maxLen := by unfold maxLen; omega
      have hmn : ∃ cs : Array Value, (Extern.BytealgMakeNoZero.makeNoZero fn.params fn.resultTypes #[.int .i64 m]).run P w = .ok (.slice (some ⟨w.heap.size, 0, none⟩) m cs.size) (w.drew.drew.alloc (.cells cs e)) ∧ cs.size ≤ maxLen := by
        obtain ⟨cs, g1, g2, g3, g4⟩ := Lib.run_makeNoZero_cap (P := P) w fn.params t e hu m (by omega)
        refine ⟨cs, ?_, g3 hml⟩
        rw [← g1]
        have e1 : ∀ (rs : Array TypeId), rs[0]? = some t → Extern.BytealgMakeNoZero.makeNoZero fn.params rs #[.int .i64 m] = Extern.BytealgMakeNoZero.makeNoZero fn.params #[t] #[.int .i64 m] := by
          intro rs hrs
          exact mnz_eq _ _ _ _ hrs
        rw [e1 _ hrt]
      obtain ⟨cs, g1, g2⟩ := hmn
      refine ⟨rfl, w.drew.drew, _, cs.size, _, by rw [exec_ext ho hc hρ hf hb hn h1 h2, args_of hx]; simp only [List.map_cons, List.map_nil, ← ha.now, conc, Int.ofNat_eq_natCast]; rw [g1]; rfl, (Quiet.drew w).trans (Quiet.drew _), fun D' θ' id hg hd hid hbk hoff hext => ⟨?_, ?_⟩⟩
      · exact ⟨[], [], cs.toList, (0, 0), by simp, by simp [hoff], .nil, by simp, by simp [hext], by omega, by rw [hext]; omega, .inl rfl⟩
      · have := VR.gslice (θ := θ') (i := 0) (m := 0) (s := 1) (alt := 0) (n := m) hid
        intro θ'' hag
        rw [show Op.gsliceTo 0 (Int.toNat (m : Int)) id = AV.gslice id 0 0 1 0 m from by simp [Op.gsliceTo], this θ'' hag]
        simp [conc, hbk, hoff, hext]
  · cases hv

end
end Go.Am
