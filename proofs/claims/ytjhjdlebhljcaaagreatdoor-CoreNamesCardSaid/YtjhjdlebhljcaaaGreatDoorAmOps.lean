/- EVERY OPERATION THAT IS COMPILED. -/
import Derived.Test.YtjhjdlebhljcaaaGreatDoorAmEffMono
namespace Go.Am
set_option linter.unusedVariables false
set_option linter.unusedSimpArgs false

/-- how operands that are no temporaries are read -/
structure RhoOK (ρ : Operand → Value) : Prop where
  const : ∀ v, ρ (.const v) = v
  func : ∀ f, ρ (.func f) = .func (.func f) #[] #[]

def PureOK' (P : Program) (o : Oper) (xs : List Operand) (f : List AV → Option AV) : Prop :=
  ∀ (D : Nat → Prop) θ (ρ : Operand → Value) w vs v, RhoOK ρ → VRL D θ vs (xs.map ρ) → f vs = some v → ∃ c, Gives P (execOp ρ o) w c w ∧ VR D θ v c
def AllocOK' (P : Program) (o : Oper) (xs : List Operand) (f : List AV → Option (AObj × (Nat → AV))) : Prop :=
  ∀ (D : Nat → Prop) θ (ρ : Operand → Value) w vs ob mk, RhoOK ρ → VRL D θ vs (xs.map ρ) → f vs = some (ob, mk) →
    own ob = true ∧ ∃ w0 co ext c, (execOp ρ o).run P w = .ok (.value c) (w0.alloc co) ∧ Quiet w w0 ∧
      ∀ (D' : Nat → Prop) θ' id, Ag D θ θ' → (∀ b, D b → D' b) → D' id → θ'.blk id = w.heap.size → θ'.off id = 0 → θ'.ext id = ext → ObjR P D' θ' id ob co ∧ VR D' θ' (mk id) c

/-- what is known of a program as a whole -/
structure PGood (P : Program) : Prop where
  names : ∀ (f : FuncId) (fn : Func), P.funcs[f]? = some fn → fn.name ≠ "runtime.NumGoroutine"
  mixed : P.follows .mixedOrders = true

def OpOK (P : Program) (o : Oper) (xs : List Operand) : AOp → Prop
  | .pure f => PureOK' P o xs f
  | .read f => ReadOK P o xs f
  | .alloc f => AllocOK' P o xs f ∧ OpMono (.alloc f)
  | .eff f => EffOK P o xs f ∧ OpMono (.eff f)
  | .callF f => ∃ c fn b, o.op = .call c ∧ c.callee = .value (.func f) ∧ xs = c.args.toList ∧ P.funcs[f]? = some fn ∧ fn.body = some b
  | .callV => ∃ c x, o.op = .call c ∧ c.callee = .value x ∧ xs = x :: c.args.toList
  | .invoke m => ∃ c x, o.op = .call c ∧ c.callee = .invoke x m ∧ xs = x :: c.args.toList
  | .recover => ∃ c, o.op = .call c ∧ c.callee = .builtin .recover ∧ xs = c.args.toList
  | .defer => ∃ c x, o.op = .defer c ∧ c.callee = .value x ∧ xs = x :: c.args.toList
  | .panic => (∃ x, o.op = .panic x ∧ xs = [x]) ∨ ∃ c, o.op = .call c ∧ c.callee = .builtin .panic ∧ xs = c.args.toList

theorem mono_alloc {e : Nat} {z : List AV} : OpMono (.alloc (Op.alloc e z)) := by
  intro vs ob mk h
  unfold Op.alloc at h
  split at h
  · injection h with h; injection h with h _; subst h; rfl
  · cases h
theorem mono_box {e : Nat} : OpMono (.alloc (Op.box e)) := by
  intro vs ob mk h
  unfold Op.box at h
  split at h
  · injection h with h; injection h with h _; subst h; rfl
  · cases h
theorem mono_buildSlice {e n : Nat} {z : List AV} {ps : List (Nat × Nat)} : OpMono (.alloc (Op.buildSlice e n z ps)) := by
  intro vs ob mk h
  simp only [Op.buildSlice, Option.bind_eq_some_iff] at h
  obtain ⟨_, _, h⟩ := h
  injection h with h; injection h with h _; subst h; rfl
theorem mono_mkSlice {e b : Nat} {z : List AV} : OpMono (.alloc (Op.mkSlice e b z)) := by
  intro vs ob mk h
  unfold Op.mkSlice at h
  split at h
  · rcases cond_some h with ⟨_, h⟩ | ⟨_, h⟩
    · injection h with h; injection h with h _; subst h; rfl
    · cases h
  · cases h
theorem mono_rangeStr : OpMono (.alloc Op.rangeStr) := by
  intro vs ob mk h
  unfold Op.rangeStr at h
  split at h
  · injection h with h; injection h with h _; subst h; rfl
  · cases h
theorem mono_bytesOfStr {e : Nat} : OpMono (.alloc (Op.bytesOfStr e)) := by
  intro vs ob mk h
  unfold Op.bytesOfStr at h
  split at h
  · rcases cond_some h with ⟨_, h⟩ | ⟨_, h⟩
    · injection h with h; injection h with h _; subst h; rfl
    · cases h
  · cases h
theorem mono_mkMap : OpMono (.alloc Op.mkMap) := by
  intro vs ob mk h
  unfold Op.mkMap at h
  split at h
  · injection h with h; injection h with h _; subst h; rfl
  · cases h
theorem mono_makeNoZero {e : Nat} : OpMono (.alloc (Op.makeNoZero e)) := by
  intro vs ob mk h
  unfold Op.makeNoZero at h
  split at h
  · rcases cond_some h with ⟨_, h⟩ | ⟨_, h⟩
    · injection h with h; injection h with h _; subst h; rfl
    · cases h
  · cases h

section
variable {P : Program} {o : Oper} {xs : List Operand}
theorem PureOK.up {f : List AV → Option AV} (h : PureOK P o xs f) : PureOK' P o xs f := fun D θ ρ w vs v _ => h D θ ρ w vs v
theorem AllocOK.up {f : List AV → Option (AObj × (Nat → AV))} (h : AllocOK P o xs f) : AllocOK' P o xs f := fun D θ ρ w vs ob mk _ => h D θ ρ w vs ob mk

theorem conv_ok {src dst : TypeId} {x : Operand} (ho : o.op = .convert src dst x) {r : List Operand × AOp} (h : cConv P src dst x = some r) : OpOK P o r.1 r.2 := by
  unfold cConv at h
  split at h
  · rename_i h1 h2; injection h with h; subst h; exact (pure_wrap ho h1 h2).up
  · rename_i h1 h2; injection h with h; subst h; exact (pure_strOfInt ho h1 h2).up
  · rename_i h1 h2; injection h with h; subst h; exact (pure_sameStr ho h1 h2).up
  · rename_i e h1 h2
    split at h
    · rename_i he; injection h with h; subst h; exact read_strOfBytes ho h1 he h2
    · cases h
  · rename_i u h1 h2; injection h with h; subst h; exact read_castPtr ho (.inl ⟨h1, h2⟩)
  · rename_i u h1 h2; injection h with h; subst h; exact read_castPtr ho (.inr ⟨h1, h2⟩)
  · rename_i e h1 h2
    split at h
    · rename_i he; injection h with h; subst h; exact ⟨(alloc_bytesOfStr ho h1 h2 he).up, mono_bytesOfStr⟩
    · cases h
  · rename_i d e h1 h2
    split at h
    · rename_i he
      split at h
      · rename_i hsd; injection h with h; subst h; exact ⟨eff_markStr ho h1 h2 he (by simpa using hsd), mono_markStr⟩
      · cases h
    · cases h
  · cases h

theorem eqTy_ok {t : TypeId} {x y : Operand} {k : EqTy} (h : eqTy P t x y = some k) : EqTyOK P t x y k := by
  unfold eqTy at h
  split at h
  · rename_i hu; injection h with h; subst h; exact hu
  · rename_i e hu
    split at h
    · rename_i n hs; injection h with h; subst h; exact ⟨e, n, hu, hs⟩
    · cases h
  · rename_i e hu; injection h with h; subst h; exact ⟨e, hu⟩
  · rename_i k e hu; injection h with h; subst h; exact ⟨k, e, hu⟩
  · rename_i a b c hu; injection h with h; subst h; exact ⟨a, b, c, hu⟩
  · rename_i ms hu
    split at h
    · injection h with h; subst h; exact ⟨ms, hu, .inl ⟨_, rfl⟩⟩
    · injection h with h; subst h; exact ⟨ms, hu, .inr ⟨_, rfl⟩⟩
    · injection h with h; subst h
      refine ⟨⟨ms, hu⟩, fun u q hq => ?_⟩
      simp only [Option.bind_eq_some_iff] at hq
      obtain ⟨i, hi, hq⟩ := hq
      split at hq
      · rename_i hcmp; exact ⟨hq, i, hi, hcmp⟩
      · cases hq
  · rename_i fs hu
    split at h
    · cases h
    · rename_i hg
      simp only [Option.bind_eq_some_iff, Option.some.injEq] at h
      obtain ⟨q, hq, rfl⟩ := h
      exact ⟨by simpa using hg, hq, .inl ⟨fs, hu⟩⟩
  · rename_i n e hu
    split at h
    · cases h
    · rename_i hg
      simp only [Option.bind_eq_some_iff, Option.some.injEq] at h
      obtain ⟨q, hq, rfl⟩ := h
      exact ⟨by simpa using hg, hq, .inr ⟨n, e, hu⟩⟩
  · cases h

theorem bin_ok {op : BinOp} {t t' : TypeId} {x y : Operand} (ho : o.op = .binOp op t x y t') {r : List Operand × AOp} (h : cBin P op t x y = some r) : OpOK P o r.1 r.2 := by
  unfold cBin at h
  split at h
  · injection h with h; subst h; exact (pure_bin ho).up
  · injection h with h; subst h; exact (pure_bin ho).up
  · split at h
    · simp only [Option.bind_eq_some_iff, Option.some.injEq] at h
      obtain ⟨k, hk, rfl⟩ := h
      exact read_eq (neg := false) (by simpa using ho) (eqTy_ok hk)
    · simp only [Option.bind_eq_some_iff, Option.some.injEq] at h
      obtain ⟨k, hk, rfl⟩ := h
      exact read_eq (neg := true) (by simpa using ho) (eqTy_ok hk)
    · cases h

theorem builtin_ok {c : Call} {b : Builtin} (ho : o.op = .call c) (hc : c.callee = .builtin b) {r : List Operand × AOp} (h : cBuiltin P b c.argTypes c.args.toList = some r) : OpOK P o r.1 r.2 := by
  have hb2 : ∀ {d : TypeDesc}, (c.argTypes[0]?).bind P.underlying = some d → ∃ t, c.argTypes[0]? = some t ∧ P.underlying t = some d := fun h => by simpa [Option.bind_eq_some_iff] using h
  unfold cBuiltin at h
  split at h
  · split at h
    · rename_i hu; obtain ⟨t, ht, hu⟩ := hb2 hu; injection h with h; subst h; exact (pure_lenStr ho hc rfl ht hu).up
    · rename_i hu; obtain ⟨t, ht, hu⟩ := hb2 hu; injection h with h; subst h; exact (pure_lenSl ho hc rfl ht hu).up
    · rename_i hu; obtain ⟨t, ht, hu⟩ := hb2 hu; injection h with h; subst h; exact (pure_lenC ho hc rfl ht (.inl hu)).up
    · rename_i hu; obtain ⟨t, ht, hu⟩ := hb2 hu
      split at h
      · rename_i hu2; injection h with h; subst h; exact (pure_lenC ho hc rfl ht (.inr ⟨_, hu, hu2⟩)).up
      · cases h
    · rename_i hu; obtain ⟨t, ht, hu⟩ := hb2 hu; injection h with h; subst h; exact read_lenMap ho hc rfl ht hu
    · cases h
  · split at h
    · rename_i hu; obtain ⟨t, ht, hu⟩ := hb2 hu; injection h with h; subst h; exact (pure_cap ho hc rfl ht hu).up
    · cases h
  · split at h
    · rename_i t tx hts
      split at h
      · rename_i e e' hu hx
        simp only [Option.bind_eq_some_iff] at h
        obtain ⟨n, hn, z, hz, zv, hzv, h⟩ := h
        split at h
        · rename_i hl; injection h with h; subst h; exact ⟨eff_append ho hc rfl hts hu (.inl ⟨_, hx⟩) hn hz hzv hl, mono_append _ _ _⟩
        · cases h
      · rename_i e hu hx
        simp only [Option.bind_eq_some_iff] at h
        obtain ⟨n, hn, z, hz, zv, hzv, h⟩ := h
        split at h
        · rename_i hl; injection h with h; subst h; exact ⟨eff_append ho hc rfl hts hu (.inr hx) hn hz hzv hl, mono_append _ _ _⟩
        · cases h
      · cases h
    · cases h
  · split at h
    · rename_i hu; obtain ⟨t, ht, hu⟩ := hb2 hu
      simp only [Option.bind_eq_some_iff, Option.some.injEq] at h
      obtain ⟨n, hn, rfl⟩ := h
      exact ⟨eff_copy ho hc rfl ht hu hn, mono_copy _⟩
    · cases h
  · injection h with h; subst h; exact (pure_minmax (mx := false) ho hc rfl).up
  · injection h with h; subst h; exact (pure_minmax (mx := true) ho hc rfl).up
  · split at h
    · rename_i hu; obtain ⟨t, ht, hu⟩ := hb2 hu
      simp only [Option.bind_eq_some_iff, Option.some.injEq] at h
      obtain ⟨q, hq, rfl⟩ := h
      exact ⟨eff_mapDelete ho hc rfl ht hu hq, mono_mapDelete _⟩
    · cases h
  · split at h
    · rename_i hu; obtain ⟨t, ht, hu⟩ := hb2 hu
      simp only [Option.bind_eq_some_iff, Option.some.injEq] at h
      obtain ⟨z, hz, rfl⟩ := h
      exact ⟨eff_clearSl ho hc rfl ht hu hz, mono_clearSl _⟩
    · rename_i hu; obtain ⟨t, ht, hu⟩ := hb2 hu; injection h with h; subst h; exact ⟨eff_clearMap ho hc rfl ht hu, mono_clearMap⟩
    · cases h
  · injection h with h; subst h; exact ⟨c, ho, hc, rfl⟩
  · injection h with h; subst h; exact (pure_sliceData ho hc rfl).up
  · split at h
    · rename_i hu; obtain ⟨t, ht, hu⟩ := hb2 hu
      split at h
      · rename_i hs; injection h with h; subst h; exact ⟨eff_strOfPtr ho hc rfl ht hu hs, mono_strOfPtr _⟩
      · cases h
    · cases h
  · injection h with h; subst h; exact .inr ⟨c, ho, hc, rfl⟩
  · cases h

theorem ext_find {fn : Func} (n : String) (hn : fn.name = n) (ho : fn.origin = "") {e : Array TypeId → Array TypeId → Array TypeId → Array Value → Sem Value}
    (h1 : ∀ (ps rs : Array TypeId), (((Extern.allNextRows.lookup n).map (· ps rs)) <|> ((Extern.allNextRows.lookup "").map (· ps rs))) = none)
    (h2 : ∀ (ts ps rs : Array TypeId), ((Extern.allGenericRows.lookup n).map (· ts ps rs) <|> (Extern.allTypedRows.lookup n).map (· ps rs) <|> Extern.allRows.lookup n) = some (e ts ps rs)) :
    Extern.findNext fn = none ∧ Extern.find fn = some (e fn.targs fn.params fn.resultTypes) := by
  unfold Extern.findNext Extern.find
  rw [hn, ho]
  refine ⟨h1 fn.params fn.resultTypes, ?_⟩
  show (((Extern.allGenericRows.lookup n).map (· fn.targs fn.params fn.resultTypes) <|> (Extern.allTypedRows.lookup n).map (· fn.params fn.resultTypes) <|> Extern.allRows.lookup n) <|> _) = _
  rw [h2]; rfl

theorem ext_ok {c : Call} {f : FuncId} {fn : Func} (hn : fn.name ≠ "runtime.NumGoroutine") (ho : o.op = .call c) (hc : c.callee = .value (.func f)) (hf : P.funcs[f]? = some fn) (hb : fn.body = none) {r : List Operand × AOp}
    (h : cExt P fn c.args.toList = some r) : OpOK P o r.1 r.2 := by
  unfold cExt at h
  split at h
  · cases h
  · rename_i hor
    have hor : fn.origin = "" := by simpa using hor
    split at h
    · rename_i hnm
      have hnm := eq_of_beq hnm
      injection h with h; subst h
      obtain ⟨e1, e2⟩ := ext_find (e := fun _ _ _ => Extern.BytealgIndexByte.indexByte) _ hnm hor (fun ps rs => by kernel_rfl) (fun ts ps rs => by kernel_rfl)
      intro D θ ρ w vs v hρ
      exact pure_indexByteString ho hc hf hb hn e1 e2 rfl D θ ρ w vs v (hρ.func f)
    · split at h
      · rename_i hnm
        have hnm := eq_of_beq hnm
        injection h with h; subst h
        obtain ⟨e1, e2⟩ := ext_find (e := fun _ _ _ => Extern.BytealgCount.count) _ hnm hor (fun ps rs => by kernel_rfl) (fun ts ps rs => by kernel_rfl)
        intro D θ ρ w vs v hρ
        exact pure_countString ho hc hf hb hn e1 e2 rfl D θ ρ w vs v (hρ.func f)
      · split at h
        · rename_i hnm
          have hnm := eq_of_beq hnm
          injection h with h; subst h
          obtain ⟨e1, e2⟩ := ext_find (e := fun _ _ _ => Extern.AbiNoEscape.same) _ hnm hor (fun ps rs => by kernel_rfl) (fun ts ps rs => by kernel_rfl)
          intro D θ ρ w vs v hρ
          exact pure_noEscape ho hc hf hb hn e1 e2 rfl D θ ρ w vs v (hρ.func f)
        · split at h
          · rename_i hnm
            have hnm := eq_of_beq hnm
            simp only [Option.bind_eq_some_iff] at h
            obtain ⟨t, ht, h⟩ := h
            split at h
            · rename_i e hu
              injection h with h; subst h
              obtain ⟨e1, e2⟩ := ext_find (e := fun _ ps rs => Extern.BytealgMakeNoZero.makeNoZero ps rs) _ hnm hor (fun ps rs => by kernel_rfl) (fun ts ps rs => by kernel_rfl)
              exact ⟨fun D θ ρ w vs ob mk hρ => alloc_makeNoZero ho hc hf hb hn e1 e2 rfl ht hu D θ ρ w vs ob mk (hρ.func f), mono_makeNoZero⟩
            · cases h
          · cases h

theorem call_ok (hP : PGood P) {c : Call} (ho : o.op = .call c) {r : List Operand × AOp} (h : cCall P c = some r) : OpOK P o r.1 r.2 := by
  unfold cCall at h
  split at h
  · rename_i f hc
    simp only [Option.bind_eq_some_iff] at h
    obtain ⟨fn, hf, h⟩ := h
    split at h
    · rename_i b hb
      injection h with h; subst h
      exact ⟨c, fn, b, ho, hc, rfl, hf, hb⟩
    · rename_i hb
      exact ext_ok (hP.names f fn hf) ho hc hf hb h
  · rename_i x _ hc; injection h with h; subst h; exact ⟨c, _, ho, hc, rfl⟩
  · rename_i hc; injection h with h; subst h; exact ⟨c, _, ho, hc, rfl⟩
  · rename_i b hc; exact builtin_ok ho hc h

theorem op_ok (hP : PGood P) {r : List Operand × AOp} (h : cOp P o.op = some r) : OpOK P o r.1 r.2 := by
  unfold cOp at h
  split at h
  · rename_i ho; injection h with h; subst h; exact (pure_move (.inl ho)).up
  · rename_i ho; injection h with h; subst h; exact (pure_move (.inr ho)).up
  · rename_i ho; injection h with h; subst h; exact (pure_pick ho).up
  · rename_i ho
    simp only [Option.bind_eq_some_iff, Option.some.injEq] at h
    obtain ⟨z, hz, rfl⟩ := h
    exact ⟨(alloc_alloc ho hz).up, mono_alloc⟩
  · rename_i ho; injection h with h; subst h; exact ⟨(alloc_box ho).up, mono_box⟩
  · rename_i t parts ho
    simp only [Option.bind_eq_some_iff] at h
    obtain ⟨z, hz, h⟩ := h
    split at h
    · rename_i fs hu
      split at h
      · rename_i hall
        simp only [Option.bind_eq_some_iff, Option.some.injEq] at h
        obtain ⟨ps, hps, rfl⟩ := h
        refine (pure_build_struct ho hz hu (fun f hf => ?_) hps).up
        have := Array.all_eq_true'.1 hall f hf
        exact Option.isSome_iff_exists.1 this
      · cases h
    · rename_i hu
      simp only [Option.bind_eq_some_iff, Option.some.injEq] at h
      obtain ⟨n, hn, ps, hps, rfl⟩ := h
      exact (pure_build_array ho hz hu hn hps).up
    · cases h
  · rename_i t len parts ho
    split at h
    · rename_i e hu
      simp only [Option.bind_eq_some_iff] at h
      obtain ⟨n, hn, z, hz, ps, hps, h⟩ := h
      split at h
      · rename_i hc
        injection h with h; subst h
        exact ⟨(alloc_buildSlice ho hu hn hz hps hc.1 hc.2).up, mono_buildSlice⟩
      · cases h
    · cases h
  · rename_i t a ho
    simp only [Option.bind_eq_some_iff] at h
    obtain ⟨r', hr, h⟩ := h
    split at h
    · injection h with h; subst h; exact read_load1 ho hr
    · injection h with h; subst h; exact read_loadN ho hr
  · rename_i t a x ho
    simp only [Option.bind_eq_some_iff, Option.some.injEq] at h
    obtain ⟨n, hn, rfl⟩ := h
    exact ⟨eff_store ho hn, mono_store _⟩
  · rename_i ho; injection h with h; subst h; exact (pure_nilCheck ho).up
  · rename_i ho; exact bin_ok ho h
  · rename_i ho; injection h with h; subst h; exact (pure_un ho).up
  · rename_i ho; exact conv_ok ho h
  · rename_i t x ho
    split at h
    · cases h
    · rename_i d hd hu
      injection h with h; subst h
      exact (pure_mkIface ho ⟨d, hu, by cases d <;> first | rfl | exact (hd _ rfl).elim⟩).up
    · cases h
  · rename_i ho; injection h with h; subst h; exact (pure_mkFunc ho).up
  · rename_i ho; injection h with h; subst h
    exact ⟨fun D θ ρ w vs ob mk hρ => alloc_mkMap ho (.inl rfl) (fun _ => trivial) D θ ρ w vs ob mk hρ.const, mono_mkMap⟩
  · rename_i t k n ho
    split at h
    · rename_i a b hu
      injection h with h; subst h
      exact ⟨fun D θ ρ w vs ob mk hρ => alloc_mkMap ho (.inr ⟨k, n, rfl, a, b, hu⟩) (fun _ => trivial) D θ ρ w vs ob mk hρ.const, mono_mkMap⟩
    · cases h
  · rename_i t l c ho
    split at h
    · rename_i e hu
      simp only [Option.bind_eq_some_iff] at h
      obtain ⟨b, hb, z, hz, n, hn, h⟩ := h
      split at h
      · rename_i hc
        injection h with h; subst h
        exact ⟨(alloc_mkSlice ho hu hb hn hz hc).up, mono_mkSlice⟩
      · cases h
    · cases h
  · rename_i t x lo hi mx ho
    split at h
    · rename_i hu
      split at h
      · injection h with h; subst h; exact (pure_sliceStr ho hu).up
      · cases h
    · rename_i e hu
      simp only [Option.bind_eq_some_iff, Option.some.injEq] at h
      obtain ⟨n, hn, rfl⟩ := h
      exact (pure_sliceSl ho hu hn).up
    · rename_i k e hu
      simp only [Option.bind_eq_some_iff, Option.some.injEq] at h
      obtain ⟨n, hn, rfl⟩ := h
      exact (pure_sliceArr ho hu hn).up
    · cases h
  · rename_i t x i ho
    split at h
    · rename_i fs hu
      simp only [Option.bind_eq_some_iff] at h
      obtain ⟨f, hf, n, hn, h⟩ := h
      split at h
      · cases h
      · rename_i hn0
        injection h with h; subst h
        exact (pure_fieldAddr ho hu hf hn (by simpa using hn0)).up
    · cases h
  · rename_i t x i ho
    split at h
    · rename_i fs hu
      simp only [Option.bind_eq_some_iff, Option.some.injEq] at h
      obtain ⟨f, hf, n, hn, rfl⟩ := h
      exact (pure_field ho hu hf hn).up
    · cases h
  · rename_i t x i ho
    split at h
    · rename_i e hu
      simp only [Option.bind_eq_some_iff, Option.some.injEq] at h
      obtain ⟨n, hn, rfl⟩ := h
      exact (pure_indexSl ho hu hn).up
    · rename_i k e hu
      simp only [Option.bind_eq_some_iff, Option.some.injEq] at h
      obtain ⟨n, hn, rfl⟩ := h
      exact (pure_indexArr ho hu hn).up
    · cases h
  · rename_i t x i ho
    split at h
    · rename_i hu; injection h with h; subst h; exact (pure_indexStr ho hu).up
    · rename_i k e hu
      simp only [Option.bind_eq_some_iff, Option.some.injEq] at h
      obtain ⟨n, hn, a, ha, rfl⟩ := h
      exact (pure_indexAgg ho hu hn ha).up
    · cases h
  · rename_i t m k ok ho
    split at h
    · rename_i kt e hu
      simp only [Option.bind_eq_some_iff, Option.some.injEq] at h
      obtain ⟨q, hq, z, hz, rfl⟩ := h
      exact read_lookup ho hu hq hz
    · cases h
  · rename_i t m k v ho
    split at h
    · rename_i kt e hu
      simp only [Option.bind_eq_some_iff, Option.some.injEq] at h
      obtain ⟨q, hq, rfl⟩ := h
      exact ⟨eff_mapUpdate (.inl ho) hu hq, mono_mapUpdate _⟩
    · cases h
  · rename_i t m k v ho
    split at h
    · rename_i kt e hu
      simp only [Option.bind_eq_some_iff, Option.some.injEq] at h
      obtain ⟨q, hq, rfl⟩ := h
      exact ⟨eff_mapUpdate (.inr ho) hu hq, mono_mapUpdate _⟩
    · cases h
  · rename_i t x ho
    split at h
    · rename_i hu; injection h with h; subst h; exact ⟨(alloc_rangeStr ho hu).up, mono_rangeStr⟩
    · cases h
  · rename_i ho; injection h with h; subst h; exact ⟨eff_nextStr ho, mono_nextStr⟩
  · rename_i x xt t ok ho
    split at h
    · cases h
    · rename_i d hd hu
      simp only [Option.bind_eq_some_iff, Option.some.injEq] at h
      obtain ⟨z, hz, rfl⟩ := h
      exact (pure_typeAssert ho hu (by cases d <;> first | rfl | exact (hd _ rfl).elim) hz).up
    · cases h
  · rename_i ho; injection h with h; subst h; exact (pure_extract ho).up
  · rename_i c ho; exact call_ok hP ho h
  · rename_i c ho
    split at h
    · rename_i f hc; injection h with h; subst h; exact ⟨c, f, ho, hc, rfl⟩
    · cases h
  · rename_i x ho; injection h with h; subst h; exact .inl ⟨x, ho, rfl⟩
  · cases h

theorem OpOK.mono {aop : AOp} (h : OpOK P o xs aop) : OpMono aop := by
  cases aop with
  | alloc f => exact h.2
  | eff f => exact h.2
  | _ => trivial
/-- what is deferred -/
def DefOK (o : Oper) (aop : AOp) : Prop := (∀ c, o.op ≠ .defer c) ∨ aop = .defer ∨ aop = .pure Op.fail
theorem def_ok {r : List Operand × AOp} (h : cOp P o.op = some r) : DefOK o r.2 := by
  by_cases hd : ∃ c, o.op = .defer c
  · obtain ⟨c, hc⟩ := hd
    rw [hc] at h
    simp only [cOp] at h
    split at h
    · injection h with h; subst h; exact .inr (.inl rfl)
    · cases h
  · exact .inl fun c hc => hd ⟨c, hc⟩

/-- an operation and its operands, as they are compiled -/
theorem oper_ok (hP : PGood P) {r : List AOpd × AOp} (h : cOper P o = some r) : ∃ xs, cOpds P.globals.size xs = some r.1 ∧ OpOK P o xs r.2 ∧ DefOK o r.2 := by
  unfold cOper at h
  split at h
  · rename_i r' hr
    injection h with h; subst h
    simp only [Option.bind_eq_some_iff, Option.some.injEq] at hr
    obtain ⟨q, hq, args, hargs, rfl⟩ := hr
    exact ⟨q.1, hargs, op_ok hP hq, def_ok hq⟩
  · injection h with h; subst h
    exact ⟨[], rfl, (pure_fail []).up, .inr (.inr rfl)⟩
end
end Go.Am
