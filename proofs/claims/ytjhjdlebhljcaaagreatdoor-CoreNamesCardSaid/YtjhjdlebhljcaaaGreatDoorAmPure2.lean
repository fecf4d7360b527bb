/- THE PURE OPERATIONS, second part: places and parts. -/
import Derived.Test.YtjhjdlebhljcaaaGreatDoorAmPure
namespace Go.Am
set_option linter.unusedVariables false
set_option linter.unusedSimpArgs false
section
variable {P : Program} {D : Nat → Prop} {θ : Th} {ρ : Operand → Value} {w : World}

/-! ### a part of an aggregate -/
theorem part_run {t : TypeId} {l : List AV} {cs : List Value} {off : Nat} {n : Option Nat} {v : AV} (hn : aggN P t = some n) (hl : VRL D θ l cs) (h : partAt l off n = some v) :
    ∃ c, (part t cs.toArray off).run P w = .ok c w ∧ VR D θ v c := by
  obtain ⟨h1, h2⟩ := isAgg_of (w := w) hn
  cases n with
  | none =>
    simp only [partAt, nth_eq] at h
    obtain ⟨c, hc, hv⟩ := hl.of_get h
    exact ⟨c, by simp [part, h1, hc], hv⟩
  | some k =>
    simp only [partAt, takeAt_eq] at h
    split at h
    · rename_i hk
      injection h with h; subst h
      refine ⟨.agg ((cs.drop off).take k).toArray, ?_, VR.agg ((hl.drop off).take k)⟩
      have hlen := hl.length
      simp only [part, Sem.run_bind, h1, Result.andThen_ok, Option.isSome_some, if_true, h2 k rfl]
      simp only [Sem.run_pure, Result.ok.injEq, Value.agg.injEq, and_true]
      apply Array.ext'
      simp [Array.toList_extract, List.extract, List.drop_take, Nat.add_sub_cancel_left]
    · cases h

theorem within_eq {i : Int} {n k : Nat} (h : within i n = some k) : i = (k : Int) ∧ k < n := by
  unfold within at h
  cases i with
  | ofNat m =>
    simp only at h
    cases hb : Nat.blt m n <;> rw [hb] at h
    · cases h
    · injection h with h; subst h; exact ⟨rfl, by simpa [Nat.blt_eq] using hb⟩
  | negSucc m => cases h

theorem pure_field {o : Oper} {t : TypeId} {x : Operand} {i : Nat} {fs : Array Field} {f : Field} {n : Option Nat} (ho : o.op = .field t x i) (ht : P.underlying t = some (.struct fs)) (hf : fs[i]? = some f) (hn : aggN P f.type = some n) :
    PureOK P o [x] (Op.field f.offset n) := by
  intro D θ ρ w vs v h hv
  unfold Op.field at hv
  split at hv
  · rename_i l
    obtain ⟨y, heq, ha⟩ := h.len1
    injection heq with heq _; subst heq
    obtain ⟨cs, hc, hl⟩ := ha.agg_inv
    obtain ⟨c, h1, h2⟩ := part_run (w := w) hn hl hv
    exact ⟨c, .inl (by simp [execOp, ho, Instr.field, run_und ht, hf, hc, asAgg, h1]), h2⟩
  · cases hv

theorem pure_fieldAddr {o : Oper} {t : TypeId} {x : Operand} {i : Nat} {fs : Array Field} {f : Field} {n : Nat} (ho : o.op = .fieldAddr t x i) (ht : P.underlying t = some (.struct fs)) (hf : fs[i]? = some f) (hn : sizeT P f.type = some n) (hn0 : n ≠ 0) :
    PureOK P o [x] (Op.fieldAddr f.offset) := by
  intro D θ ρ w vs v h hv
  unfold Op.fieldAddr at hv
  split at hv
  · rename_i b ofs
    obtain ⟨y, heq, ha⟩ := h.len1
    injection heq with heq _; subst heq
    injection hv with hv; subst hv
    have hr := ha.now
    refine ⟨.pointer (some ⟨θ.blk b, θ.off b + ofs + f.offset, none⟩), .inl ?_, fun θ' hg => ?_⟩
    · simp [execOp, ho, Instr.fieldAt, run_und ht, hf, ← hr, conc, Instr.sureAddr, fieldPlace, run_sizeT hn, hn0, addr_add]
    · have := ha θ' hg
      rw [← hr] at this
      simp [conc] at this ⊢
      omega
  · cases hv

theorem pure_indexAgg {o : Oper} {t e : TypeId} {x i : Operand} {len size : Nat} {n : Option Nat} (ho : o.op = .index t x i) (ht : P.underlying t = some (.array len e)) (hs : sizeT P e = some size) (hn : aggN P e = some n) :
    PureOK P o [x, i] (Op.indexAgg len size n) := by
  intro D θ ρ w vs v h hv
  unfold Op.indexAgg at hv
  split at hv
  · rename_i l k j
    obtain ⟨y, z, heq, ha, hb⟩ := h.len2
    injection heq with h1 h2; injection h2 with h2 _; subst h1; subst h2
    cases hw : within j len with
    | none => rw [hw] at hv; cases hv
    | some m =>
      rw [hw] at hv
      obtain ⟨rfl, hlt⟩ := within_eq hw
      obtain ⟨cs, hc, hl⟩ := ha.agg_inv
      obtain ⟨c, h1, h2⟩ := part_run (w := w) hn hl hv
      refine ⟨c, .inl ?_, h2⟩
      have hi : (0 : Int) ≤ (m : Int) ∧ (m : Int) < (len : Int) := by omega
      simp [execOp, ho, Instr.index, run_und ht, hc, ← hb.now, conc, asIntOf, hi, run_sizeT hs, h1]
      intro hh; omega
  · cases hv

theorem pure_indexStr {o : Oper} {t : TypeId} {x i : Operand} (ho : o.op = .index t x i) (ht : P.underlying t = some .string) : PureOK P o [x, i] Op.indexStr := by
  intro D θ ρ w vs v h hv
  unfold Op.indexStr at hv
  split at hv
  · rename_i s k j
    obtain ⟨y, z, heq, ha, hb⟩ := h.len2
    injection heq with h1 h2; injection h2 with h2 _; subst h1; subst h2
    cases hw : within j s.length with
    | none => rw [hw] at hv; cases hv
    | some m =>
      rw [hw] at hv
      obtain ⟨rfl, hlt⟩ := within_eq hw
      simp only [Option.bind_some, nth_eq] at hv
      obtain ⟨u, hu⟩ : ∃ u, s[m]? = some u := ⟨_, List.getElem?_eq_getElem hlt⟩
      rw [hu] at hv
      injection hv with hv; subst hv
      refine ⟨.int .u8 u.toNat, .inl ?_, .int _ _⟩
      have h0 : (0 : Int) ≤ (m : Int) := by omega
      have hg : getElem? (⟨s.toArray⟩ : ByteArray) m = some u := by
        have hz : m < (⟨s.toArray⟩ : ByteArray).size := by rw [size_mk]; exact hlt
        rw [getElem?_pos (⟨s.toArray⟩ : ByteArray) m hz]
        have h9 := (List.getElem?_eq_some_iff.1 hu).2
        simp only [Option.some.injEq]
        exact h9
      simp [execOp, ho, Instr.index, run_und ht, ← ha.now, ← hb.now, conc, asIntOf, h0, hg]
  · cases hv

/-! ### slices: elements' places -/
theorem elemAt_conc {x : AV} {c : Value} {size j b o : Nat} (h : VR D θ x c) (he : elemAt size x j = some (b, o)) :
    ∃ n m, c = .slice (some ⟨θ.blk b, θ.off b + o - j * size, none⟩) n m ∧ j < n ∧ j * size ≤ o ∧ (∀ θ', Ag D θ θ' → θ'.blk b = θ.blk b ∧ θ'.off b + o = θ.off b + o) := by
  have hr := h.now
  unfold elemAt at he
  split at he
  · rename_i b' o' n' c'
    cases hb : Nat.blt j n' <;> rw [hb] at he
    · cases he
    · simp only [cond_true, Option.some.injEq, Prod.mk.injEq] at he
      obtain ⟨rfl, rfl⟩ := he
      refine ⟨n', c', ?_, by simpa [Nat.blt_eq] using hb, by omega, fun θ' ha => ?_⟩
      · rw [← hr]; simp only [conc]; congr 3; omega
      · have := h θ' ha; rw [← hr] at this
        simp only [conc, Value.slice.injEq, Option.some.injEq, Addr.mk.injEq] at this; omega
  · rename_i b' i' m' s' alt' n'
    cases hb : (Nat.blt j n' && Nat.beq s' size && Nat.blt (i' + j) m') <;> rw [hb] at he
    · cases he
    · simp only [cond_true, Option.some.injEq, Prod.mk.injEq] at he
      obtain ⟨rfl, rfl⟩ := he
      simp only [Bool.and_eq_true, Nat.blt_eq, Nat.beq_eq] at hb
      obtain ⟨⟨h1, rfl⟩, h3⟩ := hb
      refine ⟨n', m' - i' + θ.ext b', ?_, h1, by omega, fun θ' ha => ?_⟩
      · rw [← hr]; simp only [conc]; rw [if_neg (by omega)]; congr 3; omega
      · have := h θ' ha; rw [← hr] at this
        simp only [conc, Value.slice.injEq, Option.some.injEq, Addr.mk.injEq] at this
        rw [if_neg (by omega), if_neg (by omega)] at this
        omega
  · cases he

theorem pure_indexSl {o : Oper} {t e : TypeId} {x i : Operand} {size : Nat} (ho : o.op = .indexAddr t x i) (ht : P.underlying t = some (.slice e)) (hs : sizeT P e = some size) :
    PureOK P o [x, i] (Op.indexSl size) := by
  intro D θ ρ w vs v h hv
  unfold Op.indexSl at hv
  split at hv
  · rename_i a k j
    obtain ⟨y, z, heq, ha, hb⟩ := h.len2
    injection heq with h1 h2; injection h2 with h2 _; subst h1; subst h2
    cases hl : lenV a with
    | none => rw [hl] at hv; cases hv
    | some n0 =>
      rw [hl] at hv; simp only [Option.bind_some] at hv
      cases hw : within j n0 with
      | none => rw [hw] at hv; cases hv
      | some m =>
        rw [hw] at hv; simp only [Option.bind_some] at hv
        obtain ⟨rfl, hlt⟩ := within_eq hw
        cases he : elemAt size a m with
        | none => rw [he] at hv; cases hv
        | some p =>
          obtain ⟨b, ofs⟩ := p
          rw [he] at hv; injection hv with hv; subst hv
          obtain ⟨n, c, hc, hjn, hle, hst⟩ := elemAt_conc ha he
          refine ⟨.pointer (some ⟨θ.blk b, θ.off b + ofs, none⟩), .inl ?_, fun θ' hg => ?_⟩
          · have hi : (0 : Int) ≤ (m : Int) ∧ (m : Int) < (n : Int) := by omega
            have heq : θ.off b + ofs - m * size + m * size = θ.off b + ofs := by omega
            simp [execOp, ho, Instr.indexAt, run_und ht, hc, ← hb.now, conc, asIntOf, hi, run_sizeT hs, addr_add, heq]
            intro hh; omega
          · obtain ⟨h1, h2⟩ := hst θ' hg
            simp only [conc, h1, h2]
  · cases hv

theorem pure_indexArr {o : Oper} {t e : TypeId} {x i : Operand} {len size : Nat} (ho : o.op = .indexAddr t x i) (ht : P.underlying t = some (.array len e)) (hs : sizeT P e = some size) :
    PureOK P o [x, i] (Op.indexArr len size) := by
  intro D θ ρ w vs v h hv
  unfold Op.indexArr at hv
  split at hv
  · rename_i b ofs k j
    obtain ⟨y, z, heq, ha, hb⟩ := h.len2
    injection heq with h1 h2; injection h2 with h2 _; subst h1; subst h2
    cases hw : within j len with
    | none => rw [hw] at hv; cases hv
    | some m =>
      rw [hw] at hv; injection hv with hv; subst hv
      obtain ⟨rfl, hlt⟩ := within_eq hw
      have hi : (0 : Int) ≤ (m : Int) ∧ (m : Int) < (len : Int) := by omega
      refine ⟨.pointer (some ⟨θ.blk b, θ.off b + ofs + m * size, none⟩), .inl ?_, fun θ' hg => ?_⟩
      · simp [execOp, ho, Instr.indexAt, run_und ht, ← ha.now, ← hb.now, conc, asIntOf, Instr.sureAddr, hi, run_sizeT hs, addr_add]
        intro hh; omega
      · have := ha θ' hg
        rw [← ha.now] at this
        simp [conc] at this ⊢
        omega
  · cases hv

theorem pure_nilCheck {o : Oper} {x : Operand} (ho : o.op = .nilCheck x) : PureOK P o [x] Op.nilCheck := by
  intro D θ ρ w vs v h hv
  obtain ⟨a, rfl, ha⟩ := VRL.one_inv h
  have hr := ha.now
  unfold Op.nilCheck at hv
  split at hv
  · cases hv
  · cases hv
  · cases hv
  · rename_i f a1 b1 heq
    injection heq with heq; subst heq
    injection hv with hv; subst hv
    exact ⟨ρ x, .inl (by simp [execOp, ho, ← hr, conc, concFn]), ha⟩
  · cases hv
  · rename_i a' h1 h2 h3 h4 h5 heq
    injection heq with heq; subst heq
    injection hv with hv; subst hv
    refine ⟨ρ x, .inl ?_, ha⟩
    have hρ := hr.symm
    clear hr ha h
    cases a
    case nilp => exact absurd rfl h1
    case nili => exact absurd rfl h2
    case nilf => exact absurd rfl h3
    case fn f' a' b' => exact absurd rfl (h5 f' a' b')
    all_goals (simp only [conc] at hρ; simp [execOp, ho, hρ])
  · cases hv

theorem pure_typeAssert {o : Oper} {x : Operand} {t xt : TypeId} {ok : Bool} {z : AV} {d : TypeDesc} (ho : o.op = .typeAssert x xt t ok) (ht : P.underlying t = some d) (hd : (match d with | .interface _ => false | _ => true) = true) (hz : zeroOf P t = some z) :
    PureOK P o [x] (Op.typeAssert t ok z) := by
  intro D θ ρ w vs v h hv
  obtain ⟨zc, hz1, hz2⟩ := run_zero (w := w) hz
  unfold Op.typeAssert at hv
  split at hv
  · obtain ⟨y, heq, ha⟩ := h.len1
    injection heq with heq _; subst heq
    cases ok
    · cases hv
    · injection hv with hv; subst hv
      refine ⟨.tuple #[zc, .bool false], .inl ?_, VR.tuple (VRL.cons (hz2 D θ) (.one (.bool false)))⟩
      cases d <;> simp_all [execOp, Instr.typeAssert, run_und ht, ← ha.now, conc]
  · rename_i u a
    obtain ⟨y, heq, ha⟩ := h.len1
    injection heq with heq _; subst heq
    obtain ⟨ac, hac, hav⟩ := ha.iface_inv
    cases hb : Nat.beq u t
    · rw [hb] at hv
      cases ok
      · cases hv
      · injection hv with hv; subst hv
        have hne : ¬ u = t := by intro e; subst e; simp at hb
        refine ⟨.tuple #[zc, .bool false], .inl ?_, VR.tuple (VRL.cons (hz2 D θ) (.one (.bool false)))⟩
        cases d <;> simp_all [execOp, Instr.typeAssert, run_und ht, conc]
    · rw [hb] at hv
      have he : u = t := by simpa [Nat.beq_eq] using hb
      injection hv with hv; subst hv
      cases ok
      · refine ⟨ac, .inl ?_, hav⟩
        cases d <;> simp_all [execOp, Instr.typeAssert, run_und ht, conc]
      · refine ⟨.tuple #[ac, .bool true], .inl ?_, VR.tuple (VRL.cons hav (.one (.bool true)))⟩
        cases d <;> simp_all [execOp, Instr.typeAssert, run_und ht, conc]
  · cases hv

/-! ### building -/
theorem lay_list (off : Nat) : ∀ (cs : List Value) (j : Nat) (arr : List Value), off + j + cs.length ≤ arr.length →
    ((cs.zipIdx j).foldl (fun acc (p : Value × Nat) => acc.setIfInBounds (off + p.2) p.1) arr.toArray) = (arr.take (off + j) ++ cs ++ arr.drop (off + j + cs.length)).toArray
  | [], j, arr, _ => by simp
  | c :: cs, j, arr, h => by
    simp only [List.zipIdx_cons, List.foldl_cons, List.setIfInBounds_toArray]
    rw [lay_list off cs (j + 1) (arr.set (off + j) c) (by simp at h ⊢; omega)]
    congr 1
    have ee := list_seg_step arr (off + j) c cs (by simp at h ⊢; omega)
    simpa [Nat.add_assoc] using ee
theorem lay_array (off : Nat) (cs : Array Value) (arr : List Value) (h : off + cs.size ≤ arr.length) :
    (cs.zipIdx.foldl (fun acc (p : Value × Nat) => acc.setIfInBounds (off + p.2) p.1) arr.toArray) = (arr.take off ++ cs.toList ++ arr.drop (off + cs.size)).toArray := by
  have := lay_list off cs.toList 0 arr (by simpa using h)
  rw [← Array.foldl_toList]
  simpa using this

theorem fill_run : ∀ (places : List (Nat × Nat)) (vs : List AV) (parts : List (Nat × Operand)) (pl : Nat → Option (Nat × Nat)) (out : List AV),
    placesOf pl parts = some places → VRL D θ vs (parts.map fun p => ρ p.2) → ∀ (cells : List AV) (ccells : List Value), VRL D θ cells ccells → fillAt cells places vs = some out →
    ∃ cout : List Value, Instr.fill pl ccells.toArray (parts.map fun p => (p.1, ρ p.2)) = some cout.toArray ∧ VRL D θ out cout := by
  intro places vs parts
  induction parts generalizing places vs with
  | nil =>
    intro pl out hp hv cells ccells hc hf
    simp only [placesOf, Option.some.injEq] at hp; subst hp
    have : vs = [] := by have := hv.length; simp at this; exact List.eq_nil_of_length_eq_zero (by omega)
    subst this
    simp only [fillAt, Option.some.injEq] at hf; subst hf
    exact ⟨ccells, rfl, hc⟩
  | cons p parts ih =>
    intro pl out hp hv cells ccells hc hf
    obtain ⟨i, x⟩ := p
    simp only [placesOf] at hp
    cases hpl : pl i with
    | none => rw [hpl] at hp; cases hp
    | some q =>
      obtain ⟨off, size⟩ := q
      rw [hpl] at hp; simp only [Option.bind_some] at hp
      cases hr : placesOf pl parts with
      | none => rw [hr] at hp; cases hp
      | some l =>
        rw [hr] at hp; injection hp with hp; subst hp
        cases vs with
        | nil => simp only [fillAt] at hf; cases hf
        | cons v vs =>
          obtain ⟨c, cs', h1, h2, h3⟩ := hv.uncons
          simp only [List.map_cons, List.cons.injEq] at h1
          obtain ⟨rfl, rfl⟩ := h1
          simp only [fillAt, lenL_eq] at hf
          cases hb : Nat.beq v.cells.length size
          · rw [hb] at hf; cases hf
          · rw [hb] at hf; simp only [cond_true, putAt_eq] at hf
            have hcells := h2.cells
            have hlen := hcells.length
            have hsz : (ρ x).cells.size = size := by rw [← Array.length_toList, hlen]; simpa [Nat.beq_eq] using hb
            split at hf
            · rename_i hle
              simp only [Option.bind_some] at hf
              have hcl := hc.length
              have hnew : VRL D θ (cells.take off ++ v.cells ++ cells.drop (off + v.cells.length)) (ccells.take off ++ (ρ x).cells.toList ++ ccells.drop (off + v.cells.length)) :=
                ((hc.take off).app hcells).app (hc.drop _)
              obtain ⟨cout, h5, h6⟩ := ih l vs pl out hr h3 _ _ hnew hf
              refine ⟨cout, ?_, h6⟩
              simp only [List.map_cons, Instr.fill, hpl]
              rw [if_neg (by simp only [List.size_toArray]; rw [hsz]; rw [← Array.length_toList] at hsz; simp; omega)]
              rw [← h5]
              congr 1
              have hla := lay_array off (ρ x).cells ccells (by rw [← Array.length_toList]; omega)
              rw [show v.cells.length = (ρ x).cells.size from by rw [← Array.length_toList]; omega]
              exact hla
            · cases hf

theorem parts_map (parts : Array (Nat × Operand)) : (parts.map fun (p : Nat × Operand) => (p.1, ρ p.2)).toList = parts.toList.map fun p => (p.1, ρ p.2) := by simp

/-- the places of a struct's fields, as the model reckons them -/
theorem struct_places (fs : Array Field) (hall : ∀ f ∈ fs, ∃ n, sizeT P f.type = some n) :
    ∃ pl : Array (Nat × Nat), (fs.mapM fun (f : Field) => (do pure (f.offset, ← sizeOf f.type) : Sem (Nat × Nat))).run P w = .ok pl w ∧ ∀ i : Nat, pl[i]? = structPlace P fs i := by
  have key : ∀ l : List Field, (∀ f ∈ l, ∃ n, sizeT P f.type = some n) →
      ∃ pl : List (Nat × Nat), (l.mapM fun (f : Field) => (do pure (f.offset, ← sizeOf f.type) : Sem (Nat × Nat))).run P w = .ok pl w ∧ ∀ i : Nat, pl[i]? = (l[i]?).bind fun (f : Field) => (sizeT P f.type).bind fun n => some (f.offset, n) := by
    intro l
    induction l with
    | nil => intro _; exact ⟨[], by simp, by simp⟩
    | cons f l ih =>
      intro hl
      obtain ⟨n, hn⟩ := hl f (by simp)
      obtain ⟨pl, h1, h2⟩ := ih (fun g hg => hl g (by simp [hg]))
      refine ⟨(f.offset, n) :: pl, ?_, fun i => ?_⟩
      · simp only [List.mapM_cons, Sem.run_bind, run_sizeT hn, Result.andThen_ok, Sem.run_pure, h1]
      · cases i with
        | zero => simp [hn]
        | succ i => simpa using h2 i
  obtain ⟨pl, h1, h2⟩ := key fs.toList (fun f hf => hall f (by simpa using hf))
  refine ⟨pl.toArray, ?_, fun i => ?_⟩
  · rw [Array.mapM_eq_mapM_toList]; simp only [Sem.run_map, h1, Result.andThen_ok]
  · simp [structPlace, h2 i]

theorem pure_build_struct {o : Oper} {t : TypeId} {parts : Array (Nat × Operand)} {z : AV} {fs : Array Field} {ps : List (Nat × Nat)} (ho : o.op = .build t parts) (hz : zeroOf P t = some z)
    (ht : P.underlying t = some (.struct fs)) (hall : ∀ f ∈ fs, ∃ n, sizeT P f.type = some n) (hp : placesOf (structPlace P fs) parts.toList = some ps) : PureOK P o (parts.toList.map (·.2)) (Op.build z.cells ps) := by
  intro D θ ρ w vs v h hv
  obtain ⟨zc, hz1, hz2⟩ := run_zero (w := w) hz
  obtain ⟨pl, h1, h2⟩ := struct_places (w := w) fs hall
  unfold Op.build at hv
  cases hf : fillAt z.cells ps vs with
  | none => rw [hf] at hv; cases hv
  | some out =>
    rw [hf] at hv; injection hv with hv; subst hv
    have h' : VRL D θ vs (parts.toList.map fun p => ρ p.2) := by simpa [List.map_map, Function.comp_def] using h
    obtain ⟨cout, h3, h4⟩ := fill_run (ρ := ρ) ps vs parts.toList (structPlace P fs) out hp h' z.cells zc.cells.toList (hz2 D θ).cells hf
    refine ⟨.agg cout.toArray, .inl ?_, VR.agg h4⟩
    have hpl : (fun i => pl[i]?) = structPlace P fs := funext h2
    simp only [execOp, ho, Instr.build, Sem.run_bind, hz1, Result.andThen_ok, run_und ht, h1, hpl]
    have e : (parts.map fun (p : Nat × Operand) => (p.1, ρ p.2)).toList = parts.toList.map fun p => (p.1, ρ p.2) := by simp
    simp only [Array.toArray_toList] at h3
    simp [e, h3]

theorem pure_build_array {o : Oper} {t e : TypeId} {parts : Array (Nat × Operand)} {z : AV} {len n : Nat} {ps : List (Nat × Nat)} (ho : o.op = .build t parts) (hz : zeroOf P t = some z)
    (ht : P.underlying t = some (.array len e)) (hn : sizeT P e = some n) (hp : placesOf (arrPlace n) parts.toList = some ps) : PureOK P o (parts.toList.map (·.2)) (Op.build z.cells ps) := by
  intro D θ ρ w vs v h hv
  obtain ⟨zc, hz1, hz2⟩ := run_zero (w := w) hz
  unfold Op.build at hv
  cases hf : fillAt z.cells ps vs with
  | none => rw [hf] at hv; cases hv
  | some out =>
    rw [hf] at hv; injection hv with hv; subst hv
    have h' : VRL D θ vs (parts.toList.map fun p => ρ p.2) := by simpa [List.map_map, Function.comp_def] using h
    obtain ⟨cout, h3, h4⟩ := fill_run (ρ := ρ) ps vs parts.toList (arrPlace n) out hp h' z.cells zc.cells.toList (hz2 D θ).cells hf
    refine ⟨.agg cout.toArray, .inl ?_, VR.agg h4⟩
    simp only [execOp, ho, Instr.build, Sem.run_bind, hz1, Result.andThen_ok, run_und ht, run_sizeT hn]
    have e : (parts.map fun (p : Nat × Operand) => (p.1, ρ p.2)).toList = parts.toList.map fun p => (p.1, ρ p.2) := by simp
    simp only [Array.toArray_toList] at h3
    have hpl : (fun i => some (i * n, n)) = arrPlace n := rfl
    simp [e, hpl, h3]
end
end Go.Am
