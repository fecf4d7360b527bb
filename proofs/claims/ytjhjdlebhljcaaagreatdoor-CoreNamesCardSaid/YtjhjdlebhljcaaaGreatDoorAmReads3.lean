/- CASTS, EQUALITY -/
import Derived.Test.YtjhjdlebhljcaaaGreatDoorAmReads2
namespace Go.Am
set_option linter.unusedVariables false
set_option linter.unusedSimpArgs false
section
variable {P : Program} {base : Nat} {D : Nat → Prop} {θ : Th} {H : AHeap} {w : World}

theorem run_shape_cells {w : World} {r : Nat} {c : Array Value} {e : TypeId} {fz : Nat × Nat} (h : w.heap[r]? = some (.cells c e fz)) : w.shape? r = some (e, c.size) := by
  simp [World.shape?, h]
theorem run_viewAt_cells {w : World} {r : Nat} {c : Array Value} {e : TypeId} {fz : Nat × Nat} (h : w.heap[r]? = some (.cells c e fz)) : (viewAt r).run P w = .ok none w := by
  simp [viewAt, run_shape_cells h]
theorem run_noView_cells {w : World} {a : Addr} {c : Array Value} {e : TypeId} {fz : Nat × Nat} (h : w.heap[a.block]? = some (.cells c e fz)) : (noView a).run P w = .ok () w := by
  simp [noView, run_viewAt_cells h]
theorem run_seenAt_cells {w : World} {a : Addr} {c : Array Value} {e : TypeId} {fz : Nat × Nat} (h : w.heap[a.block]? = some (.cells c e fz)) : (Conv.seenAt a).run P w = .ok a w := by
  simp [Conv.seenAt, run_viewAt_cells h]

theorem read_castPtr {o : Oper} {src dst u : TypeId} {x : Operand} (ho : o.op = .convert src dst x)
    (hd : (P.underlying src = some (.pointer u) ∧ P.underlying dst = some .unsafePointer) ∨ (P.underlying src = some .unsafePointer ∧ P.underlying dst = some (.pointer u))) :
    ReadOK P o [x] (Op.castPtr (liesB P u)) := by
  intro base D θ H ρ w vs v hh h hv
  unfold Op.castPtr at hv
  split at hv
  · obtain ⟨x', hx', ha⟩ := h.len1
    simp only [List.cons.injEq, and_true] at hx'; subst hx'
    injection hv with hv; subst hv
    refine ⟨_, .inl ?_, ha⟩
    rcases hd with ⟨h1, h2⟩ | ⟨h1, h2⟩ <;>
      simp [execOp, ho, convert, run_und h1, run_und h2, ← ha.now, conc, Conv.unsafePointer]
  · rename_i b off
    obtain ⟨x', hx', ha⟩ := h.len1
    simp only [List.cons.injEq, and_true] at hx'; subst hx'
    split at hv
    · rename_i c e fz hg
      cases hl : liesB P u e c.length off with
      | false => rw [hl] at hv; cases hv
      | true =>
        rw [hl] at hv
        injection hv with hv; subst hv
        obtain ⟨_, co, hc, pre, cs, post, cfz, et, rfl, h2, h3, h4⟩ := hh.obj b _ hg
        obtain ⟨rfl, rfl, rfl, _⟩ := h4 rfl
        simp only [List.nil_append, List.append_nil, List.length_nil] at hc h2
        have hlen := h3.length
        unfold liesB at hl
        split at hl
        · rename_i sz hsz
          simp only [Bool.and_eq_true, Nat.blt_eq] at hl
          obtain ⟨hlt, hlies⟩ := hl
          refine ⟨_, .inl ?_, ha⟩
          have hs := run_sizeT (w := w) hsz
          have ht : w.shape? (θ.blk b) = _ := run_shape_cells hc
          have e0 : θ.off b + off = off := by omega
          have hse : (Conv.seenAt ⟨θ.blk b, off, none⟩).run P w = _ := run_seenAt_cells hc
          simp only [List.size_toArray] at ht
          rcases hd with ⟨h1, h2'⟩ | ⟨h1, h2'⟩
          · have hn : ¬ (cs.length ≤ off) := by omega
            simp [execOp, ho, convert, run_und h1, run_und h2', ← ha.now, conc, Conv.unsafePointer, e0, hse, cellsIn, ht, hs, hn]
          · rw [← hlen] at hlies
            simp [execOp, ho, convert, run_und h1, run_und h2', ← ha.now, conc, Conv.unsafePointer, e0, hse, variablesAt, ht, hs, hlies]
        · cases hl
    · cases hv
  · cases hv

/-! ### '==' -/
theorem nilEq_cases {isN isS : AV → Bool} {x y : AV} {q : Bool} (h : nilEq isN isS x y = some q) :
    (isN x = true ∧ isN y = true ∧ q = true) ∨ (isN x = true ∧ isS y = true ∧ q = false) ∨ (isS x = true ∧ isN y = true ∧ q = false) := by
  unfold nilEq at h
  cases h1 : isN x <;> cases h2 : isN y <;> cases h3 : isS x <;> cases h4 : isS y <;> simp_all

theorem FzE.not {cfz : Nat × Nat} (h : FzE (0, 0) cfz) (i : Nat) : ¬ (cfz.1 ≤ i ∧ i < cfz.2) := by
  rcases h with h | ⟨_, h⟩ <;> simp at * <;> omega

theorem ptrNe_run (hh : HR P base D θ H w) {b b' o o' : Nat} (hne : b ≠ b') (h : ptrNe H b b' = true) :
    (sameAddr ⟨θ.blk b, θ.off b + o, none⟩ ⟨θ.blk b', θ.off b' + o', none⟩).run P w = .ok false w := by
  have key : ∀ (k1 k2 o1 o2 : Nat) (c1 c2 : Array Value) (e1 e2 : TypeId) (f1 f2 : Nat × Nat), k1 ≠ k2 → w.heap[k1]? = some (.cells c1 e1 f1) → w.heap[k2]? = some (.cells c2 e2 f2) →
      ((∀ i, ¬ (f1.1 ≤ i ∧ i < f1.2)) ∧ c2.size ≠ 0 ∨ (∀ i, ¬ (f2.1 ≤ i ∧ i < f2.2)) ∧ c1.size ≠ 0) → (sameAddr ⟨k1, o1, none⟩ ⟨k2, o2, none⟩).run P w = .ok false w := by
    intro k1 k2 o1 o2 c1 c2 e1 e2 f1 f2 hk h1 h2 hc
    have s1 := run_shape_cells h1
    have s2 := run_shape_cells h2
    have n1 : (noView ⟨k1, o1, none⟩).run P w = _ := run_noView_cells h1
    have n2 : (noView ⟨k2, o2, none⟩).run P w = _ := run_noView_cells h2
    have fr1 : ∀ i, w.frozen? ⟨k1, i, none⟩ = (decide (f1.1 ≤ i) && decide (i < f1.2)) := fun i => by simp [World.frozen?, h1]
    have fr2 : ∀ i, w.frozen? ⟨k2, i, none⟩ = (decide (f2.1 ≤ i) && decide (i < f2.2)) := fun i => by simp [World.frozen?, h2]
    have hkb : (k1 == k2) = false := by simpa using hk
    rcases hc with ⟨hf, hz⟩ | ⟨hf, hz⟩
    · have fz1 : ∀ i, w.frozen? ⟨k1, i, none⟩ = false := fun i => by rw [fr1]; have := hf i; simp at this ⊢; omega
      simp only [sameAddr, Sem.run_bind, run_frozen, fz1, n1, n2, hkb, mayBeOne, stringish, run_shape, s1, s2, Sem.run_ite, Bool.false_and, Bool.false_eq_true, if_false, Sem.run_pure, Result.andThen_ok]
      cases w.frozen? ⟨k2, o2, none⟩ <;> simp [hz, s2]
    · have fz2 : ∀ i, w.frozen? ⟨k2, i, none⟩ = false := fun i => by rw [fr2]; have := hf i; simp at this ⊢; omega
      simp only [sameAddr, Sem.run_bind, run_frozen, fz2, n1, n2, hkb, mayBeOne, stringish, run_shape, s1, s2, Sem.run_ite, Bool.and_false, Bool.false_eq_true, if_false, Sem.run_pure, Result.andThen_ok]
      cases w.frozen? ⟨k1, o1, none⟩ <;> simp [hz, s1, s2, fz2]
  unfold ptrNe at h
  split at h
  · rename_i c e x c' e' fz' ow' hb hb'
    obtain ⟨_, co, hc, pre, cs, post, cfz, et, rfl, h2, h3, h4⟩ := hh.obj b _ hb
    obtain ⟨_, co', hc', pre', cs', post', cfz', et', rfl, h2', h3', h4'⟩ := hh.obj b' _ hb'
    refine key _ _ _ _ _ _ _ _ _ _ (hh.inj b b' _ _ hb hb' rfl hne) hc hc' (.inl ⟨(h4 rfl).2.2.2.not, ?_⟩)
    have := h3'.length
    simp only [List.size_toArray, List.length_append, List.length_cons] at this ⊢; omega
  · rename_i c e fz ow c' e' hb hb'
    obtain ⟨_, co, hc, pre, cs, post, cfz, et, rfl, h2, h3, h4⟩ := hh.obj b _ hb
    obtain ⟨_, co', hc', pre', cs', post', cfz', et', rfl, h2', h3', h4'⟩ := hh.obj b' _ hb'
    refine key _ _ _ _ _ _ _ _ _ _ (fun e => hh.inj b' b _ _ hb' hb rfl (fun e => hne e.symm) e.symm) hc hc' (.inr ⟨(h4' rfl).2.2.2.not, ?_⟩)
    have := h3.length
    simp only [List.size_toArray, List.length_append, List.length_cons] at this ⊢; omega
  · cases h

/-- what `eqTy` makes sure of -/
def EqTyOK (P : Program) (t : TypeId) (x y : Operand) : EqTy → Prop
  | .bool => P.underlying t = some .bool
  | .ptr => ∃ e n, P.underlying t = some (.pointer e) ∧ sizeT P e = some (n + 1)
  | .slice => ∃ e, P.underlying t = some (.slice e)
  | .map => ∃ k e, P.underlying t = some (.map k e)
  | .func => ∃ a b c, P.underlying t = some (.func a b c)
  | .iface => ∃ ms, P.underlying t = some (.interface ms) ∧ ((∃ v, x = .const v) ∨ ∃ v, y = .const v)
  | .ifaces f => (∃ ms, P.underlying t = some (.interface ms)) ∧ ∀ u q, f u = some q → treeT P 20 u = some q ∧ ∃ i, P.info? u = some i ∧ i.comparable = true
  | .agg q => P.eqGuardType P.depth t = false ∧ keyT P t = some q ∧ ((∃ fs, P.underlying t = some (.struct fs)) ∨ ∃ n e, P.underlying t = some (.array n e))

set_option maxHeartbeats 2000000 in
theorem eq_run (hh : HR P base D θ H w) {t : TypeId} {x y : Operand} {ρ : Operand → Value} {k : EqTy} (hk : EqTyOK P t x y k) {a b : AV} (ha : VR D θ a (ρ x)) (hb : VR D θ b (ρ y)) {q : Bool}
    (h : eqV H k a b = some q) (op : BinOp) (hop : op = .eql ∨ op = .neq) :
    ((do eqGuard op t x y (ρ x) (ρ y); binOp op t (ρ x) (ρ y)) : Sem Value).run P w = .ok (.bool (if op = .neq then !q else q)) w := by
  have fin : (eqGuard op t x y (ρ x) (ρ y)).run P w = .ok () w → (Op.equal t (ρ x) (ρ y)).run P w = .ok q w → (binOp .eql t (ρ x) (ρ y)).run P w = ((do pure (.bool (← Op.equal t (ρ x) (ρ y)))) : Sem Value).run P w →
      (binOp .neq t (ρ x) (ρ y)).run P w = ((do pure (.bool (!(← Op.equal t (ρ x) (ρ y))))) : Sem Value).run P w →
      ((do eqGuard op t x y (ρ x) (ρ y); binOp op t (ρ x) (ρ y)) : Sem Value).run P w = .ok (.bool (if op = .neq then !q else q)) w := by
    intro h1 h2 h3 h4
    rw [Sem.run_bind, h1, Result.andThen_ok]
    rcases hop with rfl | rfl
    · rw [h3]; simp [h2]
    · rw [h4]; simp [h2]
  obtain ⟨dd, e1, e0⟩ : ∃ d, (∀ p q, Op.equal t p q = Op.equalIn (d + 1) t p q) ∧ ∃ m, d = 20 + m := ⟨9999, fun _ _ => rfl, 9979, rfl⟩
  cases k
  case bool =>
    cases a <;> cases b <;> simp only [eqV, reduceCtorEq, Option.some.injEq] at h
    subst h
    have hu : P.underlying t = some .bool := hk
    rw [← ha.now, ← hb.now]
    rw [← ha.now, ← hb.now] at fin
    refine fin ?_ (run_equalIn_bool' w _ t _ _ hu) (by simp only [conc, binOp]) (by simp only [conc, binOp])
    rcases hop with rfl | rfl <;> simp [eqGuard, conc]
  case ptr =>
    obtain ⟨e, n, hu, hs⟩ := hk
    have hs' := run_sizeT (w := w) hs
    have hq : (Op.equal t (ρ x) (ρ y)).run P w = .ok q w := by
      cases a <;> cases b <;> simp only [eqV, reduceCtorEq, Option.some.injEq] at h
      · subst h; rw [← ha.now, ← hb.now, e1]; simp [conc, Op.equalIn, run_und hu]
      · subst h; rw [← ha.now, ← hb.now, e1]; simp [conc, Op.equalIn, run_und hu]
      · subst h; rw [← ha.now, ← hb.now, e1]; simp [conc, Op.equalIn, run_und hu]
      · rename_i b1 o1 b2 o2
        rw [← ha.now, ← hb.now, e1]
        simp only [conc, Op.equalIn, Sem.run_bind, run_und hu, Result.andThen_ok, hs', ne_eq, Nat.add_eq_zero_iff, Nat.succ_ne_zero, and_false, not_false_eq_true, if_true]
        cases hbb : Nat.beq b1 b2 with
        | true =>
          rw [hbb] at h
          have : b1 = b2 := by simpa using hbb
          subst this
          simp only [cond_true, Option.some.injEq] at h; subst h
          simp only [sameAddr, beq_self_eq_true, if_true, Sem.run_pure]
          congr 1
          by_cases ho : o1 = o2
          · subst ho; simp
          · have : Nat.beq o1 o2 = false := by simpa [← Bool.not_eq_true, Nat.beq_eq] using ho
            rw [this]
            simp [ho]
        | false =>
          rw [hbb] at h
          simp only [cond_false] at h
          cases hp : ptrNe H b1 b2 with
          | false => rw [hp] at h; cases h
          | true =>
            rw [hp] at h
            simp only [cond_true, Option.some.injEq] at h; subst h
            have hne : b1 ≠ b2 := fun e => by subst e; simp at hbb
            exact ptrNe_run hh hne hp
    cases a <;> cases b <;> simp only [eqV, reduceCtorEq, Option.some.injEq] at h <;>
      (rw [← ha.now, ← hb.now] at hq ⊢; rw [← ha.now, ← hb.now] at fin
       exact fin (by rcases hop with rfl | rfl <;> simp [eqGuard, conc]) hq (by simp only [conc, binOp]) (by simp only [conc, binOp]))
  case slice =>
    obtain ⟨e, hu⟩ := hk
    have hc := nilEq_cases h
    cases a <;> cases b <;> simp [isNils, isSlice] at hc <;>
      (subst hc; rw [← ha.now, ← hb.now]; rw [← ha.now, ← hb.now] at fin
       exact fin (by rcases hop with rfl | rfl <;> simp [eqGuard, conc]) (by rw [e1]; simp [conc, Op.equalIn, run_und hu]) (by simp only [conc, binOp]) (by simp only [conc, binOp]))
  case map =>
    obtain ⟨k, e, hu⟩ := hk
    have hc := nilEq_cases h
    cases a <;> cases b <;> simp [isNilm, isMap] at hc <;>
      (subst hc; rw [← ha.now, ← hb.now]; rw [← ha.now, ← hb.now] at fin
       exact fin (by rcases hop with rfl | rfl <;> simp [eqGuard, conc]) (by rw [e1]; simp [conc, Op.equalIn, run_und hu]) (by simp only [conc, binOp]) (by simp only [conc, binOp]))
  case func =>
    obtain ⟨p1, p2, p3, hu⟩ := hk
    have hc := nilEq_cases h
    cases a <;> cases b <;> simp [isNilf, isFn] at hc <;>
      (subst hc; rw [← ha.now, ← hb.now]; rw [← ha.now, ← hb.now] at fin
       exact fin (by rcases hop with rfl | rfl <;> simp [eqGuard, conc]) (by rw [e1]; simp [conc, Op.equalIn, run_und hu]) (by simp only [conc, binOp]) (by simp only [conc, binOp]))
  case iface =>
    obtain ⟨ms, hu, hxy⟩ := hk
    have hc := nilEq_cases h
    cases a <;> cases b <;> simp [isNili, isIface] at hc <;>
      (subst hc; rw [← ha.now, ← hb.now]; rw [← ha.now, ← hb.now] at fin
       exact fin (by rcases hop with rfl | rfl <;> rcases hxy with ⟨v, rfl⟩ | ⟨v, rfl⟩ <;> simp [eqGuard, conc]) (by rw [e1]; simp [conc, Op.equalIn, run_und hu]) (by simp only [conc, binOp]) (by simp only [conc, binOp]))
  case ifaces f =>
    obtain ⟨⟨ms, hu⟩, hf⟩ := hk
    cases a <;> cases b <;> simp only [eqV, reduceCtorEq, Option.some.injEq] at h
    · rename_i t1 v1 t2 v2
      obtain ⟨c1, hc1, hv1⟩ := ha.iface_inv
      obtain ⟨c2, hc2, hv2⟩ := hb.iface_inv
      rw [hc1, hc2] at fin ⊢
      refine fin (by rcases hop with rfl | rfl <;> simp [eqGuard]) ?_ (by simp only [binOp]) (by simp only [binOp])
      rw [e1]
      cases hbq : Nat.beq t1 t2 with
      | true =>
        rw [hbq] at h
        simp only [Nat.beq_eq] at hbq; subst hbq
        simp only [cond_true, Option.bind_eq_some_iff] at h
        obtain ⟨tr, htr, h⟩ := h
        obtain ⟨g1, i, g2, g3⟩ := hf _ _ htr
        obtain ⟨m, rfl⟩ := e0
        have hrun := eqTree_run m (D := D) (θ := θ) w 20 t1 tr g1 v1 v2 c1 c2 q hv1 hv2 h
        simp [Op.equalIn, run_und hu, typeInfo, g2, g3, hrun]
      | false =>
        rw [hbq] at h
        have hne : t1 ≠ t2 := fun e => by subst e; simp at hbq
        simp only [cond_false, Option.some.injEq] at h; subst h
        simp [Op.equalIn, run_und hu, hne]
    · subst h; rw [← ha.now, ← hb.now]; rw [← ha.now, ← hb.now] at fin
      exact fin (by rcases hop with rfl | rfl <;> simp [eqGuard, conc]) (by rw [e1]; simp [conc, Op.equalIn, run_und hu]) (by simp only [conc, binOp]) (by simp only [conc, binOp])
    · subst h; rw [← ha.now, ← hb.now]; rw [← ha.now, ← hb.now] at fin
      exact fin (by rcases hop with rfl | rfl <;> simp [eqGuard, conc]) (by rw [e1]; simp [conc, Op.equalIn, run_und hu]) (by simp only [conc, binOp]) (by simp only [conc, binOp])
  case agg tr =>
    obtain ⟨hg, hkt, hu⟩ := hk
    have hq := key_eq (w := w) hkt ha hb h
    have hagg : (∃ l, a = .agg l) ∧ ∃ l, b = .agg l := by
      have hkt : treeT P (19 + 1) t = some tr := hkt
      rw [treeT] at hkt
      rcases hu with ⟨fs, hu⟩ | ⟨n, e, hu⟩
      · rw [hu] at hkt
        simp only at hkt
        split at hkt
        · cases hkt
        · exact fieldsT_agg hkt h
      · rw [hu] at hkt
        simp only [Option.bind_eq_some_iff] at hkt
        obtain ⟨s, hs, a', ha', q1, hq1, hkt⟩ := hkt
        injection hkt with hkt; subst hkt
        exact itemsT_agg _ _ _ _ _ h
    obtain ⟨⟨l, rfl⟩, ⟨l', rfl⟩⟩ := hagg
    obtain ⟨cs, h1, _⟩ := ha.agg_inv
    obtain ⟨cs', h2, _⟩ := hb.agg_inv
    rw [h1, h2] at hq fin ⊢
    exact fin (run_eqGuard_agg w _ t x y _ _ hg) hq (by simp only [binOp]) (by simp only [binOp])

theorem read_eq {o : Oper} {t t' : TypeId} {x y : Operand} {k : EqTy} {neg : Bool} (ho : o.op = .binOp (if neg then .neq else .eql) t x y t') (hk : EqTyOK P t x y k) : ReadOK P o [x, y] (Op.eq k neg) := by
  intro base D θ H ρ w vs v hh h hv
  unfold Op.eq at hv
  split at hv
  · rename_i a b
    obtain ⟨x', y', he, ha, hb⟩ := h.len2
    simp only [List.cons.injEq, and_true] at he; obtain ⟨rfl, rfl⟩ := he
    simp only [Option.bind_eq_some_iff] at hv
    obtain ⟨q, hq, hv⟩ := hv
    injection hv with hv; subst hv
    have := eq_run hh hk ha hb hq (if neg then .neq else .eql) (by cases neg <;> simp)
    refine ⟨_, .inl ?_, .bool _⟩
    simp only [execOp, ho]
    rw [Sem.run_bind, this]
    cases neg <;> simp
  · cases hv
end
end Go.Am
