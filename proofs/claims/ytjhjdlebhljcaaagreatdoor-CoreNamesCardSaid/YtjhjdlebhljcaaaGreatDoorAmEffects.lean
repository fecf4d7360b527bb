/- EFFECTS. -/
import Derived.Test.YtjhjdlebhljcaaaGreatDoorAmAllocs
namespace Go.Am
set_option linter.unusedVariables false
set_option linter.unusedSimpArgs false

def EffOK (P : Program) (o : Oper) (xs : List Operand) (f : List AV → AHeap → Option (AV × AHeap)) : Prop :=
  ∀ base (D : Nat → Prop) θ H (ρ : Operand → Value) w vs v H', HR P base D θ H w → VRL D θ vs (xs.map ρ) → f vs H = some (v, H') → Fresh D H.next H'.next →
    ∃ θ' w' c, Gives P (execOp ρ o) w c w' ∧ HR P base (Up D H.next H'.next) θ' H' w' ∧ Grow D H θ w H' θ' w' ∧ VR (Up D H.next H'.next) θ' v c

section
variable {P : Program} {base : Nat} {D : Nat → Prop} {θ : Th} {H : AHeap} {w : World}

theorem thawed_eq {fz : Nat × Nat} {o n : Nat} (h : thawed fz o n = true) : ∀ j, j < n → ¬ (fz.1 ≤ o + j ∧ o + j < fz.2) := by
  intro j hj
  unfold thawed at h
  simp only [Bool.or_eq_true, Nat.ble_eq, Nat.beq_eq] at h
  omega

theorem mid_write (pre cs post new : List Value) (o : Nat) (h : o + new.length ≤ cs.length) :
    ((pre ++ cs ++ post).toArray.toList.take (pre.length + o) ++ new ++ (pre ++ cs ++ post).toArray.toList.drop (pre.length + o + new.length)) = pre ++ (cs.take o ++ new ++ cs.drop (o + new.length)) ++ post := by
  have e1 : (pre ++ cs ++ post).take (pre.length + o) = pre ++ cs.take o := by
    rw [List.append_assoc, List.take_append, List.take_append]
    have : pre.length + o - pre.length - cs.length = 0 := by omega
    rw [List.take_of_length_le (by omega), this, show pre.length + o - pre.length = o from by omega]; simp
  have e2 : (pre ++ cs ++ post).drop (pre.length + o + new.length) = cs.drop (o + new.length) ++ post := by
    rw [List.append_assoc, List.drop_append, List.drop_of_length_le (by omega), List.drop_append]
    have : pre.length + o + new.length - pre.length - cs.length = 0 := by omega
    rw [this, show pre.length + o + new.length - pre.length = o + new.length from by omega]; simp
  simp only [List.toList_toArray]
  rw [e1, e2]; simp

theorem HR.store (hh : HR P base D θ H w) {b o : Nat} {new : List AV} {cs : List Value} {H' : AHeap} (hv : VRL D θ new cs) (h : H.store b o new = some H') :
    ∃ w', (storeCells ⟨θ.blk b, θ.off b + o, none⟩ cs).run P w = .ok () w' ∧ HR P base D θ H' w' ∧ Grow D H θ w H' θ w' ∧ H'.next = H.next := by
  unfold AHeap.store at h
  cases hone : allOne new with
  | false => rw [hone] at h; cases h
  | true =>
    rw [hone] at h
    simp only [cond_true] at h
    have h1 := allOne_conc hv hone
    have hlen := hv.length
    split at h
    · rename_i c e fz hg
      obtain ⟨hd, co, hc, hr⟩ := hh.obj b _ hg
      obtain ⟨pre, ccs, post, cfz, et, rfl, h2, h3, h4⟩ := hr
      obtain ⟨rfl, rfl, rfl, hfz⟩ := h4 rfl
      have hl3 := h3.length
      cases ht : thawed fz o (lenL new) with
      | false => rw [ht] at h; cases h
      | true =>
        rw [ht] at h
        simp only [cond_true, putAt_eq] at h
        split at h
        · rename_i hle
          simp only [Option.bind_some, Option.some.injEq] at h; subst h
          have hthaw := thawed_eq ht
          rw [lenL_eq] at hthaw
          have hst := run_stores (P := P) (θ.off b + o) cs 0 _ w hc (by simp [← h2]; simp at h2; omega) (fun j hj => by
            have := hthaw j (by omega)
            simp only [List.length_nil] at h2
            rcases hfz with hfz | ⟨f1, f2⟩ <;> omega) h1
          rw [Nat.add_zero, ← h2, mid_write [] ccs [] cs o (by omega)] at hst
          rw [← h2]
          refine ⟨_, hst, ?_, ?_, rfl⟩
          · refine hh.set hg rfl rfl ⟨[], ccs.take o ++ cs ++ ccs.drop (o + cs.length), [], cfz, _, rfl, h2, ?_, fun _ => ⟨rfl, rfl, rfl, hfz⟩⟩
            rw [hlen]
            exact ((h3.take o).app hv).app (h3.drop _)
          · exact Grow.set hg rfl (hh.lt hg)
        · cases h
    · rename_i m s c e fz hg
      obtain ⟨hd, co, hc, hr⟩ := hh.obj b _ hg
      obtain ⟨pre, ccs, post, cfz, rfl, h2, h3, h4, h5, h6, h7, h8⟩ := hr
      have hl3 := h3.length
      cases ht : thawed fz o (lenL new) with
      | false => rw [ht] at h; cases h
      | true =>
        rw [ht] at h
        simp only [cond_true, putAt_eq] at h
        split at h
        · rename_i hle
          simp only [Option.bind_some, Option.some.injEq] at h; subst h
          have hthaw := thawed_eq ht
          rw [lenL_eq] at hthaw
          have hst := run_stores (P := P) (θ.off b + o) cs 0 _ w hc (by simp; omega) (fun j hj => by
            have := hthaw j (by omega)
            unfold FzR at h8
            omega) h1
          rw [Nat.add_zero, ← h2, mid_write pre ccs post cs o (by omega)] at hst
          rw [← h2]
          refine ⟨_, hst, ?_, ?_, rfl⟩
          · have hnl : (ccs.take o ++ cs ++ ccs.drop (o + cs.length)).length = ccs.length := by simp; omega
            refine hh.set hg rfl rfl ⟨pre, ccs.take o ++ cs ++ ccs.drop (o + cs.length), post, cfz, rfl, h2, ?_, ?_, h5, h6, h7, ?_⟩
            · rw [hlen]
              exact ((h3.take o).app hv).app (h3.drop _)
            · simp; omega
            · rw [hnl]; exact h8
          · exact Grow.set hg rfl (hh.lt hg)
        · cases h
    · cases h

theorem eff_same {D : Nat → Prop} {n : Nat} : Up D n n = D := Up.none

theorem eff_store {o : Oper} {t : TypeId} {x y : Operand} {n : Nat} (ho : o.op = .store t x y) (hs : sizeT P t = some n) : EffOK P o [x, y] (Op.store n) := by
  intro base D θ H ρ w vs v H' hh h hv hfr
  unfold Op.store at hv
  split at hv
  · rename_i b off a
    obtain ⟨x', y', he, ha, hb⟩ := h.len2
    simp only [List.cons.injEq, and_true] at he; obtain ⟨rfl, rfl⟩ := he
    cases hn : Nat.beq (lenL a.cells) n with
    | false => rw [hn] at hv; cases hv
    | true =>
      rw [hn] at hv
      simp only [cond_true, Option.bind_eq_some_iff, Option.some.injEq, Prod.mk.injEq] at hv
      obtain ⟨H1, h1, rfl, rfl⟩ := hv
      obtain ⟨w', g1, g2, g3, g4⟩ := hh.store hb.cells h1
      have hl := hb.cells.length
      simp only [lenL_eq, Nat.beq_eq] at hn
      have hsz : (ρ y).cells.size = n := by rw [← Array.length_toList]; omega
      refine ⟨θ, w', _, .inr ⟨?_, rfl⟩, by rw [g4, Up.none]; exact g2, g3, .undef⟩
      simp only [execOp, ho, ← ha.now, conc, Instr.storeAt, Instr.sureAddr, storeVar, Sem.run_bind, Sem.run_pure, Result.andThen_ok, run_sizeT hs, hsz, ne_eq, not_true_eq_false, if_false, g1]
  · cases hv

theorem run_setMap {w : World} {r : Nat} {o : Obj} {ms : Array MapEntry} {c : Nat} (h : w.heap[r]? = some (.map ms c)) : (setObj r o).run P w = .ok () (wset w r o) := by
  simp [setObj, Sem.run, h, wset]

theorem entsR.erase {D : Nat → Prop} {θ : Th} : ∀ (es : List (AV × AV × Nat)) (ms : List MapEntry) (i : Nat), entsR D θ es ms → entsR D θ (es.eraseIdx i) (ms.eraseIdx i)
  | [], [], _, _ => trivial
  | _ :: _, _ :: _, 0, ⟨_, h⟩ => h
  | _ :: es, _ :: ms, i + 1, ⟨h1, h⟩ => ⟨h1, entsR.erase es ms i h⟩
  | [], _ :: _, _, h => h.elim
  | _ :: _, [], _, h => h.elim

theorem HR.setMap (hh : HR P base D θ H w) {b : Nat} {m : List (AV × AV × Nat) × Nat} (hm : H.mapAt b = some m) {es : List (AV × AV × Nat)} {ms : List MapEntry} {c : Nat} (h : entsR D θ es ms) :
    HR P base D θ (H.set b (.map es c)) (wset w (θ.blk b) (.map ms.toArray c)) ∧ Grow D H θ w (H.set b (.map es c)) θ (wset w (θ.blk b) (.map ms.toArray c)) := by
  obtain ⟨hg, _, _⟩ := hh.mapAt hm
  exact ⟨hh.set hg rfl rfl ⟨ms, rfl, h⟩, Grow.set hg rfl (hh.lt hg)⟩

theorem eff_mapDelete {o : Oper} {c : Call} {xs : List Operand} {t kt e : TypeId} {q : EqTree} (ho : o.op = .call c) (hc : c.callee = .builtin .delete) (hx : c.args.toList = xs) (ht : c.argTypes[0]? = some t)
    (hu : P.underlying t = some (.map kt e)) (hq : keyT P kt = some q) : EffOK P o xs (Op.mapDelete q) := by
  intro base D θ H ρ w vs v H' hh h hv hfr
  obtain ⟨cc, hE⟩ := exec_builtin (ρ := ρ) ho hc
  unfold Op.mapDelete at hv
  split at hv
  · rename_i k
    obtain ⟨x, y, rfl, ha, hb⟩ := h.len2
    cases hok : okTree q k with
    | false => rw [hok] at hv; cases hv
    | true =>
      rw [hok] at hv
      simp only [cond_true, Option.some.injEq, Prod.mk.injEq] at hv
      obtain ⟨rfl, rfl⟩ := hv
      have hk := fun em => key_ok (em := em) (w := w) hq hb hok
      refine ⟨θ, w, .tuple #[], .inl ?_, by rw [Up.none]; exact hh, .refl _ _ _ _, .tuple .nil⟩
      rw [hE, args_of hx]
      simp [builtin, Builtin.delete_, ht, ← ha.now, conc, run_und hu, hk]
  · rename_i b k
    obtain ⟨x, y, rfl, ha, hb⟩ := h.len2
    cases hok : okTree q k with
    | false => rw [hok] at hv; cases hv
    | true =>
      rw [hok] at hv
      simp only [cond_true, Option.bind_eq_some_iff] at hv
      obtain ⟨m, hm, r, hr, hv⟩ := hv
      obtain ⟨_, _, ms, h1, h2⟩ := hh.mapAt hm
      have hk := fun em => key_ok (em := em) (w := w) hq hb hok
      obtain ⟨r', g1, g2⟩ := findKey_run (w := w) hq hb h2 hr
      cases r with
      | none =>
        cases r' with
        | some _ => exact g2.elim
        | none =>
          simp only [Option.some.injEq, Prod.mk.injEq] at hv
          obtain ⟨rfl, rfl⟩ := hv
          obtain ⟨k1, k2⟩ := hh.setMap hm (c := m.2) h2
          refine ⟨θ, _, .tuple #[], .inl ?_, by rw [show (H.set b (.map m.1 m.2)).next = H.next from rfl, Up.none]; exact k1, k2, .tuple .nil⟩
          rw [hE, args_of hx]
          simp [builtin, Builtin.delete_, ht, ← ha.now, conc, run_und hu, hk, g1, run_getMap h1, run_setMap h1]
      | some p =>
        obtain ⟨i, pv⟩ := p
        cases r' with
        | none => exact g2.elim
        | some p' =>
          obtain ⟨i', pc⟩ := p'
          obtain ⟨rfl, g2⟩ := g2
          simp only [Option.some.injEq, Prod.mk.injEq] at hv
          obtain ⟨rfl, rfl⟩ := hv
          obtain ⟨k1, k2⟩ := hh.setMap hm (c := m.2) (entsR.erase _ _ i h2)
          refine ⟨θ, _, .tuple #[], .inl ?_, by rw [show (H.set b (.map (m.1.eraseIdx i) m.2)).next = H.next from rfl, Up.none]; exact k1, k2, .tuple .nil⟩
          rw [hE, args_of hx]
          simp [builtin, Builtin.delete_, ht, ← ha.now, conc, run_und hu, hk, g1, run_getMap h1, run_setMap h1]
  · cases hv

theorem eff_clearMap {o : Oper} {c : Call} {xs : List Operand} {t kt e : TypeId} (ho : o.op = .call c) (hc : c.callee = .builtin .clear) (hx : c.args.toList = xs) (ht : c.argTypes[0]? = some t)
    (hu : P.underlying t = some (.map kt e)) : EffOK P o xs Op.clearMap := by
  intro base D θ H ρ w vs v H' hh h hv hfr
  obtain ⟨cc, hE⟩ := exec_builtin (ρ := ρ) ho hc
  unfold Op.clearMap at hv
  split at hv
  · obtain ⟨x, rfl, ha⟩ := h.len1
    simp only [Option.some.injEq, Prod.mk.injEq] at hv
    obtain ⟨rfl, rfl⟩ := hv
    refine ⟨θ, w, .tuple #[], .inl ?_, by rw [Up.none]; exact hh, .refl _ _ _ _, .tuple .nil⟩
    rw [hE, args_of hx]
    simp [builtin, Builtin.clear_, ht, ← ha.now, conc, run_und hu]
  · rename_i b
    obtain ⟨x, rfl, ha⟩ := h.len1
    simp only [Option.bind_eq_some_iff, Option.some.injEq, Prod.mk.injEq] at hv
    obtain ⟨m, hm, rfl, rfl⟩ := hv
    obtain ⟨_, _, ms, h1, h2⟩ := hh.mapAt hm
    obtain ⟨k1, k2⟩ := hh.setMap hm (c := m.2) (es := []) (ms := []) trivial
    refine ⟨θ, _, .tuple #[], .inl ?_, by rw [show (H.set b (.map [] m.2)).next = H.next from rfl, Up.none]; exact k1, k2, .tuple .nil⟩
    rw [hE, args_of hx]
    simp [builtin, Builtin.clear_, ht, ← ha.now, conc, run_und hu, run_getMap h1, run_setMap h1]
  · cases hv

theorem sameC_bits {n : Nat} {a b : AV} {ca cb : Value} (ha : VR D θ a ca) (hb : VR D θ b cb) (h : Op.sameC a b = true) : Instr.sameBits n ca cb = true := by
  rw [← ha.now, ← hb.now]
  cases a <;> cases b <;> simp only [Op.sameC, reduceCtorEq, Bool.false_eq_true] at h
  · cases n <;> simpa [conc, Instr.sameBits] using h
  · simp only [Bool.and_eq_true, eqI_eq, beq_iff_eq, eqK_eq, decide_eq_true_eq] at h
    cases n <;> simp [conc, Instr.sameBits, h]
  · simp only [eqS_eq, beq_iff_eq] at h
    cases n <;> simp [conc, Instr.sameBits, h, beq_toListBytes]
theorem sameL_bits {n : Nat} : ∀ {a b : List AV} {ca cb : List Value}, VRL D θ a ca → VRL D θ b cb → Op.sameL a b = true → ca.length = cb.length ∧ ((ca.zip cb).all fun (x, y) => Instr.sameBits n x y) = true
  | [], [], ca, cb, ha, hb, _ => by rw [ha.nil_inv, hb.nil_inv]; simp
  | a :: x, b :: y, ca, cb, ha, hb, h => by
    obtain ⟨c1, cs1, rfl, p1, q1⟩ := ha.uncons
    obtain ⟨c2, cs2, rfl, p2, q2⟩ := hb.uncons
    simp only [Op.sameL] at h
    cases hs : Op.sameC a b with
    | false => rw [hs] at h; cases h
    | true =>
      rw [hs] at h
      obtain ⟨e1, e2⟩ := sameL_bits (n := n) q1 q2 h
      simp only [List.length_cons, e1, List.zip_cons_cons, List.all_cons, sameC_bits p1 p2 hs, Bool.true_and, e2, and_self]
  | [], _ :: _, _, _, _, _, h => by cases h
  | _ :: _, [], _, _, _, _, h => by cases h
theorem stays_bits {n : Nat} {a b : AV} {ca cb : Value} (ha : VR D θ a ca) (hb : VR D θ b cb) (h : Op.stays a b = true) : Instr.sameBits (n + 1) ca cb = true := by
  by_cases hagg : (∃ l, a = .agg l) ∧ ∃ l, b = .agg l
  · obtain ⟨⟨l, rfl⟩, ⟨l', rfl⟩⟩ := hagg
    obtain ⟨cs, rfl, h1⟩ := ha.agg_inv
    obtain ⟨cs', rfl, h2⟩ := hb.agg_inv
    obtain ⟨e1, e2⟩ := sameL_bits (n := n) h1 h2 h
    simp [Instr.sameBits, e1]
    simpa using e2
  · refine sameC_bits ha hb ?_
    cases a <;> cases b <;> first | exact h | exact absurd ⟨⟨_, rfl⟩, ⟨_, rfl⟩⟩ hagg

theorem entsR.get {D : Nat → Prop} {θ : Th} : ∀ (es : List (AV × AV × Nat)) (ms : List MapEntry) (i : Nat) (e : AV × AV × Nat), entsR D θ es ms → es[i]? = some e → ∃ m, ms[i]? = some m ∧ entR D θ e m
  | _ :: _, m :: _, 0, e, ⟨h, _⟩, he => ⟨m, rfl, by simp at he; subst he; exact h⟩
  | _ :: es, _ :: ms, i + 1, e, ⟨_, h⟩, he => by simpa using entsR.get es ms i e h (by simpa using he)
  | [], _, _, _, _, he => by simp at he
  | _ :: _, [], _, _, h, _ => h.elim
theorem entsR.modify {D : Nat → Prop} {θ : Th} {k v : AV} {ck cv : Value} (hk : VR D θ k ck) (hv : VR D θ v cv) : ∀ (es : List (AV × AV × Nat)) (ms : List MapEntry) (i : Nat), entsR D θ es ms →
    entsR D θ (es.modify i fun e => (k, v, e.2.2)) (ms.modify i fun e => { e with key := ck, val := cv })
  | [], [], _, _ => by simp [entsR]
  | _ :: _, _ :: _, 0, ⟨⟨_, _, h3⟩, h⟩ => by simpa [entsR] using ⟨⟨hk, hv, h3⟩, h⟩
  | _ :: es, _ :: ms, i + 1, ⟨h1, h⟩ => by simpa [entsR] using ⟨h1, entsR.modify hk hv es ms i h⟩
  | [], _ :: _, _, h => h.elim
  | _ :: _, [], _, h => h.elim
theorem entsR.push {D : Nat → Prop} {θ : Th} {k v : AV} {ck cv : Value} {c : Nat} (hk : VR D θ k ck) (hv : VR D θ v cv) : ∀ (es : List (AV × AV × Nat)) (ms : List MapEntry), entsR D θ es ms →
    entsR D θ (es ++ [(k, v, c)]) (ms ++ [{ key := ck, val := cv, born := c }])
  | [], [], _ => ⟨⟨hk, hv, rfl⟩, trivial⟩
  | _ :: es, _ :: ms, ⟨h1, h⟩ => ⟨h1, entsR.push hk hv es ms h⟩
  | [], _ :: _, h => h.elim
  | _ :: _, [], h => h.elim

theorem eff_mapUpdate {o : Oper} {t kt e : TypeId} {x y z : Operand} {q : EqTree} (ho : o.op = .mapUpdate t x y z ∨ o.op = .insert t x y z) (hu : P.underlying t = some (.map kt e)) (hq : keyT P kt = some q) :
    EffOK P o [x, y, z] (Op.mapUpdate q) := by
  intro base D θ H ρ w vs v H' hh h hv hfr
  unfold Op.mapUpdate at hv
  split at hv
  · rename_i b k va
    obtain ⟨k0, v0, c0, he, ha, hb, hc⟩ := h.three_inv
    simp only [List.cons.injEq, and_true] at he; obtain ⟨rfl, rfl, rfl⟩ := he
    cases hok : okTree q k with
    | false => rw [hok] at hv; cases hv
    | true =>
      rw [hok] at hv
      simp only [cond_true, Option.bind_eq_some_iff] at hv
      obtain ⟨m, hm, r, hr, hv⟩ := hv
      obtain ⟨_, _, ms, h1, h2⟩ := hh.mapAt hm
      have hk := fun em => key_ok (em := em) (w := w) hq hb hok
      obtain ⟨r', g1, g2⟩ := findKey_run (w := w) hq hb h2 hr
      cases r with
      | none =>
        cases r' with
        | some _ => exact g2.elim
        | none =>
          simp only [Option.some.injEq, Prod.mk.injEq] at hv
          obtain ⟨rfl, rfl⟩ := hv
          obtain ⟨k1, k2⟩ := hh.setMap hm (c := m.2 + 1) (entsR.push (c := m.2) hb hc _ _ h2)
          refine ⟨θ, _, _, .inr ⟨?_, rfl⟩, by rw [show (H.set b (.map (m.1 ++ [(k, va, m.2)]) (m.2 + 1))).next = H.next from rfl, Up.none]; exact k1, k2, .undef⟩
          rcases ho with ho | ho <;> simp [execOp, ho, Instr.mapUpdate, ← ha.now, conc, run_und hu, hk, g1, run_getMap h1, run_setMap h1]
      | some p =>
        obtain ⟨i, pv⟩ := p
        cases r' with
        | none => exact g2.elim
        | some p' =>
          obtain ⟨i', pc⟩ := p'
          obtain ⟨rfl, g2⟩ := g2
          simp only [Option.bind_eq_some_iff, nth_eq] at hv
          obtain ⟨en, hen, hv⟩ := hv
          cases hst : Op.stays en.1 k with
          | false => rw [hst] at hv; cases hv
          | true =>
            rw [hst] at hv
            simp only [cond_true, Option.some.injEq, Prod.mk.injEq] at hv
            obtain ⟨rfl, rfl⟩ := hv
            obtain ⟨me, hme, ⟨e1, e2, e3⟩⟩ := entsR.get _ _ i en h2 hen
            have hsb : Instr.sameBits 10000 me.key (ρ y) = true := stays_bits (n := 9999) e1 hb hst
            have hks : (Instr.keyThatStays me.key (ρ y)).run P w = .ok (ρ y) w := by unfold Instr.keyThatStays; rw [if_pos hsb]; rfl
            obtain ⟨k1, k2⟩ := hh.setMap hm (c := m.2) (entsR.modify hb hc _ _ i h2)
            refine ⟨θ, _, _, .inr ⟨?_, rfl⟩, by rw [show (H.set b (.map (m.1.modify i fun e => (k, va, e.2.2)) m.2)).next = H.next from rfl, Up.none]; exact k1, k2, .undef⟩
            rcases ho with ho | ho <;> simp [execOp, ho, Instr.mapUpdate, ← ha.now, conc, run_und hu, hk, g1, run_getMap h1, run_setMap h1, hme, hks]
  · cases hv

theorem run_getIter {w : World} {r : Nat} {s : ByteArray} {p : Nat} (h : w.heap[r]? = some (.stringIter s p)) : (getObj r).run P w = .ok (.stringIter s p) w := by
  simp [getObj, Sem.run, h]
theorem run_setIter {w : World} {r : Nat} {o : Obj} {s : ByteArray} {p : Nat} (h : w.heap[r]? = some (.stringIter s p)) : (setObj r o).run P w = .ok () (wset w r o) := by
  simp [setObj, Sem.run, h, wset]

theorem eff_nextStr {o : Oper} {x : Operand} (ho : o.op = .next x true) : EffOK P o [x] Op.nextStr := by
  intro base D θ H ρ w vs v H' hh h hv hfr
  unfold Op.nextStr at hv
  split at hv
  · rename_i b
    obtain ⟨x', he, ha⟩ := h.len1
    simp only [List.cons.injEq, and_true] at he; subst he
    split at hv
    · rename_i s p hg
      obtain ⟨hd, co, hc, rfl, hz⟩ := hh.obj b _ hg
      split at hv
      · rename_i ch hch
        cases hb : Nat.blt ch.toNat 128 with
        | false => rw [hb] at hv; cases hv
        | true =>
          rw [hb] at hv
          simp only [cond_true, Option.some.injEq, Prod.mk.injEq] at hv
          obtain ⟨rfl, rfl⟩ := hv
          rw [nth_eq] at hch
          have hlt : p < s.length := (List.getElem?_eq_some_iff.1 hch).1
          have hget : (⟨s.toArray⟩ : ByteArray).get! p = ch := by
            show s.toArray[p]! = ch
            simp [hch]
          have hdec : Utf8.decode ⟨s.toArray⟩ p = (ch.toNat, 1) := by
            unfold Utf8.decode
            simp only [Nat.add_zero, hget]
            rw [if_pos (by simpa [Nat.blt_eq] using hb)]
          refine ⟨θ, _, .tuple [.bool true, goInt p, .int .i32 ch.toNat].toArray, .inl ?_, by rw [show (H.set b (.strIter s (p + 1))).next = H.next from rfl, Up.none]; exact hh.set hg rfl rfl ⟨rfl, hz⟩, Grow.set hg rfl (hh.lt hg), .tuple (.cons (.bool _) (.cons (.int _ _) (.one (.int _ _))))⟩
          simp [execOp, ho, Instr.next, ← ha.now, conc, hz, run_getIter hc, run_setIter hc, size_mk, hlt, hdec]
      · rename_i hch
        simp only [Option.some.injEq, Prod.mk.injEq] at hv
        obtain ⟨rfl, rfl⟩ := hv
        rw [nth_eq] at hch
        have hlt : ¬ p < s.length := by have := List.getElem?_eq_none_iff.1 hch; omega
        refine ⟨θ, w, .tuple [.bool false].toArray, .inl ?_, by rw [Up.none]; exact hh, .refl _ _ _ _, .tuple (.one (.bool _))⟩
        simp [execOp, ho, Instr.next, ← ha.now, conc, hz, run_getIter hc, size_mk, hlt]
    · cases hv
  · cases hv
end
end Go.Am
