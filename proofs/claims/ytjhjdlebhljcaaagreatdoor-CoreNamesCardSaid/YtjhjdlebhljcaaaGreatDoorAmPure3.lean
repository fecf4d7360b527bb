/- THE PURE OPERATIONS, third part: slice expressions, min and max, what the library's body-less functions answer. -/
import Derived.Test.YtjhjdlebhljcaaaGreatDoorAmPure2
import Derived.Lib.Strings
import Derived.Lib.Bytealg
namespace Go.Am
set_option linter.unusedVariables false
set_option linter.unusedSimpArgs false
section
variable {P : Program} {D : Nat → Prop} {θ : Th} {ρ : Operand → Value} {w : World}

def OptR (D : Nat → Prop) (θ : Th) (ρ : Operand → Value) : Option Operand → Option AV → Prop
  | none, a => a = none
  | some x, a => ∃ v, a = some v ∧ VR D θ v (ρ x)

theorem opt_args : ∀ (opts : List (Option Operand)) (pre rest : List AV), VRL D θ rest ((optOps opts).map ρ) → ∀ (j : Nat) (o : Option Operand) (idx : Option Nat), opts[j]? = some o → (optIdx pre.length opts)[j]? = some idx →
    ∀ a, arg (pre ++ rest) idx = some a → OptR D θ ρ o a
  | [], pre, rest, h, j, o, idx, ho, hi, a, ha => by simp at ho
  | none :: opts, pre, rest, h, j, o, idx, ho, hi, a, ha => by
    cases j with
    | zero =>
      simp only [optIdx, List.getElem?_cons_zero, Option.some.injEq] at ho hi
      subst ho; subst hi
      simp only [arg, Option.some.injEq] at ha
      exact ha.symm
    | succ j => exact opt_args opts pre rest h j o idx (by simpa using ho) (by simpa [optIdx] using hi) a ha
  | some x :: opts, pre, rest, h, j, o, idx, ho, hi, a, ha => by
    cases rest with
    | nil => have := h.length; simp [optOps] at this
    | cons v rest =>
      obtain ⟨c, cs, h1, h2, h3⟩ := h.uncons
      simp only [optOps, List.map_cons, List.cons.injEq] at h1
      obtain ⟨rfl, rfl⟩ := h1
      cases j with
      | zero =>
        simp only [optIdx, List.getElem?_cons_zero, Option.some.injEq] at ho hi
        subst ho; subst hi
        simp only [arg, nth_eq] at ha
        rw [List.getElem?_append_right (Nat.le_refl _)] at ha
        simp at ha
        exact ⟨v, ha.symm, h2⟩
      | succ j =>
        refine opt_args opts (pre ++ [v]) rest h3 j o idx (by simpa using ho) (by simpa [optIdx] using hi) a ?_
        simpa using ha

theorem bound_run {o : Option Operand} {a : Option AV} {d mx r : Nat} (h : OptR D θ ρ o a) (hb : bound a d mx = some r) :
    (match o with
     | none => r = d
     | some x => (∀ code y, mx ≤ y → (Instr.sliceBound (ρ x) y code).run P w = .ok r w) ∧ r ≤ mx) := by
  cases o with
  | none =>
    simp only [OptR] at h; subst h
    simp only [bound, Option.some.injEq] at hb; exact hb.symm
  | some x =>
    obtain ⟨v, rfl, hv⟩ := h
    unfold bound at hb
    split at hb
    · rename_i heq; cases heq
    · rename_i k i heq
      injection heq with heq; subst heq
      cases hle : Nat.ble i mx <;> rw [hle] at hb
      · cases hb
      · injection hb with hb; subst hb
        have hle' : i ≤ mx := by simpa [Nat.ble_eq] using hle
        refine ⟨fun code y hy => ?_, hle'⟩
        have hi : (0 : Int) ≤ (i : Int) ∧ (i : Int) ≤ (y : Int) := by omega
        have hiy : i ≤ y := by omega
        simp [Instr.sliceBound, ← hv.now, conc, asIntOf, hi, hiy]
    · cases hb

/-- the three bounds of a slice expression -/
theorem bounds_run {lo hi mx : Option Operand} {a b m : Option AV} {isS : Bool} {len cap low M Y h l : Nat} (ha : OptR D θ ρ lo a) (hb : OptR D θ ρ hi b) (hm : OptR D θ ρ mx m)
    (hM : (mx = none ∧ M = cap) ∨ ∃ d, bound m d low = some M ∧ low ≤ cap ∧ mx.isSome = true) (hY : Y ≤ M) (hh : bound b len Y = some h) (hl : bound a 0 h = some l) (hno : mx.isSome = true → hi.isSome = true) :
    (Instr.sliceBounds isS len cap (lo.map ρ) (hi.map ρ) (mx.map ρ)).run P w = .ok (l, h, M) w := by
  have e2 := bound_run (P := P) (w := w) hb hh
  have e3 := bound_run (P := P) (w := w) ha hl
  cases mx with
  | none =>
    obtain ⟨_, rfl⟩ | ⟨_, _, _, h9⟩ := hM
    · cases hi with
      | none =>
        simp only at e2; subst e2
        cases lo with
        | none => simp only at e3; subst e3; simp [Instr.sliceBounds]
        | some x => simp [Instr.sliceBounds, e3.1 _ _ (Nat.le_refl _)]
      | some y =>
        cases lo with
        | none => simp only at e3; subst e3; simp [Instr.sliceBounds, e2.1 _ _ hY]
        | some x => simp [Instr.sliceBounds, e2.1 _ _ hY, e3.1 _ _ (Nat.le_refl _)]
    · cases h9
  | some z =>
    obtain ⟨h9, _⟩ | ⟨d, h9, hlow, _⟩ := hM
    · cases h9
    · have e1 := bound_run (P := P) (w := w) hm h9
      cases hi with
      | none => simp at hno
      | some y =>
        cases lo with
        | none => simp only at e3; subst e3; simp [Instr.sliceBounds, e1.1 _ _ hlow, e2.1 _ _ hY]
        | some x => simp [Instr.sliceBounds, e1.1 _ _ hlow, e2.1 _ _ hY, e3.1 _ _ (Nat.le_refl _)]

theorem bound_some (v : AV) (d d' : Nat) {mx : Nat} : bound (some v) d mx = bound (some v) d' mx := by
  cases v <;> try rfl
  rename_i k n; cases n <;> rfl
/-- what a bound is, of an expression that has it or not -/
theorem bound_le {o : Option Operand} {a : Option AV} {d mx r : Nat} (h : OptR D θ ρ o a) (hb : bound a d mx = some r) (hd : d ≤ mx) : r ≤ mx := by
  cases o with
  | none => simp only [OptR] at h; subst h; simp only [bound, Option.some.injEq] at hb; omega
  | some x =>
    obtain ⟨v, rfl, hv⟩ := h
    unfold bound at hb
    split at hb
    · rename_i heq; cases heq
    · rename_i k i heq
      cases hle : Nat.ble i mx <;> rw [hle] at hb
      · cases hb
      · injection hb with hb; subst hb; simpa [Nat.ble_eq] using hle
    · cases hb

theorem three_idx (lo hi mx : Option Operand) : ∃ i j k, optIdx 0 [lo, hi, mx] = [i, j, k] := by cases lo <;> cases hi <;> cases mx <;> simp [optIdx]
theorem two_idx (lo hi : Option Operand) : ∃ i j, optIdx 0 [lo, hi] = [i, j] := by cases lo <;> cases hi <;> simp [optIdx]

theorem pure_sliceStr {o : Oper} {t : TypeId} {x : Operand} {lo hi : Option Operand} (ho : o.op = .slice t x lo hi none) (ht : P.underlying t = some .string) :
    PureOK P o (x :: optOps [lo, hi]) (Op.sliceStr (optIdx 0 [lo, hi])) := by
  intro D θ ρ w vs v h hv
  obtain ⟨i, j, hij⟩ := two_idx lo hi
  rw [hij] at hv
  unfold Op.sliceStr at hv
  split at hv
  · rename_i lo' hi' s vs' heq
    injection heq with e1 e2; injection e2 with e2 _; subst e1; subst e2
    obtain ⟨c, cs, h1, h2, h3⟩ := h.uncons
    simp only [List.map_cons, List.cons.injEq] at h1
    obtain ⟨rfl, rfl⟩ := h1
    have hargs := fun (q : Nat) (oo : Option Operand) (idx : Option Nat) (h1 : [lo, hi][q]? = some oo) (h2 : [i, j][q]? = some idx) => opt_args [lo, hi] [] vs' h3 q oo idx h1 (by simpa [hij] using h2)
    cases hb : arg vs' j with
    | none => rw [hb] at hv; cases hv
    | some b =>
      rw [hb] at hv; simp only [Option.bind_some] at hv
      cases ha : arg vs' i with
      | none => rw [ha] at hv; cases hv
      | some a =>
        rw [ha] at hv; simp only [Option.bind_some, lenL_eq] at hv
        have ra := hargs 0 lo i rfl rfl a ha
        have rb := hargs 1 hi j rfl rfl b hb
        cases hh : bound b s.length s.length with
        | none => rw [hh] at hv; cases hv
        | some hh' =>
          rw [hh] at hv; simp only [Option.bind_some] at hv
          cases hl : bound a 0 hh' with
          | none => rw [hl] at hv; cases hv
          | some l =>
            rw [hl] at hv; injection hv with hv; subst hv
            have hrun := bounds_run (P := P) (w := w) (isS := false) (mx := none) (m := none) (low := 0) ra rb (rfl : OptR D θ ρ none none) (.inl ⟨rfl, rfl⟩) (Nat.le_refl _) hh hl (by simp)
            refine ⟨.string ((⟨s.toArray⟩ : ByteArray).extract l hh'), .inl ?_, fun θ' _ => ?_⟩
            · simp only [Option.map_none] at hrun
              simp [execOp, ho, Instr.sliceAt, run_und ht, Instr.slice, ← h2.now, conc, size_mk, hrun]
            · simp only [conc, Value.string.injEq]
              apply WideShapes.bytes_inj
              rw [Lib.extract_data]
              simp [List.drop_take]
  · cases hv

theorem sliceV_run {size : Nat} {x : AV} {c : Value} {lo hi mx : Option Operand} {a b m : Option AV} {v : AV} (hx : VR D θ x c) (ha : OptR D θ ρ lo a) (hb : OptR D θ ρ hi b) (hm : OptR D θ ρ mx m) (hv : sliceV size x a b m = some v) :
    ∃ ad len cap l h M, c = .slice ad len cap ∧ (∀ isS, (Instr.sliceBounds isS len cap (lo.map ρ) (hi.map ρ) (mx.map ρ)).run P w = .ok (l, h, M) w) ∧
      VR D θ v (.slice (if M = l then ad else ad.map (·.add (l * size))) (h - l) (M - l)) := by
  have hr := hx.now
  unfold sliceV at hv
  split at hv
  · -- nil
    split at hv
    · rename_i mx' 
      cases hh : bound b 0 0 with
      | none => rw [hh] at hv; cases hv
      | some h =>
        rw [hh] at hv; simp only [Option.bind_some] at hv
        cases hl : bound a 0 h with
        | none => rw [hl] at hv; cases hv
        | some l =>
          rw [hl] at hv; injection hv with hv; subst hv
          have hmx : mx = none := by
            cases mx with
            | none => rfl
            | some z => obtain ⟨_, h9, _⟩ := hm; cases h9
          subst hmx
          have h0 : h = 0 ∧ l = 0 := by
            have q2 := bound_le hb hh (Nat.le_refl _)
            have q3 := bound_le ha hl (Nat.zero_le _)
            omega
          obtain ⟨rfl, rfl⟩ := h0
          refine ⟨none, 0, 0, 0, 0, 0, hr.symm, fun isS => bounds_run (low := 0) ha hb hm (.inl ⟨rfl, rfl⟩) (Nat.le_refl _) hh hl (by simp), fun θ' _ => by simp [conc]⟩
    · cases hv
  · -- a slice of a known capacity
    rename_i bb oo n cc
    split at hv
    · cases hv
    · rename_i hnn
      cases hM : bound m cc cc with
      | none => rw [hM] at hv; cases hv
      | some M =>
        rw [hM] at hv; simp only [Option.bind_some] at hv
        cases hh : bound b n M with
        | none => rw [hh] at hv; cases hv
        | some h =>
          rw [hh] at hv; simp only [Option.bind_some] at hv
          cases hl : bound a 0 h with
          | none => rw [hl] at hv; cases hv
          | some l =>
            rw [hl] at hv; injection hv with hv; subst hv
            have hno : mx.isSome = true → hi.isSome = true := by
              intro h9
              cases mx with
              | none => cases h9
              | some z =>
                obtain ⟨_, hz, _⟩ := hm
                cases hi with
                | some _ => rfl
                | none => simp only [OptR] at hb; subst hb; exact absurd (hnn _ hz) (by simp)
            have hMM : (mx = none ∧ M = cc) ∨ ∃ d, bound m d cc = some M ∧ cc ≤ cc ∧ mx.isSome = true := by
              cases mx with
              | none => simp only [OptR] at hm; subst hm; simp only [bound, Option.some.injEq] at hM; exact .inl ⟨rfl, hM.symm⟩
              | some z => exact .inr ⟨cc, hM, Nat.le_refl _, rfl⟩
            refine ⟨_, n, cc, l, h, M, hr.symm, fun isS => bounds_run ha hb hm hMM (Nat.le_refl _) hh hl hno, fun θ' hg => ?_⟩
            have hst := hx θ' hg
            rw [← hr] at hst
            simp only [conc, Value.slice.injEq, Option.some.injEq, Addr.mk.injEq] at hst ⊢
            by_cases e : M = l
            · subst e; simp [Nat.beq_refl] <;> omega
            · have e' : Nat.beq M l = false := by rw [Bool.eq_false_iff]; simpa [Nat.beq_eq] using e
              rw [e']
              simp [e, addr_add] <;> omega
  · -- a grown row's slice
    rename_i bb i m' s alt n
    cases hc : (Nat.beq s size && Nat.ble i m') <;> rw [hc] at hv
    · cases hv
    · simp only [Bool.and_eq_true, Nat.beq_eq, Nat.ble_eq] at hc
      obtain ⟨rfl, him⟩ := hc
      simp only [cond_true] at hv
      split at hv
      · -- no third bound
        rename_i hi'
        have hmx : mx = none := by
          cases mx with
          | none => rfl
          | some z => obtain ⟨_, h9, _⟩ := hm; cases h9
        subst hmx
        cases hh : bound b n (m' - i) with
        | none => rw [hh] at hv; cases hv
        | some h =>
          rw [hh] at hv; simp only [Option.bind_some] at hv
          cases hl : bound a 0 h with
          | none => rw [hl] at hv; cases hv
          | some l =>
            rw [hl] at hv; simp only [Option.bind_some] at hv
            cases hb2 : Nat.ble h (m' - i) <;> rw [hb2] at hv
            · cases hv
            · injection hv with hv; subst hv
              have hhm : h ≤ m' - i := by simpa [Nat.ble_eq] using hb2
              have hlh := bound_le ha hl (Nat.zero_le _)
              refine ⟨_, n, _, l, h, _, hr.symm, fun isS => bounds_run (low := 0) ha hb hm (.inl ⟨rfl, rfl⟩) (Nat.le_add_right _ _) hh hl (by simp), fun θ' hg => ?_⟩
              have hst := hx θ' hg
              rw [← hr] at hst
              simp only [conc, Value.slice.injEq, Option.some.injEq, Addr.mk.injEq, and_true, true_and] at hst
              obtain ⟨⟨q1, q2⟩, q3⟩ := hst
              have hext : θ'.ext bb = θ.ext bb := by omega
              have hmul : (i + l) * s = i * s + l * s := Nat.add_mul i l s
              simp only [conc, Value.slice.injEq, true_and, hext, hmul]
              refine ⟨?_, by omega⟩
              by_cases e : m' - i + θ.ext bb = l
              · rw [if_pos e, if_pos (by omega)]
                simp only [Option.some.injEq, Addr.mk.injEq, and_true]
                refine ⟨q1, ?_⟩
                rw [hext] at q2
                by_cases l0 : l = 0
                · subst l0; rw [if_pos e] at q2 ⊢; exact q2
                · have : Nat.beq l 0 = false := by rw [Bool.eq_false_iff]; simpa [Nat.beq_eq] using l0
                  rw [this]
                  rw [if_neg (by omega)] at q2 ⊢; exact q2
              · rw [if_neg e, if_neg (by omega)]
                simp only [Option.map_some, addr_add, Option.some.injEq, Addr.mk.injEq, and_true]
                refine ⟨q1, ?_⟩
                rw [hext] at q2
                rw [if_neg (by omega)] at q2 ⊢
                omega
      · cases hv
      · -- a third bound
        rename_i hno1 hno2
        cases hM : bound m 0 (m' - i) with
        | none => rw [hM] at hv; cases hv
        | some M =>
          rw [hM] at hv; simp only [Option.bind_some] at hv
          cases hh : bound b 0 M with
          | none => rw [hh] at hv; cases hv
          | some h =>
            rw [hh] at hv; simp only [Option.bind_some] at hv
            cases hl : bound a 0 h with
            | none => rw [hl] at hv; cases hv
            | some l =>
              rw [hl] at hv; simp only [Option.bind_some] at hv
              cases hb2 : Nat.beq M l <;> rw [hb2] at hv
              · injection hv with hv; subst hv
                have hne : M ≠ l := by intro e; subst e; simp at hb2
                obtain ⟨z, hz, hz2⟩ : ∃ z, mx = some z ∧ ∃ v, m = some v := by
                  cases mx with
                  | none => simp only [OptR] at hm; exact absurd hm hno1
                  | some z => obtain ⟨v, h9, _⟩ := hm; exact ⟨z, rfl, v, h9⟩
                obtain ⟨mv, hmv⟩ := hz2
                have hhi : hi.isSome = true := by
                  cases hi with
                  | some _ => rfl
                  | none => simp only [OptR] at hb; exact absurd hb (hno2 _ hmv)
                have hMle := bound_le hm hM (Nat.zero_le _)
                have hhM := bound_le hb hh (Nat.zero_le _)
                have hlh := bound_le ha hl (Nat.zero_le _)
                have hh' : bound b n M = some h := by
                  obtain ⟨y, hy⟩ := Option.isSome_iff_exists.1 hhi
                  subst hy
                  obtain ⟨bv, h9, _⟩ := hb
                  subst h9
                  rw [bound_some bv n 0]; exact hh
                refine ⟨_, n, _, l, h, M, hr.symm, fun isS => bounds_run ha hb hm (.inr ⟨0, hM, Nat.le_add_right _ _, by rw [hz]; rfl⟩) (Nat.le_refl _) hh' hl (fun _ => hhi), fun θ' hg => ?_⟩
                have hst := hx θ' hg
                rw [← hr] at hst
                simp only [conc, Value.slice.injEq, Option.some.injEq, Addr.mk.injEq, and_true, true_and] at hst
                obtain ⟨⟨q1, q2⟩, q3⟩ := hst
                have hext : θ'.ext bb = θ.ext bb := by omega
                have hmul : (i + l) * s = i * s + l * s := Nat.add_mul i l s
                simp only [conc, Value.slice.injEq, and_true, hmul, if_neg hne, Option.map_some, addr_add, Option.some.injEq, Addr.mk.injEq]
                refine ⟨q1, ?_⟩
                rw [hext, if_neg (by omega)] at q2
                rw [if_neg (by omega)]
                omega
              · cases hv
  · -- a slice without room
    rename_i bb
    split at hv
    · rename_i mx'
      cases hh : bound b 0 0 with
      | none => rw [hh] at hv; cases hv
      | some h =>
        rw [hh] at hv; simp only [Option.bind_some] at hv
        cases hl : bound a 0 h with
        | none => rw [hl] at hv; cases hv
        | some l =>
          rw [hl] at hv; injection hv with hv; subst hv
          have hmx : mx = none := by
            cases mx with
            | none => rfl
            | some z => obtain ⟨_, h9, _⟩ := hm; cases h9
          subst hmx
          have h0 : h = 0 ∧ l = 0 := by
            have q2 := bound_le hb hh (Nat.le_refl _)
            have q3 := bound_le ha hl (Nat.zero_le _)
            omega
          obtain ⟨rfl, rfl⟩ := h0
          refine ⟨_, 0, 0, 0, 0, 0, hr.symm, fun isS => bounds_run (low := 0) ha hb hm (.inl ⟨rfl, rfl⟩) (Nat.le_refl _) hh hl (by simp), fun θ' hg => ?_⟩
          rw [hx θ' hg, ← hr]
          rfl
    · cases hv
  · cases hv

theorem pure_sliceSl {o : Oper} {t e : TypeId} {x : Operand} {lo hi mx : Option Operand} {size : Nat} (ho : o.op = .slice t x lo hi mx) (ht : P.underlying t = some (.slice e)) (hs : sizeT P e = some size) :
    PureOK P o (x :: optOps [lo, hi, mx]) (Op.sliceSl size (optIdx 0 [lo, hi, mx])) := by
  intro D θ ρ w vs v h hv
  obtain ⟨i, j, k, hij⟩ := three_idx lo hi mx
  rw [hij] at hv
  unfold Op.sliceSl at hv
  split at hv
  · rename_i lo' hi' mx' y vs' heq
    injection heq with e1 e2; injection e2 with e2 e3; injection e3 with e3 _; subst e1; subst e2; subst e3
    obtain ⟨c, cs, h1, h2, h3⟩ := h.uncons
    simp only [List.map_cons, List.cons.injEq] at h1
    obtain ⟨rfl, rfl⟩ := h1
    have hargs := fun (q : Nat) (oo : Option Operand) (idx : Option Nat) (h1 : [lo, hi, mx][q]? = some oo) (h2 : [i, j, k][q]? = some idx) => opt_args [lo, hi, mx] [] vs' h3 q oo idx h1 (by simpa [hij] using h2)
    cases ha : arg vs' i with
    | none => rw [ha] at hv; cases hv
    | some a =>
      rw [ha] at hv; simp only [Option.bind_some] at hv
      cases hb : arg vs' j with
      | none => rw [hb] at hv; cases hv
      | some b =>
        rw [hb] at hv; simp only [Option.bind_some] at hv
        cases hm : arg vs' k with
        | none => rw [hm] at hv; cases hv
        | some m =>
          rw [hm] at hv; simp only [Option.bind_some] at hv
          obtain ⟨ad, len, cap, l, hh, M, hc, hrun, hvr⟩ := sliceV_run (P := P) (w := w) h2 (hargs 0 lo i rfl rfl a ha) (hargs 1 hi j rfl rfl b hb) (hargs 2 mx k rfl rfl m hm) hv
          refine ⟨_, .inl ?_, hvr⟩
          simp [execOp, ho, Instr.sliceAt, run_und ht, Instr.slice, hc, hrun, run_sizeT hs]
  · cases hv

theorem pure_sliceArr {o : Oper} {t e : TypeId} {x : Operand} {lo hi mx : Option Operand} {n size : Nat} (ho : o.op = .slice t x lo hi mx) (ht : P.underlying t = some (.array n e)) (hs : sizeT P e = some size) :
    PureOK P o (x :: optOps [lo, hi, mx]) (Op.sliceArr n size (optIdx 0 [lo, hi, mx])) := by
  intro D θ ρ w vs v h hv
  obtain ⟨i, j, k, hij⟩ := three_idx lo hi mx
  rw [hij] at hv
  unfold Op.sliceArr at hv
  split at hv
  · rename_i lo' hi' mx' p ofs vs' heq
    injection heq with e1 e2; injection e2 with e2 e3; injection e3 with e3 _; subst e1; subst e2; subst e3
    obtain ⟨c, cs, h1, h2, h3⟩ := h.uncons
    simp only [List.map_cons, List.cons.injEq] at h1
    obtain ⟨rfl, rfl⟩ := h1
    have hargs := fun (q : Nat) (oo : Option Operand) (idx : Option Nat) (h1 : [lo, hi, mx][q]? = some oo) (h2 : [i, j, k][q]? = some idx) => opt_args [lo, hi, mx] [] vs' h3 q oo idx h1 (by simpa [hij] using h2)
    cases ha : arg vs' i with
    | none => rw [ha] at hv; cases hv
    | some a =>
      rw [ha] at hv; simp only [Option.bind_some] at hv
      cases hb : arg vs' j with
      | none => rw [hb] at hv; cases hv
      | some b =>
        rw [hb] at hv; simp only [Option.bind_some] at hv
        cases hm : arg vs' k with
        | none => rw [hm] at hv; cases hv
        | some m =>
          rw [hm] at hv; simp only [Option.bind_some] at hv
          have hx : VR D θ (.slice p ofs n n) (.slice (some ⟨θ.blk p, θ.off p + ofs, none⟩) n n) := fun θ' hg => by
            have := h2 θ' hg; rw [← h2.now] at this; simp [conc] at this ⊢; omega
          obtain ⟨ad, len, cap, l, hh, M, hc, hrun, hvr⟩ := sliceV_run (P := P) (w := w) hx (hargs 0 lo i rfl rfl a ha) (hargs 1 hi j rfl rfl b hb) (hargs 2 mx k rfl rfl m hm) hv
          injection hc with c1 c2 c3; subst c1; subst c2; subst c3
          refine ⟨_, .inl ?_, hvr⟩
          have hrun' := hrun false
          simp only [execOp, ho, Instr.sliceAt, Sem.run_bind, run_und ht, Result.andThen_ok, ← h2.now, conc, Instr.sureAddr, Sem.run_pure, hrun', run_sizeT hs]
          by_cases e : M = l <;> simp [e]
  · cases hv

/-! ### the rest -/
theorem minmax_go {mx : Bool} {k : IntKind} : ∀ (l : List AV) (cs : List Value) (a r : Int), VRL D θ l cs → Op.minmaxGo mx a l = some r →
    (cs.foldlM (fun x y => if mx then Builtin.max2 x y else Builtin.min2 x y) (Value.int k a)).run P w = .ok (.int k r) w
  | [], cs, a, r, h, hg => by
    have := h.nil_inv; subst this
    simp only [Op.minmaxGo, Option.some.injEq] at hg; subst hg
    simp
  | v :: l, cs, a, r, h, hg => by
    obtain ⟨c, cs', rfl, hc, hl⟩ := h.uncons
    cases v with
    | int k' b =>
      simp only [Op.minmaxGo] at hg
      have ih := minmax_go (mx := mx) (k := k) l cs' _ r hl hg
      have hcv := hc.now
      simp only [conc] at hcv; subst hcv
      simp only [ltI_eq] at ih
      have s1 : (Builtin.min2 (.int k a) (.int k' b)).run P w = .ok (.int k (if b < a then b else a)) w := rfl
      have s2 : (Builtin.max2 (.int k a) (.int k' b)).run P w = .ok (.int k (if b > a then b else a)) w := rfl
      cases mx
      · simp only [List.foldlM_cons, Bool.false_eq_true, if_false, Sem.run_bind, s1, Result.andThen_ok]
        simp only [Bool.false_eq_true, if_false, cond_false] at ih
        by_cases q : b < a
        · simp only [q, decide_true, cond_true, if_true] at ih ⊢; exact ih
        · simp only [q, decide_false, cond_false, if_false] at ih ⊢; exact ih
      · simp only [List.foldlM_cons, if_true, Sem.run_bind, s2, Result.andThen_ok]
        simp only [if_true, cond_true] at ih
        by_cases q : a < b
        · have q' : b > a := q
          simp only [q, q', decide_true, cond_true, if_true] at ih ⊢; exact ih
        · have q' : ¬ b > a := q
          simp only [q, q', decide_false, cond_false, if_false] at ih ⊢; exact ih
    | _ => simp [Op.minmaxGo] at hg

theorem pure_minmax {o : Oper} {c : Call} {xs : List Operand} {mx : Bool} (ho : o.op = .call c) (hc : c.callee = .builtin (if mx then .max else .min)) (hx : c.args.toList = xs) : PureOK P o xs (Op.minmax mx) := by
  intro D θ ρ w vs v h hv
  obtain ⟨consts, he⟩ := exec_builtin (ρ := ρ) ho hc
  unfold Op.minmax at hv
  split at hv
  · rename_i k a l
    cases hg : Op.minmaxGo mx a l with
    | none => rw [hg] at hv; cases hv
    | some r =>
      rw [hg] at hv; injection hv with hv; subst hv
      obtain ⟨c', cs', h1, h2, h3⟩ := h.uncons
      have hrun := minmax_go (P := P) (w := w) (k := k) l cs' a r h3 hg
      have hcv := h2.now
      simp only [conc] at hcv; subst hcv
      refine ⟨.int k r, .inl ?_, .int _ _⟩
      rw [he, args_of hx, h1]
      cases mx
      · simp only [Bool.false_eq_true, if_false] at hrun ⊢
        simp [builtin, Builtin.min_, hrun]
      · simp only [if_true] at hrun ⊢
        simp [builtin, Builtin.max_, hrun]
  · cases hv

theorem pure_strOfInt {o : Oper} {src dst : TypeId} {x : Operand} {k : IntKind} (ho : o.op = .convert src dst x) (h1 : P.underlying src = some (.int k)) (h2 : P.underlying dst = some .string) : PureOK P o [x] Op.strOfInt := by
  intro D θ ρ w vs v h hf
  unfold Op.strOfInt at hf
  split at hf
  · rename_i k' n
    obtain ⟨y, heq, ha⟩ := h.len1
    injection heq with heq _; subst heq
    simp only [leI_eq, ltI_eq] at hf
    cases hb : (decide ((0 : Int) ≤ n) && decide (n < 128)) <;> rw [hb] at hf
    · cases hf
    · injection hf with hf; subst hf
      simp only [Bool.and_eq_true, decide_eq_true_eq] at hb
      refine ⟨.string (Utf8.encode n), .inl ?_, fun θ' _ => ?_⟩
      · simp [execOp, ho, ← ha.now, conc, convert, run_und h1, run_und h2, Conv.intToString]
      · simp only [conc, Value.string.injEq]
        obtain ⟨m, rfl⟩ := Int.eq_ofNat_of_zero_le hb.1
        have hm : m < 128 := by omega
        have hv : Utf8.valid (m : Int) = true := by simp [Utf8.valid]; omega
        simp only [Utf8.encode, hv, if_true, Int.toNat_natCast, hm]
  · cases hf

theorem sliceData_nil (ts : Array TypeId) (ty : TypeId) (n c : Nat) : (Builtin.unsafeSliceData_ ts ty #[.slice none n c]).run P w = .ok (.pointer none) w := rfl
theorem sliceData_some (ts : Array TypeId) (ty : TypeId) (a : Addr) (n c : Nat) (h : c ≠ 0) : (Builtin.unsafeSliceData_ ts ty #[.slice (some a) n c]).run P w = .ok (.pointer (some a)) w := by
  change Sem.run P (ite (c ≠ 0) _ _) w = _
  rw [if_pos h]; rfl

theorem pure_sliceData {o : Oper} {c : Call} {xs : List Operand} (ho : o.op = .call c) (hc : c.callee = .builtin .unsafeSliceData) (hx : c.args.toList = xs) : PureOK P o xs Op.sliceData := by
  intro D θ ρ w vs v h hv
  obtain ⟨consts, he⟩ := exec_builtin (ρ := ρ) ho hc
  unfold Op.sliceData at hv
  split at hv
  · obtain ⟨x, rfl, ha⟩ := h.len1
    injection hv with hv; subst hv
    refine ⟨.pointer none, .inl ?_, fun _ _ => rfl⟩
    rw [he, args_of hx]
    simp only [builtin, ← ha.now, conc, List.map_cons, List.map_nil, Sem.run_bind, sliceData_nil, Result.andThen_ok, Sem.run_pure]
  · rename_i b ofs n cc
    obtain ⟨x, rfl, ha⟩ := h.len1
    cases hb : Nat.beq cc 0 <;> rw [hb] at hv
    · injection hv with hv; subst hv
      have h0 : cc ≠ 0 := by intro e; subst e; simp at hb
      refine ⟨.pointer (some ⟨θ.blk b, θ.off b + ofs, none⟩), .inl ?_, fun θ' hg => ?_⟩
      · rw [he, args_of hx]
        simp only [builtin, ← ha.now, conc, List.map_cons, List.map_nil, Sem.run_bind, sliceData_some _ _ _ _ _ h0, Result.andThen_ok, Sem.run_pure]
      · have := ha θ' hg; rw [← ha.now] at this; simp [conc] at this ⊢; omega
    · cases hv
  · rename_i b i m s alt n
    obtain ⟨x, rfl, ha⟩ := h.len1
    cases hb : Nat.blt i m <;> rw [hb] at hv
    · cases hv
    · injection hv with hv; subst hv
      have him : i < m := by simpa [Nat.blt_eq] using hb
      have h0 : ¬ (m - i + θ.ext b = 0) := by omega
      refine ⟨.pointer (some ⟨θ.blk b, θ.off b + i * s, none⟩), .inl ?_, fun θ' hg => ?_⟩
      · rw [he, args_of hx]
        simp only [builtin, ← ha.now, conc, List.map_cons, List.map_nil]
        rw [if_neg h0]
        simp only [Sem.run_bind, sliceData_some _ _ _ _ _ h0, Result.andThen_ok, Sem.run_pure]
      · have := ha θ' hg; rw [← ha.now] at this
        simp only [conc, Value.slice.injEq, Option.some.injEq, Addr.mk.injEq, and_true, true_and] at this
        rw [if_neg h0, if_neg (by omega)] at this
        simp only [conc, Value.pointer.injEq, Option.some.injEq, Addr.mk.injEq, and_true]
        omega
  · cases hv

/-! ### the library's functions without a body -/
theorem exec_ext {o : Oper} {c : Call} {f : FuncId} {fn : Func} {e : Array Value → Sem Value} (ho : o.op = .call c) (hc : c.callee = .value (.func f)) (hρ : ρ (.func f) = .func (.func f) #[] #[]) (hf : P.funcs[f]? = some fn) (hb : fn.body = none)
    (hn : fn.name ≠ "runtime.NumGoroutine") (h1 : Extern.findNext fn = none) (h2 : Extern.find fn = some e) :
    (execOp ρ o).run P w = ((e (c.args.map ρ)).run P w).andThen fun v w' => .ok (.value v) w' := by
  simp [execOp, ho, resolve, hc, hρ, Deferred.ofValue, invoke, callFunc, hf, hb, hn, h1, h2]

theorem bytesOf_str (s : List UInt8) : (Extern.Bytes.bytesOf (.string ⟨s.toArray⟩)).run P w = .ok ⟨s.toArray⟩ w := rfl
theorem asByte_run (n : Int) : (Extern.Bytes.asByte (.int .u8 n)).run P w = .ok (UInt8.ofNat n.toNat) w := rfl

theorem findByte_eq (c : UInt8) (s : List UInt8) (k : Nat) : findByte c s k = ((List.range s.length).find? fun i => s[i]! == c).map (· + k) := by
  induction s generalizing k with
  | nil => rfl
  | cons x s ih =>
    simp only [findByte, eqB_eq, List.length_cons]
    rw [List.range_succ_eq_map, List.find?_cons]
    have hm : (List.find? (fun i => (x :: s)[i]! == c) (List.map Nat.succ (List.range s.length))) = ((List.range s.length).find? fun i => s[i]! == c).map Nat.succ := by
      rw [List.find?_map]; rfl
    rw [hm, ih (k + 1)]
    have h0 : (x :: s)[0]! = x := rfl
    rw [h0]
    cases h : (x == c)
    · simp only [cond_false, Option.map_map]
      congr 1
      funext i; simp; omega
    · simp

theorem get!_mk (s : List UInt8) (i : Nat) : (⟨s.toArray⟩ : ByteArray)[i]! = s[i]! := by
  by_cases h : i < s.length
  · have hz : i < (⟨s.toArray⟩ : ByteArray).size := by rw [size_mk]; exact h
    rw [getElem!_pos (⟨s.toArray⟩ : ByteArray) i hz, getElem!_pos s i h]
    rfl
  · have hz : ¬ i < (⟨s.toArray⟩ : ByteArray).size := by rw [size_mk]; exact h
    rw [getElem!_neg (⟨s.toArray⟩ : ByteArray) i hz, getElem!_neg s i h]

theorem indexByte_eq {P : Program} {w : World} (s : List UInt8) (n : Int) : (Extern.BytealgIndexByte.indexByte #[.string ⟨s.toArray⟩, .int .u8 n]).run P w =
    .ok (match (List.range s.length).find? (fun i => s[i]! == UInt8.ofNat n.toNat) with | some i => goInt i | none => goInt (-1)) w := by
  change Sem.run P (Extern.Bytes.bytesOf (.string ⟨s.toArray⟩) >>= _) w = _
  rw [Sem.run_bind, bytesOf_str]
  change Sem.run P (Extern.Bytes.asByte (.int .u8 n) >>= _) w = _
  rw [Sem.run_bind, asByte_run]
  have hfun : (fun i => (⟨s.toArray⟩ : ByteArray)[i]! == UInt8.ofNat n.toNat) = (fun i => s[i]! == UInt8.ofNat n.toNat) := funext fun i => by rw [get!_mk]
  simp only [Result.andThen_ok, size_mk, hfun]
  cases (List.range s.length).find? (fun i => s[i]! == UInt8.ofNat n.toNat) <;> rfl
theorem count_eq {P : Program} {w : World} (s : List UInt8) (n : Int) : (Extern.BytealgCount.count #[.string ⟨s.toArray⟩, .int .u8 n]).run P w =
    .ok (goInt ((⟨s.toArray⟩ : ByteArray).foldl (fun n' x => if x == UInt8.ofNat n.toNat then n' + 1 else n') (0 : Nat))) w := by
  change Sem.run P (Extern.Bytes.bytesOf (.string ⟨s.toArray⟩) >>= _) w = _
  rw [Sem.run_bind, bytesOf_str]
  change Sem.run P (Extern.Bytes.asByte (.int .u8 n) >>= _) w = _
  rw [Sem.run_bind, asByte_run]
  rfl
theorem same_eq (a : Value) : Extern.AbiNoEscape.same #[a] = pure a := rfl

theorem pure_indexByteString {o : Oper} {c : Call} {f : FuncId} {fn : Func} {xs : List Operand} (ho : o.op = .call c) (hc : c.callee = .value (.func f)) (hf : P.funcs[f]? = some fn) (hb : fn.body = none)
    (hn : fn.name ≠ "runtime.NumGoroutine") (h1 : Extern.findNext fn = none) (h2 : Extern.find fn = some Extern.BytealgIndexByte.indexByte) (hx : c.args.toList = xs) :
    ∀ (D : Nat → Prop) θ (ρ : Operand → Value) w vs v, ρ (.func f) = .func (.func f) #[] #[] → VRL D θ vs (xs.map ρ) → Op.indexByteString vs = some v → ∃ c, Gives P (execOp ρ o) w c w ∧ VR D θ v c := by
  intro D θ ρ w vs v hρ h hv
  unfold Op.indexByteString at hv
  split at hv
  · rename_i s n
    obtain ⟨x, y, rfl, ha, hb'⟩ := h.len2
    injection hv with hv; subst hv
    refine ⟨_, .inl ?_, .int _ _⟩
    rw [exec_ext ho hc hρ hf hb hn h1 h2, args_of hx]
    have hfun : (fun i => (⟨s.toArray⟩ : ByteArray)[i]! == UInt8.ofNat n.toNat) = (fun i => s[i]! == UInt8.ofNat n.toNat) := funext fun i => by rw [get!_mk]
    simp only [List.map_cons, List.map_nil, ← ha.now, ← hb'.now, conc, indexByte_eq, Sem.run_bind, bytesOf_str, asByte_run, Result.andThen_ok, size_mk, hfun]
    rw [findByte_eq]
    cases hq : (List.range s.length).find? (fun i => s[i]! == UInt8.ofNat n.toNat) <;> simp [goInt]
  · cases hv

theorem countB_eq (c : UInt8) (s : List UInt8) (k : Int) : s.foldl (fun (n : Int) x => if (x == c) = true then n + 1 else n) k = k + (countB c s : Int) := by
  induction s generalizing k with
  | nil => simp [countB]
  | cons x s ih =>
    simp only [List.foldl_cons, countB, eqB_eq]
    rw [ih]
    cases h : (x == c) <;> simp <;> omega

theorem pure_countString {o : Oper} {c : Call} {f : FuncId} {fn : Func} {xs : List Operand} (ho : o.op = .call c) (hc : c.callee = .value (.func f)) (hf : P.funcs[f]? = some fn) (hb : fn.body = none)
    (hn : fn.name ≠ "runtime.NumGoroutine") (h1 : Extern.findNext fn = none) (h2 : Extern.find fn = some Extern.BytealgCount.count) (hx : c.args.toList = xs) :
    ∀ (D : Nat → Prop) θ (ρ : Operand → Value) w vs v, ρ (.func f) = .func (.func f) #[] #[] → VRL D θ vs (xs.map ρ) → Op.countString vs = some v → ∃ c, Gives P (execOp ρ o) w c w ∧ VR D θ v c := by
  intro D θ ρ w vs v hρ h hv
  unfold Op.countString at hv
  split at hv
  · rename_i s n
    obtain ⟨x, y, rfl, ha, hb'⟩ := h.len2
    injection hv with hv; subst hv
    refine ⟨_, .inl ?_, .int _ _⟩
    rw [exec_ext ho hc hρ hf hb hn h1 h2, args_of hx]
    simp only [List.map_cons, List.map_nil, ← ha.now, ← hb'.now, conc, count_eq, Sem.run_bind, bytesOf_str, asByte_run, Result.andThen_ok]
    rw [Lib.foldl_data, countB_eq]
    simp [Sem.run_pure, Result.andThen_ok, goInt]
  · cases hv

theorem pure_noEscape {o : Oper} {c : Call} {f : FuncId} {fn : Func} {xs : List Operand} (ho : o.op = .call c) (hc : c.callee = .value (.func f)) (hf : P.funcs[f]? = some fn) (hb : fn.body = none)
    (hn : fn.name ≠ "runtime.NumGoroutine") (h1 : Extern.findNext fn = none) (h2 : Extern.find fn = some Extern.AbiNoEscape.same) (hx : c.args.toList = xs) :
    ∀ (D : Nat → Prop) θ (ρ : Operand → Value) w vs v, ρ (.func f) = .func (.func f) #[] #[] → VRL D θ vs (xs.map ρ) → Op.noEscape vs = some v → ∃ c, Gives P (execOp ρ o) w c w ∧ VR D θ v c := by
  intro D θ ρ w vs v hρ h hv
  unfold Op.noEscape at hv
  split at hv
  · rename_i a
    obtain ⟨x, rfl, ha⟩ := h.len1
    injection hv with hv; subst hv
    refine ⟨ρ x, .inl ?_, ha⟩
    rw [exec_ext ho hc hρ hf hb hn h1 h2, args_of hx]
    simp only [List.map_cons, List.map_nil, same_eq, Sem.run_pure, Result.andThen_ok]
  · cases hv

theorem pure_fail {o : Oper} (xs : List Operand) : PureOK P o xs Op.fail := by
  intro D θ ρ w vs v _ hv
  cases hv
end
end Go.Am
