/- A PLAN: what its check makes sure of; the orders that the model may draw. -/
import Derived.Test.YtjhjdlebhljcaaaGreatDoorAmCode
namespace Go.Am
set_option linter.unusedVariables false
set_option linter.unusedSimpArgs false

theorem subB_bit {a b : Nat} (h : subB a b = true) {j : Nat} (hj : a.testBit j = true) : b.testBit j = true := by
  unfold subB at h
  simp only [Nat.beq_eq] at h
  have h2 : (a &&& b).testBit j = a.testBit j := by
    rw [show a &&& b = Nat.land a b from rfl, h]
  rw [Nat.testBit_and, hj] at h2
  simpa using h2
theorem lor_bit (a b j : Nat) : (Nat.lor a b).testBit j = (a.testBit j || b.testBit j) := Nat.testBit_or a b j
theorem land_bit (a b j : Nat) : (Nat.land a b).testBit j = (a.testBit j && b.testBit j) := Nat.testBit_and a b j
theorem pow_bit (i j : Nat) : (2 ^ i).testBit j = decide (i = j) := Nat.testBit_two_pow

theorem bitsOf_bit : ∀ (l : List (Bool × Nat)) (d j : Nat), (bitsOf l d).testBit j = true ↔ d.testBit j = true ∨ (false, j) ∈ l
  | [], d, j => by simp [bitsOf]
  | (true, r) :: l, d, j => by rw [bitsOf, bitsOf_bit l]; simp
  | (false, i) :: l, d, j => by
    rw [bitsOf, bitsOf_bit l, lor_bit, pow_bit]
    simp only [Bool.or_eq_true, decide_eq_true_eq, List.mem_cons, Prod.mk.injEq, true_and]
    constructor
    · rintro ((h | h) | h)
      · exact .inl h
      · exact .inr (.inl h.symm)
      · exact .inr (.inr h)
    · rintro (h | h | h)
      · exact .inl (.inl h)
      · exact .inl (.inr h.symm)
      · exact .inr h
theorem bitsOf_app : ∀ (l m : List (Bool × Nat)) (d : Nat), bitsOf (l ++ m) d = bitsOf m (bitsOf l d)
  | [], m, d => rfl
  | (true, r) :: l, m, d => by rw [List.cons_append, bitsOf, bitsOf, bitsOf_app l]
  | (false, i) :: l, m, d => by rw [List.cons_append, bitsOf, bitsOf, bitsOf_app l]
theorem looksOf_bit : ∀ (l : List (Bool × Nat)) (d r : Nat), (looksOf l d).testBit r = true → d.testBit r = true ∨ ∃ u : Nat, l[u]? = some (true, r) ∧ ∀ v : Nat, v ≤ u → ∃ r', l[v]? = some (true, r')
  | [], d, r, h => .inl h
  | (false, i) :: l, d, r, h => .inl h
  | (true, r') :: l, d, r, h => by
    rw [looksOf] at h
    rcases looksOf_bit l _ r h with h | ⟨u, h1, h2⟩
    · rw [lor_bit, pow_bit] at h
      simp only [Bool.or_eq_true, decide_eq_true_eq] at h
      rcases h with h | h
      · exact .inl h
      · subst h
        refine .inr ⟨0, rfl, fun v hv => ⟨r', ?_⟩⟩
        obtain rfl : v = 0 := by omega
        rfl
    · refine .inr ⟨u + 1, by simpa using h1, fun v hv => ?_⟩
      cases v with
      | zero => exact ⟨r', rfl⟩
      | succ v => simpa using h2 v (by omega)
theorem maskOf_bit (p : Nat → Bool) : ∀ (n j : Nat), (maskOf p n).testBit j = true ↔ j < n ∧ p j = true
  | 0, j => by simp [maskOf]
  | n + 1, j => by
    rw [maskOf]
    cases hp : p n with
    | true =>
      simp only [cond_true, lor_bit, pow_bit, Bool.or_eq_true, decide_eq_true_eq, maskOf_bit p n]
      constructor
      · rintro (⟨h1, h2⟩ | h)
        · exact ⟨by omega, h2⟩
        · subst h; exact ⟨by omega, hp⟩
      · rintro ⟨h1, h2⟩
        by_cases e : n = j
        · exact .inr e
        · exact .inl ⟨by omega, h2⟩
    | false =>
      simp only [cond_false, maskOf_bit p n]
      constructor
      · rintro ⟨h1, h2⟩; exact ⟨by omega, h2⟩
      · rintro ⟨h1, h2⟩
        refine ⟨?_, h2⟩
        by_cases e : n = j
        · subst e; rw [hp] at h2; cases h2
        · omega
theorem allLt_get {p : Nat → Bool} : ∀ {n : Nat}, allLt p n = true → ∀ i, i < n → p i = true
  | 0, _, i, hi => by omega
  | n + 1, h, i, hi => by
    rw [allLt, Bool.and_eq_true] at h
    by_cases e : i = n
    · subst e; exact h.1
    · exact allLt_get h.2 i (by omega)
theorem isCls_eq (c d : Cls) : isCls c d = true ↔ c = d := by cases c <;> cases d <;> simp [isCls]
theorem hasNat_eq (t : Nat) : ∀ l, hasNat t l = true ↔ t ∈ l
  | [] => by simp [hasNat]
  | x :: l => by
    rw [hasNat, Bool.or_eq_true, hasNat_eq t l]
    simp only [Nat.beq_eq, List.mem_cons]
    constructor
    · rintro (h | h)
      · exact .inl h.symm
      · exact .inr h
    · rintro (h | h)
      · exact .inl h.symm
      · exact .inr h

theorem scan_at {I : PlanI} : ∀ {plan : List (Bool × Nat)} {d : Nat}, planScan I plan d = true →
    (∀ pre x post, plan = pre ++ x :: post → planCond I (bitsOf pre d) post x = true) ∧ subB (2 ^ I.n - 1) (bitsOf plan d) = true
  | [], d, h => ⟨fun pre x post e => by simp at e, h⟩
  | (false, i) :: l, d, h => by
    rw [planScan, Bool.and_eq_true] at h
    obtain ⟨h1, h2⟩ := scan_at h.2
    refine ⟨fun pre x post e => ?_, h2⟩
    cases pre with
    | nil =>
      simp only [List.nil_append, List.cons.injEq] at e
      obtain ⟨rfl, rfl⟩ := e
      exact h.1
    | cons y pre =>
      simp only [List.cons_append, List.cons.injEq] at e
      obtain ⟨rfl, e⟩ := e
      exact h1 pre x post e
  | (true, r) :: l, d, h => by
    rw [planScan, Bool.and_eq_true] at h
    obtain ⟨h1, h2⟩ := scan_at h.2
    refine ⟨fun pre x post e => ?_, h2⟩
    cases pre with
    | nil =>
      simp only [List.nil_append, List.cons.injEq] at e
      obtain ⟨rfl, rfl⟩ := e
      exact h.1
    | cons y pre =>
      simp only [List.cons_append, List.cons.injEq] at e
      obtain ⟨rfl, e⟩ := e
      exact h1 pre x post e

/-- what a good plan fulfils -/
structure PlanF (I : PlanI) (plan : List (Bool × Nat)) : Prop where
  all : ∀ i : Nat, i < I.n → ∃ p : Nat, plan[p]? = some (false, i)
  lt : ∀ p i : Nat, plan[p]? = some (false, i) → i < I.n
  one : ∀ p p' i : Nat, plan[p]? = some (false, i) → plan[p']? = some (false, i) → p = p'
  anc : ∀ p i j : Nat, plan[p]? = some (false, i) → (I.anc i).testBit j = true → ∃ p' : Nat, p' < p ∧ plan[p']? = some (false, j)
  made : ∀ p i p' j : Nat, plan[p]? = some (false, i) → (I.cls i = .read ∨ I.cls i = .eff) → plan[p']? = some (false, j) → p' < p → (I.cls j = .alloc ∨ I.cls j = .eff) → (I.anc i).testBit j = true
  look : ∀ p e p' r : Nat, plan[p]? = some (false, e) → I.cls e = .eff → plan[p']? = some (false, r) → p' < p → I.cls r = .read → (I.anc e).testBit r = false →
    ∃ u : Nat, p < u ∧ plan[u]? = some (true, r) ∧ ∀ v : Nat, p < v → v ≤ u → ∃ r', plan[v]? = some (true, r')
  again : ∀ p r : Nat, plan[p]? = some (true, r) → I.cls r = .read ∧ I.self r = true ∧ (∃ p' : Nat, p' < p ∧ plan[p']? = some (false, r)) ∧
    ∀ w p' : Nat, plan[p']? = some (false, w) → p' < p → w ≠ r → I.ment r w = true → (I.anc r).testBit w = true
  temps : ∀ r w : Nat, r < I.n → w < I.n → r ≠ w → I.ment r w = true → (I.anc r).testBit w = true ∨ (I.anc w).testBit r = true

theorem split_at {α : Type} {l : List α} {p : Nat} {x : α} (h : l[p]? = some x) : l = l.take p ++ x :: l.drop (p + 1) := by
  obtain ⟨hp, hx⟩ := List.getElem?_eq_some_iff.1 h
  rw [← hx]
  simp
theorem mem_take {α : Type} {l : List α} {p : Nat} {x : α} : x ∈ l.take p ↔ ∃ p' : Nat, p' < p ∧ l[p']? = some x := by
  rw [List.mem_iff_getElem?]
  constructor
  · rintro ⟨i, hi⟩
    rw [List.getElem?_take] at hi
    split at hi
    · exact ⟨i, by assumption, hi⟩
    · cases hi
  · rintro ⟨i, hi, h⟩
    exact ⟨i, by rw [List.getElem?_take, if_pos hi]; exact h⟩

theorem planF_of {I : PlanI} {plan : List (Bool × Nat)} (hmade : I.made = maskOf (fun i => isMade (I.cls i)) I.n) (hreads : I.reads = maskOf (fun i => isCls (I.cls i) .read) I.n) (h : planScan I plan 0 = true) (ht : tempsOk I = true) : PlanF I plan := by
  obtain ⟨hc, hall⟩ := scan_at h
  have at_ : ∀ {p : Nat} {x : Bool × Nat}, plan[p]? = some x → planCond I (bitsOf (plan.take p) 0) (plan.drop (p + 1)) x = true := fun hx => hc _ _ _ (split_at hx)
  have done : ∀ p j : Nat, (bitsOf (plan.take p) 0).testBit j = true ↔ ∃ p' : Nat, p' < p ∧ plan[p']? = some (false, j) := fun p j => by
    rw [bitsOf_bit, mem_take]; simp
  have run : ∀ {p i : Nat}, plan[p]? = some (false, i) → i < I.n ∧ (bitsOf (plan.take p) 0).testBit i = false ∧ subB (I.anc i) (bitsOf (plan.take p) 0) = true ∧
      ((I.cls i = .read ∨ I.cls i = .eff) → subB (Nat.land (bitsOf (plan.take p) 0) I.made) (I.anc i) = true) ∧
      (I.cls i = .eff → subB (Nat.land (bitsOf (plan.take p) 0) I.reads) (Nat.lor (I.anc i) (looksOf (plan.drop (p + 1)) 0)) = true) := fun {p i} hp => by
    have := at_ hp
    simp only [planCond, Bool.and_eq_true, Nat.blt_eq, Bool.not_eq_true'] at this
    obtain ⟨h1, h2, h3, h4⟩ := this
    refine ⟨h1, h2, h3, fun hh => ?_, fun hh => ?_⟩
    · rcases hh with hh | hh
      · rw [hh] at h4; exact h4
      · rw [hh] at h4; simp only [Bool.and_eq_true] at h4; exact h4.1
    · rw [hh] at h4; simp only [Bool.and_eq_true] at h4; exact h4.2
  have one : ∀ p p' i : Nat, plan[p]? = some (false, i) → plan[p']? = some (false, i) → p = p' := by
    intro p p' i hp hp'
    rcases Nat.lt_trichotomy p p' with hlt | rfl | hlt
    · have := (run hp').2.1
      rw [(done p' i).2 ⟨p, hlt, hp⟩] at this; cases this
    · rfl
    · have := (run hp).2.1
      rw [(done p i).2 ⟨p', hlt, hp'⟩] at this; cases this
  refine ⟨fun i hi => ?_, fun p i hp => (run hp).1, one, fun p i j hp hj => (done p j).1 (subB_bit (run hp).2.2.1 hj), fun p i p' j hp hcl hp' hlt hcj => ?_, fun p e p' r hp hce hp' hlt hcr hna => ?_, fun p r hp => ?_, fun r w hr hw hne hm => ?_⟩
  · have : (2 ^ I.n - 1).testBit i = true := by rw [Nat.testBit_two_pow_sub_one]; simpa using hi
    have := subB_bit hall this
    rw [bitsOf_bit] at this
    rcases this with h | h
    · simp at h
    · exact List.mem_iff_getElem?.1 h
  · refine subB_bit ((run hp).2.2.2.1 hcl) ?_
    rw [land_bit, (done p j).2 ⟨p', hlt, hp'⟩, hmade, (maskOf_bit _ _ _).2 ⟨(run hp').1, ?_⟩]
    · rfl
    · simp only [isMade, Bool.or_eq_true, isCls_eq]; exact hcj
  · have := subB_bit ((run hp).2.2.2.2 hce) (j := r) (by
      rw [land_bit, (done p r).2 ⟨p', hlt, hp'⟩, hreads, (maskOf_bit _ _ _).2 ⟨(run hp').1, by rw [isCls_eq]; exact hcr⟩]; rfl)
    rw [lor_bit, hna, Bool.false_or] at this
    rcases looksOf_bit _ _ _ this with h | ⟨u, h1, h2⟩
    · simp at h
    · rw [List.getElem?_drop] at h1
      refine ⟨p + 1 + u, by omega, h1, fun v hv1 hv2 => ?_⟩
      obtain ⟨r', hr'⟩ := h2 (v - (p + 1)) (by omega)
      rw [List.getElem?_drop, show p + 1 + (v - (p + 1)) = v from by omega] at hr'
      exact ⟨r', hr'⟩
  · have := at_ hp
    simp only [planCond, Bool.and_eq_true, isCls_eq] at this
    obtain ⟨h1, h0, h2, h3⟩ := this
    refine ⟨h1, h0, (done p r).1 h2, fun w p' hp' hlt hne hm => subB_bit h3 ?_⟩
    rw [land_bit, (done p w).2 ⟨p', hlt, hp'⟩, (maskOf_bit _ _ _).2 ⟨(run hp').1, ?_⟩]
    · rfl
    · simp only [Bool.and_eq_true, Bool.not_eq_true', hm, and_true]
      cases hb : Nat.beq w r with
      | false => rfl
      | true => simp only [Nat.beq_eq] at hb; exact absurd hb hne
  · have := allLt_get (allLt_get ht r hr) w hw
    simp only [Bool.or_eq_true, Nat.beq_eq, hm, Bool.not_true, or_false] at this
    rcases this with h | h | h | h
    · exact absurd h hne
    · exact .inl h
    · exact .inr h
    · cases h

/-! ### the orders that the model may draw -/
theorem before_size (ops : Array Oper) : (Region.before ops).size = ops.size := by
  unfold Region.before
  rw [← Array.foldl_toList]
  have : ∀ (l : List Oper) (acc : Array Nat), (l.foldl (fun acc o => acc.push (o.after.foldl (fun s e => if Region.binds .any e then s ||| 2 ^ e.on ||| acc.getD e.on 0 else s) 0)) acc).size = acc.size + l.length := by
    intro l
    induction l with
    | nil => intro acc; rfl
    | cons o l ih => intro acc; rw [List.foldl_cons, ih]; simp; omega
  rw [this]; simp

/-- a bit that edges lay -/
theorem edges_bit (acc : Array Nat) (j : Nat) : ∀ (l : List Edge) (s : Nat), (l.foldl (fun s e => if Region.binds .any e then s ||| 2 ^ e.on ||| acc.getD e.on 0 else s) s).testBit j = true →
    s.testBit j = true ∨ ∃ e ∈ l, Region.binds .any e = true ∧ (e.on = j ∨ (acc.getD e.on 0).testBit j = true)
  | [], s, h => .inl h
  | e :: l, s, h => by
    rw [List.foldl_cons] at h
    rcases edges_bit acc j l _ h with h | ⟨e', h1, h2⟩
    · split at h
      · rename_i hb
        simp only [Nat.testBit_or, Nat.testBit_two_pow, Bool.or_eq_true, decide_eq_true_eq] at h
        rcases h with (h | h) | h
        · exact .inl h
        · exact .inr ⟨e, by simp, hb, .inl h⟩
        · exact .inr ⟨e, by simp, hb, .inr h⟩
      · exact .inl h
    · exact .inr ⟨e', by simp [h1], h2⟩
theorem edges_all (acc : Array Nat) : ∀ (l : List Edge) (s : Nat), (∀ j, s.testBit j = true → (l.foldl (fun s e => if Region.binds .any e then s ||| 2 ^ e.on ||| acc.getD e.on 0 else s) s).testBit j = true) ∧
    ∀ e ∈ l, Region.binds .any e = true → (l.foldl (fun s e => if Region.binds .any e then s ||| 2 ^ e.on ||| acc.getD e.on 0 else s) s).testBit e.on = true
  | [], s => ⟨fun j h => h, fun e he => by simp at he⟩
  | e :: l, s => by
    obtain ⟨h1, h2⟩ := edges_all acc l (if Region.binds .any e then s ||| 2 ^ e.on ||| acc.getD e.on 0 else s)
    refine ⟨fun j hj => ?_, fun e' he' hb => ?_⟩
    · rw [List.foldl_cons]
      refine h1 j ?_
      split
      · simp [Nat.testBit_or, hj]
      · exact hj
    · rw [List.foldl_cons]
      rcases List.mem_cons.1 he' with rfl | he'
      · refine h1 _ ?_
        rw [if_pos hb]
        simp [Nat.testBit_or, Nat.testBit_two_pow]
      · exact h2 e' he' hb

/-- the ancestors of an operation: by its edges -/
theorem before_spec (ops : Array Oper) : ∀ (i : Nat) (o : Oper), ops[i]? = some o →
    (∀ e ∈ o.after.toList, Region.binds .any e = true → ((Region.before ops).getD i 0).testBit e.on = true) ∧
    (∀ j, ((Region.before ops).getD i 0).testBit j = true → ∃ e ∈ o.after.toList, Region.binds .any e = true ∧ (e.on = j ∨ (e.on < i ∧ ((Region.before ops).getD e.on 0).testBit j = true))) := by
  have key : ∀ (l : List Oper) (acc : Array Nat), let R := l.foldl (fun acc o => acc.push (o.after.foldl (fun s e => if Region.binds .any e then s ||| 2 ^ e.on ||| acc.getD e.on 0 else s) 0)) acc
      (∀ i, i < acc.size → R.getD i 0 = acc.getD i 0) ∧ acc.size ≤ R.size ∧ ∀ (i : Nat) (o : Oper), l[i]? = some o →
        (∀ e ∈ o.after.toList, Region.binds .any e = true → (R.getD (acc.size + i) 0).testBit e.on = true) ∧
        (∀ j, (R.getD (acc.size + i) 0).testBit j = true → ∃ e ∈ o.after.toList, Region.binds .any e = true ∧ (e.on = j ∨ (e.on < acc.size + i ∧ (R.getD e.on 0).testBit j = true))) := by
    intro l
    induction l with
    | nil => intro acc; exact ⟨fun i hi => rfl, Nat.le_refl _, fun i o h => by simp at h⟩
    | cons o l ih =>
      intro acc
      simp only [List.foldl_cons]
      generalize hv : o.after.foldl (fun s e => if Region.binds .any e then s ||| 2 ^ e.on ||| acc.getD e.on 0 else s) 0 = v
      rw [← Array.foldl_toList] at hv
      obtain ⟨h1, h2, h3⟩ := ih (acc.push v)
      generalize (l.foldl (fun acc o => acc.push (o.after.foldl (fun s e => if Region.binds .any e then s ||| 2 ^ e.on ||| acc.getD e.on 0 else s) 0)) (acc.push v)) = R at h1 h2 h3
      have hsz : (acc.push v).size = acc.size + 1 := by simp
      have hlow : ∀ i, i < acc.size → R.getD i 0 = acc.getD i 0 := fun i hi => by
        rw [h1 i (by omega)]
        simp [Array.getD_eq_getD_getElem?, Array.getElem?_push, Nat.ne_of_lt hi]
      have hat : R.getD acc.size 0 = v := by
        rw [h1 acc.size (by omega)]
        simp [Array.getD_eq_getD_getElem?, Array.getElem?_push]
      refine ⟨hlow, by omega, fun i o' ho' => ?_⟩
      cases i with
      | zero =>
        simp only [List.getElem?_cons_zero, Option.some.injEq] at ho'
        subst ho'
        rw [Nat.add_zero, hat, ← hv]
        obtain ⟨g1, g2⟩ := edges_all acc o.after.toList 0
        refine ⟨g2, fun j hj => ?_⟩
        rcases edges_bit acc j _ _ hj with h | ⟨e, he, hb, h⟩
        · simp at h
        · refine ⟨e, he, hb, ?_⟩
          rcases h with h | h
          · exact .inl h
          · by_cases hlt : e.on < acc.size
            · exact .inr ⟨hlt, by rw [hlow _ hlt]; exact h⟩
            · rw [Array.getD_eq_getD_getElem?, Array.getElem?_eq_none (by omega)] at h; simp at h
      | succ i =>
        have := h3 i o' (by simpa using ho')
        rw [hsz, Nat.add_assoc, Nat.add_comm 1 i] at this
        exact this
  intro i o ho
  obtain ⟨_, _, h3⟩ := key ops.toList #[]
  have := h3 i o (by rw [Array.getElem?_toList]; exact ho)
  unfold Region.before
  rw [← Array.foldl_toList]
  simpa using this

/-- every order that the model may draw: each operation once, its ancestors ahead of it -/
structure Order (I : PlanI) (L : List Nat) : Prop where
  all : ∀ i, i < I.n → i ∈ L
  lt : ∀ i ∈ L, i < I.n
  anc : ∀ L1 i L2, L = L1 ++ i :: L2 → i ∉ L1 ∧ ∀ j, (I.anc i).testBit j = true → j ∈ L1

theorem linearise_order {ops : Array Oper} {I : PlanI} (hn : I.n = ops.size) (hanc : ∀ i, I.anc i = (Region.before ops).getD i 0) {plan : List (Bool × Nat)} (hp : PlanF I plan) (t : Nat) : Order I (Region.linearise .any ops t) := by
  -- an operation that is ready
  let ready (listed : Array Bool) (i : Nat) : Bool := !listed.getD i true && ((ops[i]?).map (·.after.all fun e => !Region.binds .any e || listed.getD e.on false)).getD false
  have hgo : ∀ (fuel t : Nat) (listed : Array Bool) (acc : List Nat), listed.size = ops.size → (∀ i, listed[i]? = some true ↔ i ∈ acc ∧ i < ops.size) → (∀ i ∈ acc, i < ops.size) → acc.Nodup → acc.length + fuel = ops.size →
      (∀ A i B, acc.reverse = A ++ i :: B → i ∉ A ∧ ∀ j, (I.anc i).testBit j = true → j ∈ A) →
      Order I (Region.linearise.go .any ops fuel t listed acc) := by
    intro fuel
    induction fuel with
    | zero =>
      intro t listed acc hsz hl hlt hnd hlen hcl
      unfold Region.linearise.go
      refine ⟨fun i hi => ?_, fun i hi => by rw [hn]; exact hlt i (by simpa using hi), hcl⟩
      rw [List.mem_reverse]
      refine Decidable.byContradiction fun hno => ?_
      have : (i :: acc).length ≤ ops.size := by
        have hnd' : (i :: acc).Nodup := List.nodup_cons.2 ⟨hno, hnd⟩
        have hsub : (i :: acc) ⊆ List.range ops.size := fun x hx => by
          rw [List.mem_range]
          rcases List.mem_cons.1 hx with rfl | hx
          · rw [← hn]; exact hi
          · exact hlt x hx
        have := hnd'.length_le_of_subset hsub
        simpa using this
      simp at this; omega
    | succ fuel ih =>
      intro t listed acc hsz hl hlt hnd hlen hcl
      unfold Region.linearise.go
      simp only
      -- something is ready
      have hready : ∃ i, i < ops.size ∧ ready listed i = true := by
        -- the first one of the plan that is not listed
        obtain ⟨x, hx1, hx2⟩ : ∃ x, x < ops.size ∧ x ∉ acc := by
          refine Decidable.byContradiction fun hno => ?_
          have hsub : List.range ops.size ⊆ acc := fun x hx => Decidable.byContradiction fun h => hno ⟨x, by simpa using hx, h⟩
          have := List.nodup_range.length_le_of_subset hsub
          simp at this; omega
        have : ∀ m p x : Nat, p < m → plan[p]? = some (false, x) → x ∉ acc → ∃ p0 x0 : Nat, plan[p0]? = some (false, x0) ∧ x0 ∉ acc ∧ ∀ p' x' : Nat, p' < p0 → plan[p']? = some (false, x') → x' ∈ acc := by
          intro m
          induction m with
          | zero => intro p x hp; omega
          | succ m ihm =>
            intro p x hpm hpx hxa
            by_cases h : ∃ p' x' : Nat, p' < p ∧ plan[p']? = some (false, x') ∧ x' ∉ acc
            · obtain ⟨p', x', h1, h2, h3⟩ := h
              exact ihm p' x' (by omega) h2 h3
            · exact ⟨p, x, hpx, hxa, fun p' x' h1 h2 => Decidable.byContradiction fun h3 => h ⟨p', x', h1, h2, h3⟩⟩
        obtain ⟨p, hp1⟩ := hp.all x (by rw [hn]; exact hx1)
        obtain ⟨p0, x0, h1, h2, h3⟩ := this (p + 1) p x (Nat.lt_succ_self _) hp1 hx2
        have hx0 : x0 < ops.size := by rw [← hn]; exact hp.lt _ _ h1
        refine ⟨x0, hx0, ?_⟩
        obtain ⟨o, ho⟩ : ∃ o, ops[x0]? = some o := ⟨ops[x0], by simp [hx0]⟩
        have hnl : listed.getD x0 true = false := by
          have h4 := hl x0
          rw [Array.getD_eq_getD_getElem?]
          cases hq : listed[x0]? with
          | none => rw [Array.getElem?_eq_none_iff] at hq; omega
          | some v =>
            cases v with
            | false => rfl
            | true => rw [hq] at h4; exact absurd (h4.1 rfl).1 h2
        show (!listed.getD x0 true && _) = true
        rw [hnl, ho]
        simp only [Bool.not_false, Option.map_some, Option.getD_some, Bool.true_and, Array.all_eq_true', Bool.or_eq_true, Bool.not_eq_true']
        intro e he
        cases hb : Region.binds .any e with
        | false => exact .inl rfl
        | true =>
          right
          have := (before_spec ops x0 o ho).1 e (by simpa using he) hb
          rw [← hanc] at this
          obtain ⟨p', hp', hp'2⟩ := hp.anc _ _ _ h1 this
          have h5 := h3 p' e.on hp' hp'2
          have := (hl e.on).2 ⟨h5, hlt _ h5⟩
          rw [Array.getD_eq_getD_getElem?, this]; rfl
      obtain ⟨i0, hi0, hi0r⟩ := hready
      have hne : 0 < ((List.range ops.size).filter fun i => ready listed i).length := by
        rw [List.length_pos_iff_exists_mem]
        exact ⟨i0, by simp [hi0, hi0r]⟩
      have hrs : ∃ i, ((List.range ops.size).filter fun i => ready listed i)[t % ((List.range ops.size).filter fun i => ready listed i).length]? = some i := ⟨_, List.getElem?_eq_getElem (Nat.mod_lt _ hne)⟩
      obtain ⟨i, hi⟩ := hrs
      have hmem := List.mem_of_getElem? hi
      rw [List.mem_filter, List.mem_range] at hmem
      obtain ⟨hi1, hi2⟩ := hmem
      rw [show ((List.range ops.size).filter fun i => !listed.getD i true && ((ops[i]?).map (·.after.all fun e => !Region.binds .any e || listed.getD e.on false)).getD false) = ((List.range ops.size).filter fun i => ready listed i) from rfl, hi]
      simp only
      have hi2' : (!listed.getD i true && ((ops[i]?).map (·.after.all fun e => !Region.binds .any e || listed.getD e.on false)).getD false) = true := hi2
      rw [Bool.and_eq_true] at hi2'
      obtain ⟨hi3, hi4⟩ := hi2'
      obtain ⟨o, ho⟩ : ∃ o, ops[i]? = some o := ⟨ops[i], by simp [hi1]⟩
      have hia : i ∉ acc := fun h => by
        have := (hl i).2 ⟨h, hi1⟩
        rw [Array.getD_eq_getD_getElem?, this] at hi3; simp at hi3
      rw [ho] at hi4
      simp only [Option.map_some, Option.getD_some, Array.all_eq_true', Bool.or_eq_true, Bool.not_eq_true'] at hi4
      -- ancestors are listed
      have hancs : ∀ j, (I.anc i).testBit j = true → j ∈ acc := by
        intro j hj
        rw [hanc] at hj
        obtain ⟨e, he, hb, h⟩ := (before_spec ops i o ho).2 j hj
        have hon : e.on ∈ acc := by
          rcases hi4 e (by simpa using he) with h' | h'
          · rw [hb] at h'; cases h'
          · rw [Array.getD_eq_getD_getElem?] at h'
            cases hq : listed[e.on]? with
            | none => rw [hq] at h'; simp at h'
            | some v => rw [hq] at h'; simp at h'; subst h'; exact ((hl e.on).1 hq).1
        rcases h with h | ⟨_, h⟩
        · rw [← h]; exact hon
        · rw [← hanc] at h
          obtain ⟨A, B, hAB⟩ := List.append_of_mem (List.mem_reverse.2 hon)
          have := (hcl A e.on B hAB).2 j h
          rw [← List.mem_reverse, hAB]; simp [this]
      refine ih _ _ _ (by simp [hsz]) (fun x => ?_) (fun x hx => ?_) (List.nodup_cons.2 ⟨hia, hnd⟩) (by simp; omega) (fun A x B hAB => ?_)
      · rw [Array.getElem?_setIfInBounds]
        by_cases hx : i = x
        · subst hx; simp [hsz, hi1]
        · rw [if_neg hx, hl x]
          simp only [List.mem_cons]
          constructor
          · rintro ⟨h1, h2⟩; exact ⟨.inr h1, h2⟩
          · rintro ⟨h1 | h1, h2⟩
            · exact absurd h1.symm hx
            · exact ⟨h1, h2⟩
      · rcases List.mem_cons.1 hx with rfl | hx
        · exact hi1
        · exact hlt x hx
      · rw [List.reverse_cons] at hAB
        rcases List.append_eq_append_iff.1 hAB.symm with ⟨C, h1, h2⟩ | ⟨C, h1, h2⟩
        · cases C with
          | nil =>
            simp only [List.nil_append, List.append_nil, List.cons.injEq] at h1 h2
            obtain ⟨rfl, _⟩ := h2
            subst h1
            exact ⟨by simpa using hia, fun j hj => by simpa using hancs j hj⟩
          | cons y C =>
            simp only [List.cons_append, List.cons.injEq] at h2
            obtain ⟨rfl, rfl⟩ := h2
            exact hcl A _ C h1
        · cases C with
          | nil =>
            simp only [List.nil_append, List.append_nil, List.cons.injEq] at h1 h2
            obtain ⟨rfl, _⟩ := h2
            subst h1
            exact ⟨by simpa using hia, fun j hj => by simpa using hancs j hj⟩
          | cons y C =>
            simp at h2
  have := hgo ops.size t (Array.replicate ops.size false) [] (by simp) (fun i => by simp [Array.getElem?_replicate]) (fun i hi => by simp at hi) (by simp) (by simp) (fun A i B h => by simp at h)
  exact this
end Go.Am
