/- A REGION THAT DRAWS ITS ORDER: in whatever order, the same. -/
import Derived.Test.YtjhjdlebhljcaaaGreatDoorAmDraw
namespace Go.Am
set_option linter.unusedVariables false
set_option linter.unusedSimpArgs false

/-- a region, its plan, and the machine's run through it -/
structure RG (P : Program) (rt : RT) (nt : Nat) (ops : Array Oper) (l : List (List AOpd × AOp)) (plan : List (Bool × Nat)) (sts : Nat → St) (M : Nat) : Prop where
  comp : allSome (ops.toList.map (cOper P)) = some l
  slots : ops.toList.all (dstOk nt) = true
  good : PlanF (planI ops l) plan
  len : M ≤ plan.length
  rel : ∀ p, p < M → ∃ q s o ca g, plan[p]? = some q ∧ ops[q.2]? = some o ∧ cOper P o = some ca ∧ l[q.2]? = some ca ∧ guardOf ops o.guard = some g ∧ s.chk = q.1 ∧ s.dst = o.dst ∧ s.guard = g ∧ s.args = ca.1 ∧ s.op = ca.2 ∧ StepRel rt s (sts p) (sts (p + 1))
  mono : ∀ p, p < M → Ext (sts p).H (sts (p + 1)).H

section
variable {P : Program} {rt : RT} {nt : Nat} {ops : Array Oper} {l : List (List AOpd × AOp)} {plan : List (Bool × Nat)} {sts : Nat → St} {M : Nat}

theorem RG.ext (R : RG P rt nt ops l plan sts M) : ∀ {p p' : Nat}, p ≤ p' → p' ≤ M → Ext (sts p).H (sts p').H := by
  intro p p' h h'
  induction p' with
  | zero => obtain rfl : p = 0 := by omega
            exact Ext.refl _
  | succ k ih =>
    by_cases e : p = k + 1
    · subst e; exact Ext.refl _
    · exact (ih (by omega) (by omega)).trans (R.mono k (by omega))

/-- a slot that is written nowhere between -/
theorem RG.kept (R : RG P rt nt ops l plan sts M) {t : Nat} : ∀ {p p' : Nat}, p ≤ p' → p' ≤ M → (∀ u j : Nat, p ≤ u → u < p' → plan[u]? = some (false, j) → dstAt ops j ≠ some t) → (sts p').tm.get t = (sts p).tm.get t := by
  intro p p' h h' hw
  induction p' with
  | zero => obtain rfl : p = 0 := by omega
            rfl
  | succ k ih =>
    by_cases e : p = k + 1
    · subst e; rfl
    · rw [← ih (by omega) (by omega) (fun u j h1 h2 => hw u j h1 (by omega))]
      obtain ⟨⟨c, i⟩, s, o, ca, g, h1, h2, h3, h4, h5, h6, h7, h8, h9, h10, hr⟩ := R.rel k (by omega)
      have hput : ∀ v, c = false → (putD s.dst v (sts k).tm).get t = (sts k).tm.get t := fun v hc => by
        subst hc
        have := hw k i (by omega) (by omega) h1
        rw [h7]
        cases hd : o.dst with
        | none => rfl
        | some d =>
          have hne : d ≠ t := fun e => by subst e; exact this (by simp [dstAt, h2, hd])
          simp only [putD, T.get_set, if_neg hne]
      cases hr with
      | skip hc hw' h => rw [h]; exact hput _ (h6.symm.trans hc)
      | run hc hw' vs v d u H' he ho h => rw [h]; exact hput _ (h6.symm.trans hc)
      | look hc d hd h hl => rw [h]

/-- between two effects -/
theorem RG.between (R : RG P rt nt ops l plan sts M) : ∀ {p p' : Nat}, p ≤ p' → p' ≤ M → (∀ u j : Nat, p ≤ u → u < p' → plan[u]? = some (false, j) → (planI ops l).cls j ≠ .eff) →
    (sts p').dfs = (sts p).dfs ∧ (sts p').up = (sts p).up ∧ ∀ b o, (sts p').H.get b = some o → (sts p).H.get b = some o ∨
      ∃ j u : Nat, p ≤ u ∧ u < p' ∧ plan[u]? = some (false, j) ∧ (planI ops l).cls j = .alloc ∧ (sts u).H.next < (sts (u + 1)).H.next ∧ b = (sts u).H.next ∧ (sts (u + 1)).H.get b = some o := by
  intro p p' h h' hw
  induction p' with
  | zero => obtain rfl : p = 0 := by omega
            exact ⟨rfl, rfl, fun b o hb => .inl hb⟩
  | succ k ih =>
    by_cases e : p = k + 1
    · subst e; exact ⟨rfl, rfl, fun b o hb => .inl hb⟩
    · obtain ⟨i1, i2, i3⟩ := ih (by omega) (by omega) (fun u j h1 h2 => hw u j h1 (by omega))
      obtain ⟨⟨c, i⟩, s, o, ca, g, h1, h2, h3, h4, h5, h6, h7, h8, h9, h10, hr⟩ := R.rel k (by omega)
      have hup : ∀ b o, (sts k).H.get b = some o → (sts p).H.get b = some o ∨ ∃ j u : Nat, p ≤ u ∧ u < k + 1 ∧ plan[u]? = some (false, j) ∧ (planI ops l).cls j = .alloc ∧ (sts u).H.next < (sts (u + 1)).H.next ∧ b = (sts u).H.next ∧ (sts (u + 1)).H.get b = some o := fun b o hb => by
        rcases i3 b o hb with hb | ⟨j, u, k1, k2, k3⟩
        · exact .inl hb
        · exact .inr ⟨j, u, k1, by omega, k3⟩
      cases hr with
      | skip hc hw' h => rw [h]; exact ⟨i1, i2, hup⟩
      | look hc d hd h hl => rw [h]; exact ⟨i1, i2, hup⟩
      | run hc hw' vs v d u H' he ho h =>
        have hcf : c = false := h6.symm.trans hc
        subst hcf
        have hcls := hw k i (by omega) (by omega) h1
        have hcl : (planI ops l).cls i = clsOf ca.2 := by simp [planI, clsAt, h4]
        rw [hcl] at hcls
        rw [h10] at ho
        rw [h]
        cases hop : ca.2 with
        | pure f =>
          rw [hop] at ho
          simp only [opR, Option.bind_eq_some_iff, Option.some.injEq, OpRes.val.injEq] at ho
          obtain ⟨_, _, _, rfl, rfl, rfl⟩ := ho
          exact ⟨i1, i2, hup⟩
        | read f =>
          rw [hop] at ho
          simp only [opR, Option.bind_eq_some_iff, Option.some.injEq, OpRes.val.injEq] at ho
          obtain ⟨_, _, _, rfl, rfl, rfl⟩ := ho
          exact ⟨i1, i2, hup⟩
        | alloc f =>
          rw [hop] at ho
          simp only [opR, Option.bind_eq_some_iff, Option.some.injEq, OpRes.val.injEq] at ho
          obtain ⟨⟨ob, mk⟩, _, _, rfl, rfl, rfl⟩ := ho
          refine ⟨i1, i2, fun b o hb => ?_⟩
          have hb0 := hb
          simp only [AHeap.get_alloc] at hb
          split at hb
          · rename_i e2
            refine .inr ⟨i, k, by omega, by omega, h1, by rw [hcl, hop]; rfl, by rw [h]; exact Nat.lt_succ_self _, e2.symm, by rw [h]; exact hb0⟩
          · exact hup b o hb
        | eff f => rw [hop] at hcls; exact absurd rfl hcls
        | callF f => rw [hop] at hcls; exact absurd rfl hcls
        | callV => rw [hop] at hcls; exact absurd rfl hcls
        | invoke m => rw [hop] at hcls; exact absurd rfl hcls
        | recover => rw [hop] at hcls; exact absurd rfl hcls
        | defer => rw [hop] at hcls; exact absurd rfl hcls
        | panic => rw [hop] at hcls; exact absurd rfl hcls

/-- one operation's step -/
theorem RG.at (R : RG P rt nt ops l plan sts M) {p i : Nat} (hp : plan[p]? = some (false, i)) (hM : p < M) : ∃ s o ca, ops[i]? = some o ∧ cOper P o = some ca ∧ l[i]? = some ca ∧ guardOf ops o.guard = some s.guard ∧ s.chk = false ∧ s.dst = o.dst ∧ s.args = ca.1 ∧ s.op = ca.2 ∧ StepRel rt s (sts p) (sts (p + 1)) := by
  obtain ⟨q, s, o, ca, g, h1, h2, h3, h4, h5, h6, h7, h8, h9, h10, hr⟩ := R.rel p hM
  rw [hp] at h1; injection h1 with h1; subst h1
  exact ⟨s, o, ca, h2, h3, h4, by rw [h8]; exact h5, h6, h7, h9, h10, hr⟩

theorem RG.look (R : RG P rt nt ops l plan sts M) {p i : Nat} (hp : plan[p]? = some (true, i)) (hM : p < M) : ∃ s o ca, ops[i]? = some o ∧ cOper P o = some ca ∧ l[i]? = some ca ∧ guardOf ops o.guard = some s.guard ∧ s.chk = true ∧ s.dst = o.dst ∧ s.args = ca.1 ∧ s.op = ca.2 ∧ StepRel rt s (sts p) (sts (p + 1)) := by
  obtain ⟨q, s, o, ca, g, h1, h2, h3, h4, h5, h6, h7, h8, h9, h10, hr⟩ := R.rel p hM
  rw [hp] at h1; injection h1 with h1; subst h1
  exact ⟨s, o, ca, h2, h3, h4, by rw [h8]; exact h5, h6, h7, h9, h10, hr⟩
theorem RG.still (R : RG P rt nt ops l plan sts M) {p i : Nat} (hp : plan[p]? = some (true, i)) (hM : p < M) : sts (p + 1) = sts p := by
  obtain ⟨s, o, ca, _, _, _, _, hc, _, _, _, hr⟩ := R.look hp hM
  cases hr with
  | skip hc' => rw [hc] at hc'; cases hc'
  | run hc' => rw [hc] at hc'; cases hc'
  | look hc' d hd h hl => exact h
theorem RG.stills (R : RG P rt nt ops l plan sts M) {q : Nat} : ∀ {u : Nat}, q ≤ u → u ≤ M → (∀ v : Nat, q ≤ v → v < u → ∃ r, plan[v]? = some (true, r)) → sts u = sts q := by
  intro u h hM hv
  induction u with
  | zero => obtain rfl : q = 0 := by omega
            rfl
  | succ k ih =>
    by_cases e : q = k + 1
    · subst e; rfl
    · obtain ⟨r, hr⟩ := hv k (by omega) (by omega)
      rw [R.still hr (by omega)]
      exact ih (by omega) (by omega) (fun v h1 h2 => hv v h1 (by omega))
end

/-- the blocks that are placed when these operations have run -/
def DS (D0 : Nat → Prop) (plan : List (Bool × Nat)) (sts : Nat → St) (M : Nat) (S : List Nat) : Nat → Prop := fun b =>
  D0 b ∨ ∃ i p : Nat, i ∈ S ∧ plan[p]? = some (false, i) ∧ p < M ∧ (sts p).H.next ≤ b ∧ b < (sts (p + 1)).H.next

/-- slots, when these operations have run -/
def TInv (ops : Array Oper) (plan : List (Bool × Nat)) (sts : Nat → St) (M : Nat) (S : List Nat) (D : Nat → Prop) (θ : Th) (a : Array Value) : Prop :=
  ∀ t : Nat, ∃ p0 : Nat, p0 ≤ M ∧ (∀ v, (sts p0).tm.get t = some v → ∃ c, a[t]? = some c ∧ VR D θ v c) ∧
    (∀ j p : Nat, j ∈ S → plan[p]? = some (false, j) → dstAt ops j = some t → p < p0) ∧
    (p0 = 0 ∨ ∃ i0 p1 : Nat, i0 ∈ S ∧ plan[p1]? = some (false, i0) ∧ p0 = p1 + 1 ∧ dstAt ops i0 = some t)

/-- these operations have run, in the model -/
structure Inv (P : Program) (base : Nat) (D0 : Nat → Prop) (θ0 : Th) (w0 : World) (cs0 : List Frame) (b : Frame) (nt : Nat) (rd : Option Nat) (ops : Array Oper) (l : List (List AOpd × AOp)) (plan : List (Bool × Nat)) (sts : Nat → St) (M : Nat)
    (S : List Nat) (q : Nat) (X : AHeap) (θ : Th) (a : Act) (w : World) (cs : List Frame) : Prop where
  heap : HR P base (DS D0 plan sts M S) θ X w
  grow : Grow D0 (sts 0).H θ0 w0 X θ w
  cov : ∀ b o, (sts q).H.get b = some o → X.get b = some o
  covA : ∀ j p : Nat, j ∈ S → plan[p]? = some (false, j) → (planI ops l).cls j = .alloc → q ≤ p → p < M → (sts p).H.next < (sts (p + 1)).H.next → ∀ o, (sts (p + 1)).H.get (sts p).H.next = some o → X.get (sts p).H.next = some o
  qle : q ≤ M
  effs : ∀ i p : Nat, plan[p]? = some (false, i) → (planI ops l).cls i = .eff → (p < q ↔ i ∈ S)
  last : q = 0 ∨ ∃ e p : Nat, q = p + 1 ∧ plan[p]? = some (false, e) ∧ (planI ops l).cls e = .eff
  dfs : dfsR (DS D0 plan sts M S) θ (sts q).dfs a.defers
  up : UpR (DS D0 plan sts M S) θ b.kind (sts q).up cs
  upS : (sts q).up.isSome = (sts 0).up.isSome
  upTo : UpTo (sts 0).up cs0 cs
  tms : TInv ops plan sts M S (DS D0 plan sts M S) θ a.tmps
  size : nt ≤ a.tmps.size
  round : RdR (DS D0 plan sts M S) θ b.roundOf rd
  ran : ∀ i ∈ S, ∃ p : Nat, plan[p]? = some (false, i) ∧ p < M
  closed : ∀ i ∈ S, ∀ j, ((planI ops l).anc i).testBit j = true → j ∈ S

section
variable {P : Program} {rt : RT} {nt : Nat} {ops : Array Oper} {l : List (List AOpd × AOp)} {plan : List (Bool × Nat)} {sts : Nat → St} {M : Nat}
  {base : Nat} {D0 : Nat → Prop} {θ0 : Th} {w0 : World} {cs0 : List Frame} {b : Frame} {rd : Option Nat}

theorem ment_dst {i j t : Nat} (h1 : t ∈ namesOf ops l i) (h2 : dstAt ops j = some t) : (planI ops l).ment i j = true := by
  show mentB ops l i j = true
  unfold mentB
  rw [h2]
  exact (hasNat_eq _ _).2 h1

theorem DS.app {S : List Nat} {i : Nat} {x : Nat} (h : DS D0 plan sts M S x) : DS D0 plan sts M (S ++ [i]) x := by
  rcases h with h | ⟨j, p, h1, h2⟩
  · exact .inl h
  · exact .inr ⟨j, p, by simp [h1], h2⟩

/-- an operation's slots are as the machine had them -/
theorem agree (R : RG P rt nt ops l plan sts M) {S : List Nat} {q : Nat} {X : AHeap} {θ : Th} {a : Act} {w : World} {cs : List Frame} (hI : Inv P base D0 θ0 w0 cs0 b nt rd ops l plan sts M S q X θ a w cs) {i p : Nat} (hp : plan[p]? = some (false, i)) (hpM : p ≤ M) (hiS : i ∉ S)
    (hanc : ∀ j, ((planI ops l).anc i).testBit j = true → j ∈ S) {t : Nat} (ht : t ∈ namesOf ops l i) : ∀ v, (sts p).tm.get t = some v → ∃ c, a.tmps[t]? = some c ∧ VR (DS D0 plan sts M S) θ v c := by
  obtain ⟨p0, h1, h2, h3, h4⟩ := hI.tms t
  have hin := R.good.lt p i hp
  -- a writer is an ancestor, or comes later
  have hcmp : ∀ j p' : Nat, plan[p']? = some (false, j) → dstAt ops j = some t → j ≠ i → ((planI ops l).anc i).testBit j = true ∨ ((planI ops l).anc j).testBit i = true := fun j p' hj hd hne =>
    R.good.temps i j hin (R.good.lt p' j hj) (fun e => hne e.symm) (ment_dst ht hd)
  have hle : p0 ≤ p := by
    rcases h4 with rfl | ⟨i0, p1, k1, k2, rfl, k4⟩
    · exact Nat.zero_le _
    · have hne : i0 ≠ i := fun e => hiS (e ▸ k1)
      rcases hcmp i0 p1 k2 k4 hne with h | h
      · obtain ⟨p', k5, k6⟩ := R.good.anc p i i0 hp h
        have := R.good.one _ _ _ k2 k6
        omega
      · exact absurd (hI.closed i0 k1 i h) hiS
  have hkept := R.kept (t := t) hle hpM (fun u j hu1 hu2 hj hd => by
    have hne : j ≠ i := fun e => by
      subst e
      have := R.good.one _ _ _ hp hj
      omega
    rcases hcmp j u hj hd hne with h | h
    · have := h3 j u (hanc j h) hj hd
      omega
    · obtain ⟨p', k5, k6⟩ := R.good.anc u j i hj h
      have := R.good.one _ _ _ hp k6
      omega)
  intro v hv
  rw [hkept] at hv
  exact h2 v hv

/-- slots, behind an operation -/
theorem TInv.put (R : RG P rt nt ops l plan sts M) {S : List Nat} {D D' : Nat → Prop} {θ θ' : Th} {a : Array Value} (h : TInv ops plan sts M S D θ a) (hag : Ag D θ θ') (hd : ∀ x, D x → D' x) {i p : Nat} (hp : plan[p]? = some (false, i)) (hpM : p < M)
    (hanc : ∀ j, ((planI ops l).anc i).testBit j = true → j ∈ S) (hiS : i ∉ S) (hclosed : ∀ i ∈ S, ∀ j, ((planI ops l).anc i).testBit j = true → j ∈ S) {o : Oper} (ho : ops[i]? = some o) (hla : ∃ ca, l[i]? = some ca) {c : Value} (hs : nt ≤ a.size)
    (hv : ∀ d v, o.dst = some d → (sts (p + 1)).tm.get d = some v → VR D' θ' v c) :
    TInv ops plan sts M (S ++ [i]) D' θ' (match o.dst with | some d => a.setIfInBounds d c | none => a) := by
  have hda : dstAt ops i = o.dst := by simp [dstAt, ho]
  intro t
  by_cases ht : o.dst = some t
  · refine ⟨p + 1, hpM, fun v hv' => ?_, fun j p' hj hj2 hj3 => ?_, .inr ⟨i, p, by simp, hp, rfl, by rw [hda]; exact ht⟩⟩
    · rw [ht]
      have hlt : t < a.size := by
        have := R.slots
        rw [List.all_eq_true] at this
        have := this o (by have := Array.mem_of_getElem? ho; simpa using this)
        unfold dstOk at this
        rw [ht] at this
        simp only [Nat.blt_eq] at this
        omega
      exact ⟨c, by simp [hlt], hv t v ht hv'⟩
    · rcases List.mem_append.1 hj with hj | hj
      · have hne : j ≠ i := fun e => hiS (e ▸ hj)
        have hin := R.good.lt p i hp
        have htn : t ∈ namesOf ops l i := by
          obtain ⟨ca, hca⟩ := hla
          unfold namesOf
          rw [hda, ht]
          simp
        rcases R.good.temps i j hin (R.good.lt p' j hj2) (fun e => hne e.symm) (ment_dst htn hj3) with h | h
        · obtain ⟨p2, k5, k6⟩ := R.good.anc p i j hp h
          have := R.good.one _ _ _ hj2 k6
          omega
        · exact absurd (hclosed j hj i h) hiS
      · simp at hj; subst hj
        have := R.good.one _ _ _ hp hj2
        omega
  · obtain ⟨p0, h1, h2, h3, h4⟩ := h t
    refine ⟨p0, h1, fun v hv' => ?_, fun j p' hj hj2 hj3 => ?_, ?_⟩
    · obtain ⟨c', k1, k2⟩ := h2 v hv'
      refine ⟨c', ?_, k2.up hag hd⟩
      cases hd2 : o.dst with
      | none => exact k1
      | some d =>
        have hne : d ≠ t := fun e => ht (by rw [hd2, e])
        simp only [Array.getElem?_setIfInBounds, if_neg hne]; exact k1
    · rcases List.mem_append.1 hj with hj | hj
      · exact h3 j p' hj hj2 hj3
      · simp at hj; subst hj
        rw [hda] at hj3; exact absurd hj3 ht
    · rcases h4 with h4 | ⟨i0, p1, k1, k2⟩
      · exact .inl h4
      · exact .inr ⟨i0, p1, by simp [k1], k2⟩
end
end Go.Am
