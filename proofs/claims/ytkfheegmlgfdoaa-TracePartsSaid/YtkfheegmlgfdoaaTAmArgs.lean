/- ARGUMENTS: what reads as data lies in the machine's heap as rows. -/
import Derived.Test.YtkfheegmlgfdoaaTAmPost
import Derived.Test.YtkfheegmlgfdoaaTAmVal3
import Derived.Carry
namespace Go.Am
open Go.RowKit
set_option linter.unusedVariables false
set_option linter.unusedSimpArgs false

/-! ### rows that are laid -/
abbrev GL := List (Nat × List AV)
def Good (W : World) (θ : Th) (n : Nat) (gl : GL) : Prop :=
  ∀ b l, (b, l) ∈ gl → b < n ∧ ∃ pre cs post e fz, W.heap[θ.blk b]? = some (.cells (pre ++ cs ++ post).toArray e fz) ∧ pre.length = θ.off b ∧ VRL (Lt n) θ l cs
structure Step (W : World) (θ : Th) (n : Nat) (gl : GL) (θ' : Th) (n' : Nat) (gl' : GL) : Prop where
  le : n ≤ n'
  ag : Ag (Lt n) θ θ'
  good : Good W θ' n' gl'
  keep : ∀ b, b < n → (givenRows gl' .nil).get b = (givenRows gl .nil).get b
theorem Step.refl {W : World} {θ : Th} {n : Nat} {gl : GL} (h : Good W θ n gl) : Step W θ n gl θ n gl := ⟨Nat.le_refl n, Ag.refl _ _, h, fun _ _ => rfl⟩
theorem Step.trans {W : World} {θ θ' θ'' : Th} {n n' n'' : Nat} {gl gl' gl'' : GL} (a : Step W θ n gl θ' n' gl') (b : Step W θ' n' gl' θ'' n'' gl'') : Step W θ n gl θ'' n'' gl'' :=
  ⟨Nat.le_trans a.le b.le, a.ag.trans b.ag fun x hx => Nat.lt_of_lt_of_le hx a.le, b.good, fun x hx => by rw [b.keep x (Nat.lt_of_lt_of_le hx a.le), a.keep x hx]⟩
theorem Step.fr {W : World} {θ θ' : Th} {n n' : Nat} {gl gl' : GL} (a : Step W θ n gl θ' n' gl') : Fr Em (givenHeap gl n) (givenHeap gl' n') := ⟨a.le, fun b hb _ => a.keep b hb⟩
/-- one row more -/
theorem Step.row {W : World} {θ : Th} {n : Nat} {gl : GL} (h : Good W θ n gl) {k off : Nat} {l : List AV} {pre cs post : List Value} {e : TypeId} {fz : Nat × Nat} (hk : W.heap[k]? = some (.cells (pre ++ cs ++ post).toArray e fz)) (hp : pre.length = off) (hv : VRL (Lt n) θ l cs) :
    Step W θ n gl (θ.add n k off 0) (n + 1) ((n, l) :: gl) := by
  have hag : Ag (Lt n) θ (θ.add n k off 0) := θ.add_ag n k off 0 (Nat.lt_irrefl n)
  have hd : ∀ b, Lt n b → Lt (n + 1) b := fun b hb => Nat.lt_succ_of_lt hb
  refine ⟨Nat.le_succ n, hag, fun b l' hm => ?_, fun b hb => ?_⟩
  · rcases List.mem_cons.1 hm with hm | hm
    · injection hm with h1 h2; subst h1; subst h2
      obtain ⟨q1, q2, _⟩ := θ.add_new b k off 0
      exact ⟨Nat.lt_succ_self b, pre, cs, post, e, fz, by rw [q1]; exact hk, by rw [q2]; exact hp, hv.up hag hd⟩
    · obtain ⟨h1, pre, cs, post, e, fz, h2, h3, h4⟩ := h b l' hm
      obtain ⟨q1, q2, _⟩ := hag b h1
      exact ⟨Nat.lt_succ_of_lt h1, pre, cs, post, e, fz, by rw [q1]; exact h2, by rw [q2]; exact h3, h4.up hag hd⟩
  · rw [givenRows, T.get_set, if_neg (by omega)]

/-! ### data without references -/
section
variable {P : Program}
/-- all data of the type are cells of which `R` holds, wherever they lie -/
def FlatP (P : Program) (t : TypeId) (R : List AV → Prop) : Prop :=
  ∀ {H : Type} (enc : TypeId × Value → H) (W : World) (base : Nat) (sp : Nat → Bool) (held : Bool) (fuel : Nat) (cs : List Value) (d : DataW H) (ps : List MemPlace),
    DataW.trod enc P W base sp held fuel t cs = some (d, ps) → ∃ l, R l ∧ ∀ θ, concL θ l = cs
def isIntL (k : IntKind) (l : List AV) : Prop := ∃ n, l = [.int k n] ∧ (Lit.int k n).wf = true
def isBoolL (l : List AV) : Prop := ∃ b, l = [.bool b]
def isStrL (l : List AV) : Prop := ∃ s : List UInt8, l = [.str s] ∧ s.length ≤ maxLen
/-- parts of a struct -/
def isParts : List (List AV → Prop) → List AV → Prop
  | [], l => l = []
  | R :: Rs, l => ∃ a b, l = a ++ b ∧ R a ∧ isParts Rs b
theorem flat_int {t : TypeId} {k : IntKind} (h : P.underlying t = some (.int k)) : FlatP P t (isIntL k) := by
  intro H enc W base sp held fuel cs d ps ht
  cases fuel with
  | zero => cases ht
  | succ f =>
    simp only [DataW.trod, h] at ht
    split at ht <;> first | (cases ht; done) | skip
    all_goals first | (simp_all; done) | skip
    · rename_i k2 n2 e1 e2
      injection e2 with e2; injection e2 with e2; subst e2
      split at ht
      · rename_i hw
        obtain ⟨rfl, hw⟩ := hw
        exact ⟨_, ⟨_, rfl, hw⟩, fun θ => rfl⟩
      · cases ht
theorem flat_bool {t : TypeId} (h : P.underlying t = some .bool) : FlatP P t isBoolL := by
  intro H enc W base sp held fuel cs d ps ht
  cases fuel with
  | zero => cases ht
  | succ f =>
    simp only [DataW.trod, h] at ht
    split at ht <;> first | (cases ht; done) | skip
    all_goals first | (simp_all; done) | skip
    exact ⟨_, ⟨_, rfl⟩, fun θ => rfl⟩
theorem flat_str {t : TypeId} (h : P.underlying t = some .string) : FlatP P t isStrL := by
  intro H enc W base sp held fuel cs d ps ht
  cases fuel with
  | zero => cases ht
  | succ f =>
    simp only [DataW.trod, h] at ht
    split at ht <;> first | (cases ht; done) | skip
    all_goals first | (simp_all; done) | skip
    rename_i s e1
    split at ht
    · rename_i hs
      refine ⟨_, ⟨s.data.toList, rfl, by simpa using hs⟩, fun θ => ?_⟩
      simp [concL, conc]
    · cases ht
/-- the parts of a struct, one behind the other -/
theorem flat_parts {H : Type} (enc : TypeId × Value → H) (W : World) (base : Nat) (sp : Nat → Bool) (held : Bool) (fuel : Nat) {cs : List Value} : ∀ {fs : List (TypeId × Nat × (List AV → Prop))} {k : Nat} {xs : List (DataW H × List MemPlace)},
    (∀ f ∈ fs, FlatP P f.1 f.2.2) → (∀ (j : Nat) f, fs[j]? = some f → f.2.1 = k + ((fs.take j).map fun f => P.cellsOf f.1).sum) →
    fs.mapM (fun f => DataW.trod enc P W base sp held fuel f.1 ((cs.drop f.2.1).take (P.cellsOf f.1))) = some xs →
    k + (fs.map fun f => P.cellsOf f.1).sum ≤ cs.length →
    ∃ l, isParts (fs.map (·.2.2)) l ∧ ∀ θ, concL θ l = (cs.drop k).take ((fs.map fun f => P.cellsOf f.1).sum)
  | [], k, xs, _, _, _, _ => ⟨[], rfl, fun θ => by simp [concL]⟩
  | f :: fs, k, xs, hf, ho, hm, hl => by
    simp only [List.mapM_cons, Option.bind_eq_bind, Option.bind_eq_some_iff, Option.pure_def, Option.some.injEq] at hm
    obtain ⟨y, hy, ys, hys, rfl⟩ := hm
    have h0 : f.2.1 = k := by have := ho 0 f rfl; simpa using this
    obtain ⟨a, ha, hca⟩ := hf f (by simp) enc W base sp held fuel _ y.1 y.2 hy
    simp only [List.map_cons, List.sum_cons] at hl
    obtain ⟨b, hb, hcb⟩ := flat_parts enc W base sp held fuel (cs := cs) (fs := fs) (k := k + P.cellsOf f.1) (fun g hg => hf g (by simp [hg])) (fun j g hg => by
      have := ho (j + 1) g (by simpa using hg)
      simp only [List.take_succ_cons, List.map_cons, List.sum_cons] at this
      omega) hys (by omega)
    refine ⟨a ++ b, ⟨a, b, rfl, ha, hb⟩, fun θ => ?_⟩
    rw [concL_eq, List.map_append, ← concL_eq, ← concL_eq, hca, hcb, h0, List.map_cons, List.sum_cons, List.take_add, List.drop_drop]
theorem mapM_fs {H : Type} {g : TypeId → List Value → Option (DataW H × List MemPlace)} {cs : List Value} : ∀ {fs : List Field} {Rs : List (List AV → Prop)}, fs.length = Rs.length →
    fs.mapM (fun f => g f.type ((cs.drop f.offset).take (P.cellsOf f.type))) = ((fs.zip Rs).map fun x => (x.1.type, x.1.offset, x.2)).mapM (fun f => g f.1 ((cs.drop f.2.1).take (P.cellsOf f.1)))
  | [], [], _ => rfl
  | f :: fs, R :: Rs, h => by simp only [List.zip_cons_cons, List.map_cons, List.mapM_cons, mapM_fs (fs := fs) (Rs := Rs) (by simpa using h)]
/-- the fields lie one behind the other -/
def fieldsOkB (P : Program) : Nat → List Field → Bool
  | _, [] => true
  | k, f :: fs => Nat.beq f.offset k && fieldsOkB P (k + P.cellsOf f.type) fs
theorem fieldsOk {fs : List Field} : ∀ {k : Nat}, fieldsOkB P k fs = true → ∀ (j : Nat) f, fs[j]? = some f → f.offset = k + ((fs.take j).map fun f => P.cellsOf f.type).sum := by
  induction fs with
  | nil => intro k _ j f h; simp at h
  | cons g fs ih =>
    intro k h j f hj
    simp only [fieldsOkB, Bool.and_eq_true, Nat.beq_eq] at h
    cases j with
    | zero => simp at hj; subst hj; simpa using h.1
    | succ j =>
      have := ih h.2 j f (by simpa using hj)
      simp only [List.take_succ_cons, List.map_cons, List.sum_cons]; omega
theorem flat_struct {t : TypeId} {fs : Array Field} {Rs : List (List AV → Prop)} (h : P.underlying t = some (.struct fs)) (hn : fs.toList.length = Rs.length) (hR : ∀ x ∈ fs.toList.zip Rs, FlatP P x.1.type x.2)
    (ho : fieldsOkB P 0 fs.toList = true) (hc : (fs.toList.map fun f => P.cellsOf f.type).sum = P.cellsOf t) : FlatP P t (isParts Rs) := by
  intro H enc W base sp held fuel cs d ps ht
  cases fuel with
  | zero => cases ht
  | succ f =>
    have hlen : cs.length = P.cellsOf t ∧ ∃ xs, fs.toList.mapM (fun g => DataW.trod enc P W base sp held f g.type ((cs.drop g.offset).take (P.cellsOf g.type))) = some xs := by
      simp only [DataW.trod, h] at ht
      split at ht
      · rename_i hl
        obtain ⟨xs, hm, _⟩ := Option.map_eq_some_iff.1 ht
        exact ⟨hl, xs, hm⟩
      · cases ht
    obtain ⟨hl, xs, hm⟩ := hlen
    rw [mapM_fs (Rs := Rs) hn] at hm
    have e1 : ((fs.toList.zip Rs).map fun x => (x.1.type, x.1.offset, x.2)).map (fun f => P.cellsOf f.1) = fs.toList.map fun f => P.cellsOf f.type := by
      rw [List.map_map]
      have : ((fs.toList.zip Rs).map fun x => P.cellsOf x.1.type) = (fs.toList.zip Rs |>.map Prod.fst).map fun f => P.cellsOf f.type := by rw [List.map_map]; rfl
      rw [List.map_fst_zip (by omega)] at this
      exact this
    have e2 : ((fs.toList.zip Rs).map fun x => (x.1.type, x.1.offset, x.2)).map (·.2.2) = Rs := by
      rw [List.map_map]
      have : ((fs.toList.zip Rs).map fun x => x.2) = Rs := by rw [List.map_snd_zip (by omega)]
      exact this
    obtain ⟨l, h1, h2⟩ := flat_parts enc W base sp held f (cs := cs) (k := 0) (fs := (fs.toList.zip Rs).map fun x => (x.1.type, x.1.offset, x.2)) (fun g hg => by
        obtain ⟨x, hx, rfl⟩ := List.mem_map.1 hg
        exact hR x hx) (fun j g hg => by
        simp only [List.getElem?_map, Option.map_eq_some_iff, List.getElem?_zip_eq_some] at hg
        obtain ⟨x, ⟨hx1, hx2⟩, rfl⟩ := hg
        have := fieldsOk ho j x.1 hx1
        rw [List.map_take, e1, ← List.map_take]; exact this) hm (by rw [e1, hc, hl]; omega)
    rw [e2] at h1
    rw [e1, hc] at h2
    exact ⟨l, h1, fun θ => by rw [h2 θ, List.drop_zero, List.take_of_length_le (by omega)]⟩
end
end Go.Am
