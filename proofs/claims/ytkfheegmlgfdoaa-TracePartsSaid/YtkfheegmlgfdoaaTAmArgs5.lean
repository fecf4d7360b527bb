/- ARGUMENTS: arrays; what is read as lists. -/
import Derived.Test.YtkfheegmlgfdoaaTAmArgs4
namespace Go.Am
open Go.RowKit
set_option linter.unusedVariables false
set_option linter.unusedSimpArgs false
section
variable {P : Program}
theorem drop_zip {α : Type} (n : Nat) (R : α) : (List.replicate n R).length = n := by simp
theorem flat_array {t e : TypeId} {n : Nat} {R : List AV → Prop} (h : P.underlying t = some (.array n e)) (hR : FlatP P e R) (hc : n * P.cellsOf e = P.cellsOf t) : FlatP P t (isParts (List.replicate n R)) := by
  intro H enc W base sp held fuel cs d ps ht
  cases fuel with
  | zero => cases ht
  | succ f =>
    have hlen : cs.length = P.cellsOf t ∧ ∃ xs, (List.range n).mapM (fun i => DataW.trod enc P W base sp held f e ((cs.drop (i * P.cellsOf e)).take (P.cellsOf e))) = some xs := by
      simp only [DataW.trod, h] at ht
      split at ht
      · rename_i hl
        obtain ⟨xs, hm, _⟩ := Option.map_eq_some_iff.1 ht
        exact ⟨hl, xs, hm⟩
      · cases ht
    obtain ⟨hl, xs, hm⟩ := hlen
    have hel : ∀ i, i < n → ∃ x, DataW.trod enc P W base sp held f e ((cs.drop (i * P.cellsOf e)).take (P.cellsOf e)) = some x := fun i hi => by
      have hl := mapM_some_length hm
      have := mapM_some_get hm i i (by rw [List.getElem?_range hi])
      have hi' : i < xs.length := by rw [hl]; simpa using hi
      rw [List.getElem?_eq_getElem hi'] at this
      exact ⟨_, this⟩
    have key : ∀ (m k : Nat), k + m = n → ∃ l, isParts (List.replicate m R) l ∧ ∀ θ, concL θ l = cs.drop (k * P.cellsOf e) := by
      intro m
      induction m with
      | zero =>
        intro k hk
        refine ⟨[], rfl, fun θ => ?_⟩
        rw [List.drop_eq_nil_of_le (by rw [hl, ← hc, show k = n by omega]; exact Nat.le_refl _)]
        simp [concL]
      | succ m ih =>
        intro k hk
        obtain ⟨x, hx⟩ := hel k (by omega)
        obtain ⟨a, ha, hca⟩ := hR enc W base sp held f _ x.1 x.2 hx
        obtain ⟨b, hb, hcb⟩ := ih (k + 1) (by omega)
        refine ⟨a ++ b, ⟨a, b, rfl, ha, hb⟩, fun θ => ?_⟩
        rw [concL_eq, List.map_append, ← concL_eq, ← concL_eq, hca, hcb, Nat.succ_mul, ← List.drop_drop, List.take_append_drop]
    obtain ⟨l, h1, h2⟩ := key n 0 (by omega)
    exact ⟨l, h1, fun θ => by rw [h2 θ, Nat.zero_mul, List.drop_zero]⟩
/-- a slice, read as a list -/
theorem slt_of {α : Type} {enc : α → List AV} {R : AHeap → List AV → Prop} {Q : α → Prop} {size : Nat} {H : AHeap} {u : AV} (hR : ∀ l, R H l → ∃ x, l = enc x ∧ Q x) (h : SlR R size H u) : ∃ xs : List α, SlT enc size H u xs ∧ ∀ x ∈ xs, Q x := by
  obtain ⟨ls, h1, h2, _⟩ := h
  have : ∀ ls : List (List AV), (∀ l ∈ ls, R H l) → ∃ xs : List α, ls = xs.map enc ∧ ∀ x ∈ xs, Q x := by
    intro ls
    induction ls with
    | nil => exact fun _ => ⟨[], rfl, by simp⟩
    | cons l ls ih =>
      intro h
      obtain ⟨xs, q1, q2⟩ := ih fun l hl => h l (by simp [hl])
      obtain ⟨x, q3, q4⟩ := hR l (h l (by simp))
      refine ⟨x :: xs, by rw [q3, q1]; rfl, fun c hc => ?_⟩
      rcases List.mem_cons.1 hc with rfl | hc
      · exact q4
      · exact q2 c hc
  obtain ⟨xs, q1, q2⟩ := this ls fun l hl => (h1 l hl).1
  refine ⟨xs, ?_, q2⟩
  subst q1
  rw [List.length_map] at h2
  unfold SlT
  have e : (xs.map enc).flatten = xs.flatMap enc := by rw [List.flatMap_def]
  rw [← e]; exact h2
/-- an aggregate that reads flat -/
theorem arg_flat {t : TypeId} {R : List AV → Prop} (hR : FlatP P t R) (ha : (∃ fs, P.underlying t = some (.struct fs)) ∨ ∃ n e, P.underlying t = some (.array n e)) {H : Type} {enc : TypeId × Value → H} {W : World} {r : Reach} {base b2 : Nat} {sp : Nat → Bool} {held : Bool} {fuel : Nat} {v : Value} {d : DataW H} {ps : List MemPlace}
    (hv : Value.okWide P W r b2 t v) (h : DataW.trod enc P W base sp held fuel t v.cells.toList = some (d, ps)) : ∃ l, R l ∧ ∀ D θ, VR D θ (.agg l) v := by
  obtain ⟨cs, rfl⟩ := arg_agg ha hv
  obtain ⟨l, h1, h2⟩ := hR enc W base sp held fuel _ d ps h
  refine ⟨l, h1, fun D θ => ?_⟩
  have hc : ∀ θ, concL θ l = cs.toList := h2
  have := VR.agg (D := D) (θ := θ) (l := l) (cs := cs.toList) (fun θ' _ => hc θ')
  simpa using this
end
end Go.Am
