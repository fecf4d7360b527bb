/- WHAT READS AS GIVEN DATA, CELL FOR CELL: data without references. -/
import Derived.Test.YtjhjdlebhljcaaaGreatDoorAmFinal
import GoSem.ClaimJoined
namespace Go.Am
set_option linter.unusedVariables false

section
variable {H : Type}
def flatParts (P : Program) (rec : TypeId → DataW H → Option (List AV)) : Nat → List (TypeId × Nat) → List (DataW H) → Option (List AV)
  | _, [], [] => some []
  | k, (t, off) :: ts, d :: ds => if off = k then (rec t d).bind fun l => if l.length = P.cellsOf t then (flatParts P rec (k + P.cellsOf t) ts ds).bind fun r => some (l ++ r) else none else none
  | _, _, _ => none

/-- the cells of data without references -/
def flatA (P : Program) : Nat → TypeId → DataW H → Option (List AV)
  | 0, _, _ => none
  | n + 1, t, d => match P.underlying t, d with
    | some .bool, .lit (.bool b) => some [.bool b]
    | some (.int _), .lit (.int k i) => some [.int k i]
    | some .string, .lit (.string s) => some [.str s]
    | some (.pointer _), .nil => some [.nilp]
    | some (.slice _), .nil => some [.nils]
    | some (.map _ _), .nil => some [.nilm]
    | some (.struct fs), .agg ds => (flatParts P (flatA P n) 0 (fs.toList.map fun f => (f.type, f.offset)) ds).bind fun l => if l.length = P.cellsOf t then some l else none
    | some (.array m e), .agg ds => (flatParts P (flatA P n) 0 ((List.range m).map fun i => (e, i * P.cellsOf e)) ds).bind fun l => if l.length = P.cellsOf t then some l else none
    | _, _ => none

variable {P : Program} {enc : TypeId × Value → H} {w : World} {base : Nat} {sp : Nat → Bool} {held : Bool}

theorem flatParts_sound (θ : Th) {rec : TypeId → DataW H → Option (List AV)} {g : TypeId → List Value → Option (DataW H × List MemPlace)} (hrec : ∀ t d l cs p, rec t d = some l → g t cs = some (d, p) → concL θ l = cs) {cs : List Value} :
    ∀ {k : Nat} {ts : List (TypeId × Nat)} {ds : List (DataW H)} {l : List AV} {xs : List (DataW H × List MemPlace)}, flatParts P rec k ts ds = some l → ts.mapM (fun x => g x.1 ((cs.drop x.2).take (P.cellsOf x.1))) = some xs → xs.map (·.1) = ds →
      concL θ l = (cs.drop k).take l.length
  | k, [], ds, l, xs, h, hm, hx => by
    cases ds with
    | nil => simp only [flatParts, Option.some.injEq] at h; subst h; simp [concL]
    | cons d ds => simp [flatParts] at h
  | k, (t, off) :: ts, ds, l, xs, h, hm, hx => by
    cases ds with
    | nil => simp [flatParts] at h
    | cons d ds =>
      simp only [flatParts] at h
      split at h
      · rename_i ho
        subst ho
        simp only [Option.bind_eq_some_iff] at h
        obtain ⟨l0, h0, h⟩ := h
        split at h
        · rename_i hlen
          simp only [Option.bind_eq_some_iff, Option.some.injEq] at h
          obtain ⟨l1, h1, rfl⟩ := h
          simp only [List.mapM_cons, Option.bind_eq_bind, Option.bind_eq_some_iff, Option.pure_def, Option.some.injEq] at hm
          obtain ⟨y, hy, ys, hys, rfl⟩ := hm
          simp only [List.map_cons, List.cons.injEq] at hx
          obtain ⟨rfl, hx⟩ := hx
          have e0 := hrec t y.1 l0 _ y.2 h0 hy
          have e1 := flatParts_sound θ hrec h1 hys hx
          rw [concL_eq, List.map_append, ← concL_eq, ← concL_eq, e0, e1, List.length_append, hlen, List.take_add, List.drop_drop]
        · cases h
      · cases h

theorem trod_parts {α : Type} {f : α → TypeId × Nat} {fuel : Nat} {l : List α} {cs : List Value} {xs : List (DataW H × List MemPlace)}
    (h : l.mapM (fun a => DataW.trod enc P w base sp held fuel (f a).1 ((cs.drop (f a).2).take (P.cellsOf (f a).1))) = some xs) :
    (l.map f).mapM (fun x => DataW.trod enc P w base sp held fuel x.1 ((cs.drop x.2).take (P.cellsOf x.1))) = some xs := by
  rw [List.mapM_map]; exact h

theorem flat_of_trod (θ : Th) : ∀ (n : Nat) {t : TypeId} {d : DataW H} {l : List AV}, flatA P n t d = some l → ∀ {fuel : Nat} {cs : List Value} {p : List MemPlace}, DataW.trod enc P w base sp held fuel t cs = some (d, p) → concL θ l = cs
  | 0, _, _, _, h, _, _, _, _ => by cases h
  | n + 1, t, d, l, h, 0, cs, p, ht => by cases ht
  | n + 1, t, d, l, h, fuel + 1, cs, p, ht => by
    have ih : ∀ t d l cs p, flatA P n t d = some l → DataW.trod enc P w base sp held fuel t cs = some (d, p) → concL θ l = cs := fun t d l cs p h1 h2 => flat_of_trod θ n h1 h2
    simp only [flatA] at h
    split at h
    · rename_i b hu
      injection h with h; subst h
      simp only [DataW.trod, hu] at ht
      split at ht <;> first | (cases ht; done) | skip
      all_goals first | (simp_all [concL, conc]; done) | skip
      all_goals (repeat' (split at ht))
      all_goals first | (cases ht; done) | skip
      all_goals simp [Option.bind_eq_some_iff, Option.map_eq_some_iff] at ht
    · rename_i k' k i hu
      injection h with h; subst h
      simp only [DataW.trod, hu] at ht
      split at ht <;> first | (cases ht; done) | skip
      all_goals first | (simp_all [concL, conc]; done) | skip
      all_goals (repeat' (split at ht))
      all_goals first | (cases ht; done) | skip
      all_goals simp [Option.bind_eq_some_iff, Option.map_eq_some_iff] at ht
    · rename_i s hu
      injection h with h; subst h
      simp only [DataW.trod, hu] at ht
      split at ht <;> first | (cases ht; done) | skip
      all_goals first | (simp_all [concL, conc]; done) | skip
      split at ht
      · simp only [Option.some.injEq, Prod.mk.injEq, DataW.lit.injEq, Lit.string.injEq] at ht
        obtain ⟨rfl, _⟩ := ht
        rfl
      · cases ht
    · rename_i hu
      injection h with h; subst h
      simp only [DataW.trod, hu] at ht
      split at ht <;> first | (cases ht; done) | skip
      all_goals first | (simp_all [concL, conc]; done) | skip
      all_goals (repeat' (split at ht))
      all_goals first | (cases ht; done) | skip
      all_goals simp [Option.bind_eq_some_iff, Option.map_eq_some_iff] at ht
    · rename_i hu
      injection h with h; subst h
      simp only [DataW.trod, hu] at ht
      split at ht <;> first | (cases ht; done) | skip
      all_goals first | (simp_all [concL, conc]; done) | skip
      all_goals (repeat' (split at ht))
      all_goals first | (cases ht; done) | skip
      all_goals simp [Option.bind_eq_some_iff, Option.map_eq_some_iff] at ht
    · rename_i hu
      injection h with h; subst h
      simp only [DataW.trod, hu] at ht
      split at ht <;> first | (cases ht; done) | skip
      all_goals first | (simp_all [concL, conc]; done) | skip
      all_goals (repeat' (split at ht))
      all_goals first | (cases ht; done) | skip
      all_goals simp [Option.bind_eq_some_iff] at ht
    · rename_i fs ds hu
      simp only [Option.bind_eq_some_iff] at h
      obtain ⟨l', h1, h⟩ := h
      split at h
      · rename_i hlen
        injection h with h; subst h
        simp only [DataW.trod, hu] at ht
        split at ht
        · rename_i hcs
          obtain ⟨xs, hm, hx⟩ := Option.map_eq_some_iff.1 ht
          have e := flatParts_sound θ ih h1 (trod_parts (f := fun f : Field => (f.type, f.offset)) hm) (by simpa using congrArg Prod.fst hx)
          rw [e, hlen, ← hcs]; simp
        · cases ht
      · cases h
    · rename_i m e ds hu
      simp only [Option.bind_eq_some_iff] at h
      obtain ⟨l', h1, h⟩ := h
      split at h
      · rename_i hlen
        injection h with h; subst h
        simp only [DataW.trod, hu] at ht
        split at ht
        · rename_i hcs
          obtain ⟨xs, hm, hx⟩ := Option.map_eq_some_iff.1 ht
          have e := flatParts_sound θ ih h1 (trod_parts (f := fun i : Nat => (e, i * P.cellsOf e)) hm) (by simpa using congrArg Prod.fst hx)
          rw [e, hlen, ← hcs]; simp
        · cases ht
      · cases h
    · cases h
end

/-- what a listed variable's cells are -/
theorem laid_cells {P : Program} {w : World} : ∀ {laid : List (String × DataW Unit)} {ps : List MemPlace}, DataW.LaidVars P w laid ps → ∀ {n : String} {d : DataW Unit}, (n, d) ∈ laid →
    ∃ g t cs fuel p, P.globalNamed n = some g ∧ (P.globals[g]?).map (·.type) = some t ∧ w.var? P n = some cs ∧ DataW.trod (fun _ => ()) P w 0 (fun _ => true) false fuel t cs.toList = some (d, p)
  | [], _, _, _, _, h => by cases h
  | (n', d') :: r, ps, ⟨g, t, cs, fuel, p, q, h1, h2, h3, h4, h5, h6⟩, n, d, h => by
    rcases List.mem_cons.1 h with e | h
    · injection e with e1 e2; subst e1; subst e2
      exact ⟨g, t, cs, fuel, p, h1, h2, h3, h4⟩
    · exact laid_cells h5 h

/-- the rows of given variables -/
def givenRows : List (Nat × List AV) → T AObj → T AObj
  | [], t => t
  | (g, l) :: r, t => (givenRows r t).set g (.row l 0 (0, 0) false)
def givenHeap (gl : List (Nat × List AV)) (n : Nat) : AHeap := ⟨givenRows gl .nil, n⟩

theorem givenRows_get : ∀ {gl : List (Nat × List AV)} {b : Nat} {o : AObj}, (givenRows gl .nil).get b = some o → ∃ l, (b, l) ∈ gl ∧ o = .row l 0 (0, 0) false
  | [], b, o, h => by rw [givenRows, T.get_nil] at h; cases h
  | (g, l) :: r, b, o, h => by
    rw [givenRows, T.get_set] at h
    split at h
    · rename_i he
      subst he
      injection h with h
      exact ⟨l, by simp, h.symm⟩
    · obtain ⟨l', h1, h2⟩ := givenRows_get h
      exact ⟨l', by simp [h1], h2⟩

theorem given_heap (gl : List (Nat × List AV)) (n : Nat) : Given (givenHeap gl n) := fun b o h => by
  obtain ⟨l, _, rfl⟩ := givenRows_get h
  rfl

def θ0 : Th := ⟨id, fun _ => 0, fun _ => 0⟩

theorem HR.given {P : Program} {w : World} {gl : List (Nat × List AV)} {base : Nat} (hb : base ≤ w.heap.size) (h : ∀ g l, (g, l) ∈ gl → g < P.globals.size ∧ ∃ cs e fz, w.heap[g]? = some (.cells cs e fz) ∧ ∀ θ, concL θ l = cs.toList) :
    HR P base (Lt P.globals.size) θ0 (givenHeap gl P.globals.size) w := by
  refine ⟨fun b o hg => ?_, fun b b' o o' h1 _ h3 _ => ?_, fun b o h1 h2 => ?_, fun g hg => ⟨hg, rfl, rfl⟩, hb⟩
  · obtain ⟨l, h1, rfl⟩ := givenRows_get hg
    obtain ⟨hlt, cs, e, fz, h2, h3⟩ := h b l h1
    exact ⟨hlt, _, h2, [], cs.toList, [], fz, e, by simp, rfl, fun θ' _ => h3 θ', fun h => by cases h⟩
  · rw [given_heap gl _ b o h1] at h3; cases h3
  · rw [given_heap gl _ b o h1] at h2; cases h2

/-- one listed variable -/
theorem laid_row {P : Program} {w : World} {laid : List (String × DataW Unit)} (h : laidMet P laid w) {n : String} {d : DataW Unit} (hm : (n, d) ∈ laid) {g : Nat} {t : TypeId} {fu : Nat} {l : List AV} (hg : P.globalNamed n = some g)
    (ht : (P.globals[g]?).map (·.type) = some t) (hl : flatA P fu t d = some l) : g < P.globals.size ∧ ∃ cs e fz, w.heap[g]? = some (.cells cs e fz) ∧ ∀ θ, concL θ l = cs.toList := by
  obtain ⟨ps, hv, _⟩ := h
  obtain ⟨g', t', cs, fuel, p, h1, h2, h3, h4⟩ := laid_cells hv hm
  obtain rfl := Option.some.inj (hg.symm.trans h1)
  obtain rfl := Option.some.inj (ht.symm.trans h2)
  refine ⟨?_, cs, ?_⟩
  · rcases Nat.lt_or_ge g P.globals.size with q | q
    · exact q
    · rw [Array.getElem?_eq_none q] at ht; cases ht
  · unfold World.var? at h3
    rw [h1] at h3
    simp only [Option.bind_some] at h3
    split at h3
    · rename_i c e fz hc
      injection h3 with h3; subst h3
      exact ⟨e, fz, hc, fun θ => flat_of_trod θ fu hl h4⟩
    · cases h3
end Go.Am
