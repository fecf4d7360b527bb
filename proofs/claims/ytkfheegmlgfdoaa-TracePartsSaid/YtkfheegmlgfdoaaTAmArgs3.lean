/- A LAW WITH ARGUMENTS: from the machine's answer to the row. -/
import Derived.Test.YtkfheegmlgfdoaaTAmArgs2
import Derived.Test.YtkfheegmlgfdoaaTAmLogic
namespace Go.Am
open Go.RowKit Go.ChangeShapes Go.WideShapes Go.ChangeAt
set_option linter.unusedVariables false
set_option linter.unusedSimpArgs false
section
variable {P : Program}
theorem arg_int {W : World} {r : Reach} {base : Nat} {t : TypeId} {v : Value} {k : IntKind} (ht : P.underlying t = some (.int k)) (h : Value.okWide P W r base t v) : ∃ n, v = .int k n ∧ k.has n := by
  unfold Value.okWide at h
  rw [ht] at h
  simp only [Cell.okWide, ht] at h
  unfold Cell.ok at h
  rw [ht] at h
  split at h <;> first | exact h.elim | skip
  all_goals first | (simp_all; done) | skip
  all_goals
    rename_i h1 
    simp_all
theorem arg_agg {W : World} {r : Reach} {base : Nat} {t : TypeId} {v : Value} (ht : (∃ fs, P.underlying t = some (.struct fs)) ∨ ∃ n e, P.underlying t = some (.array n e)) (h : Value.okWide P W r base t v) : ∃ cs : Array Value, v = .agg cs := by
  unfold Value.okWide at h
  rcases ht with ⟨fs, ht⟩ | ⟨n, e, ht⟩
  · rw [ht] at h; obtain ⟨cs, h, _⟩ := h; exact ⟨cs, h⟩
  · rw [ht] at h; obtain ⟨cs, h, _⟩ := h; exact ⟨cs, h⟩
theorem arg_str {W : World} {r : Reach} {base : Nat} {t : TypeId} {v : Value} (ht : P.underlying t = some .string) (h : Value.okWide P W r base t v) : ∃ s, v = .string s := by
  unfold Value.okWide at h
  rw [ht] at h
  simp only [Cell.okWide, ht] at h
  unfold Cell.ok at h
  rw [ht] at h
  split at h <;> first | exact h.elim | skip
  all_goals first | (simp_all; done) | skip
theorem arg_slice_spot {W : World} {r : Reach} {base : Nat} {t e : TypeId} {v : Value} (ht : P.underlying t = some (.slice e)) (h : Value.okWide P W r base t v) : ∀ a len cap, v = .slice (some a) len cap → a.spot = none := by
  rintro a len cap rfl
  unfold Value.okWide at h
  rw [ht] at h
  simp only [Cell.okWide, ht] at h
  unfold Cell.ok at h
  rw [ht] at h
  exact h.2.2.2.1
theorem arg_slice_cells {W : World} {r : Reach} {base : Nat} {t e : TypeId} {v : Value} (ht : P.underlying t = some (.slice e)) (h : Value.okWide P W r base t v) : v.cells.toList = [v] := by
  unfold Value.okWide at h
  rw [ht] at h
  cases v with
  | agg cs =>
    simp only [Cell.okWide, ht] at h
    unfold Cell.ok at h
    rw [ht] at h
    exact h.elim
  | _ => rfl
/-- bytes -/
theorem bytes_of {R : List AV → Prop} {k : IntKind} (hR : ∀ l, R l → isIntL k l) {H : AHeap} {u : AV} (h : SlP R 1 H u) : ∃ bs : List Int, SlT (fun b => [.int k b]) 1 H u bs ∧ ∀ b ∈ bs, (Lit.int k b).wf = true := by
  obtain ⟨ls, h1, h2⟩ := h
  have : ∀ ls : List (List AV), (∀ l ∈ ls, isIntL k l) → ∃ bs : List Int, ls = bs.map (fun b => [.int k b]) ∧ ∀ b ∈ bs, (Lit.int k b).wf = true := by
    intro ls
    induction ls with
    | nil => exact fun _ => ⟨[], rfl, by simp⟩
    | cons l ls ih =>
      intro h
      obtain ⟨bs, q1, q2⟩ := ih fun l hl => h l (by simp [hl])
      obtain ⟨b, q3, q4⟩ := h l (by simp)
      refine ⟨b :: bs, by rw [q3, q1]; rfl, fun c hc => ?_⟩
      rcases List.mem_cons.1 hc with rfl | hc
      · exact q4
      · exact q2 c hc
  obtain ⟨bs, q1, q2⟩ := this ls fun l hl => hR l (h1 l hl).1
  refine ⟨bs, ?_, q2⟩
  subst q1
  rw [List.length_map] at h2
  unfold SlT
  have e : (bs.map fun b => [AV.int k b]).flatten = bs.flatMap fun b => [AV.int k b] := by rw [List.flatMap_def]
  rw [← e]; exact h2
theorem trod_cons {H : Type} {enc : TypeId × Value → H} {W : World} {b : Nat} {sp : Nat → Bool} {held : Bool} {t : TypeId} {ts : List TypeId} {vs : List Value} {ds : List (DataW H)} {ps : List MemPlace} (h : DataW.TrodAll enc P W b sp held (t :: ts) vs ds ps) :
    ∃ v vs' d ds' p q fuel, vs = v :: vs' ∧ ds = d :: ds' ∧ DataW.trod enc P W b sp held fuel t v.cells.toList = some (d, p) ∧ DataW.TrodAll enc P W b sp held ts vs' ds' q := by
  cases vs with
  | nil => exact h.elim
  | cons v vs =>
    cases ds with
    | nil => exact h.elim
    | cons d ds => obtain ⟨p, q, ⟨fuel, h1⟩, h2, _⟩ := h; exact ⟨v, vs, d, ds, p, q, fuel, rfl, rfl, h1, h2⟩
theorem trod_nil {H : Type} {enc : TypeId × Value → H} {W : World} {b : Nat} {sp : Nat → Bool} {held : Bool} {vs : List Value} {ds : List (DataW H)} {ps : List MemPlace} (h : DataW.TrodAll enc P W b sp held [] vs ds ps) : vs = [] ∧ ds = [] := by
  cases vs with
  | cons v vs => exact h.elim
  | nil =>
    cases ds with
    | cons d ds => exact h.elim
    | nil => exact ⟨rfl, rfl⟩
/-- the heap of the rows is the world's -/
theorem hr_of_step {W : World} {θ : Th} {n : Nat} {gl : GL} (h : Step W θ0 P.globals.size [] θ n gl) : HR P 0 (Lt n) θ (givenHeap gl n) W :=
  HR.givenD (Nat.zero_le _) h.le (fun g hg => by obtain ⟨q1, q2, _⟩ := h.ag g hg; exact ⟨q1, q2⟩) h.good
theorem good_nil (W : World) (θ : Th) (n : Nat) : Good W θ n [] := fun b l h => by cases h
/-- WHAT THE MACHINE ANSWERS ON ROWS -/
theorem law_calls (hP : PGood P) {W : World} {θ : Th} {n : Nat} {gl : GL} (h : HR P 0 (Lt n) θ (givenHeap gl n) W) {f : Nat} {vs : List AV} {args : Array Value} (hv : VRL (Lt n) θ vs args.toList) {H' : AHeap}
    (hc : CALL (cProg P) f vs (givenHeap gl n) (.ret (.bool true)) H') : Calls P f args W fun e w' => e = .returned (.bool true) ∧ Below W.heap.size W w' := by
  obtain ⟨m, hr⟩ := hc.acall
  refine (calls_of_acall hP h hv (fun b hb => hb) hr).mono fun e w' ⟨c, θ', he, hv, _, g⟩ => ⟨?_, g.below (given_heap _ _)⟩
  rw [he, ← hv.now]; rfl

theorem trodAll_stays {H : Type} {enc : TypeId × Value → H} (hl : laidOutB P = true) {W W' : World} {sp : Nat → Bool} : ∀ {ts : List TypeId} {vs : List Value} {ds : List (DataW H)} {ps : List MemPlace},
    (∀ t ∈ ts, P.readableRec t = true ∧ t < P.types.size) → DataW.TrodAll enc P W 0 (fun _ => true) true ts vs ds ps → Below W.heap.size W W' → (∀ x ∈ ps, x.block < W.heap.size) → (∀ x ∈ ps, sp x.block = true) →
    DataW.TrodAll enc P W' 0 sp true ts vs ds ps
  | [], [], [], ps, _, h, _, _, _ => h
  | t :: ts, v :: vs, d :: ds, ps, ht, ⟨p, q, h1, h2, e⟩, hb, hlt, hs => by
    subst e
    exact ⟨p, q, WideElems.Trod_stays hl (ht t (by simp)).1 (ht t (by simp)).2 h1 (fun x hx => hb.same (hlt x (by simp [hx]))) (fun x hx => hs x (by simp [hx])),
      trodAll_stays hl (fun t h => ht t (by simp [h])) h2 hb (fun x hx => hlt x (by simp [hx])) (fun x hx => hs x (by simp [hx])), rfl⟩
  | [], _ :: _, _, _, _, h, _, _, _ => h.elim
  | [], [], _ :: _, _, _, h, _, _, _ => h.elim
  | _ :: _, [], _, _, _, h, _, _, _ => h.elim
  | _ :: _, _ :: _, [], _, _, h, _, _, _ => h.elim

/-- a law that answers true, whatever it is handed -/
theorem open_contract {H : Type} {enc : TypeId × Value → H} {f : Nat} {fn : Func} {s : ChangeSpec} {tb : TypeId} (hl : laidOutB P = true) (hread : ∀ t ∈ fn.params.toList, P.readableRec t = true ∧ t < P.types.size) (hsv : s.vars = [])
    (hfn : ∀ ds : List (DataW H), ds.length = fn.params.size → s.fn H ds = { results := [.lit (.bool true)], args := ds }) (hrt : fn.resultTypes = #[tb]) (htb : P.underlying tb = some .bool)
    {W : World} {args : Array Value} {ds gs : List (DataW H)} {before : List MemPlace} {apart fresh handsOn again : Bool}
    (hW : DataW.Whole enc P fn.params.toList s.vars apart W args.toList ds gs before) (hrun : Calls P f args W fun e w' => e = .returned (.bool true) ∧ Below W.heap.size W w') :
    Calls P f args W fun e W' => ∃ v, e = .returned v ∧ s.post enc P fn apart fresh handsOn again W args v W' := by
  have hlt : ∀ p ∈ before, p.block < W.heap.size := hW.lt
  have hW' := hW
  obtain ⟨p, q, hA, hV, rfl, hfz, hnd⟩ := hW
  rw [hsv] at hV
  obtain ⟨rfl, rfl⟩ := trodVars_none hV
  have hlen : ds.length = fn.params.size := by
    have : ∀ {ts : List TypeId} {vs : List Value} {ds : List (DataW H)} {ps : List MemPlace}, DataW.TrodAll enc P W 0 (fun _ => true) true ts vs ds ps → ds.length = ts.length := by
      intro ts
      induction ts with
      | nil => intro vs ds ps h; cases vs <;> cases ds <;> first | rfl | exact h.elim
      | cons t ts ih =>
        intro vs ds ps h
        cases vs with
        | nil => exact h.elim
        | cons v vs =>
          cases ds with
          | nil => exact h.elim
          | cons d ds => obtain ⟨p, q, _, h2, _⟩ := h; simp [ih h2]
    rw [this hA]; simp
  refine hrun.mono fun e W' ⟨he, hg⟩ => ?_
  subst he
  refine ⟨_, rfl, post_of_below (pa := p) (pv := []) hW' (fun _ _ _ => ?_) (fun sp hs => ?_) (fun _ _ => ?_) rfl hg ?_⟩
  · rw [hrt, List.append_nil, hfn ds hlen]; exact trodAll_cons_mk (shut_bool htb _) trodAll_mk0
  · rw [List.append_nil, hfn ds hlen]
    exact trodAll_stays hl hread hA hg (fun x hx => hlt x (by simp [hx])) (fun x hx => hs x (by simp [hx]))
  · rw [hsv, List.append_nil, hfn ds hlen]; rfl
  · exact ok_one hrt rfl (okWide_bool_mk htb _)
end
end Go.Am
