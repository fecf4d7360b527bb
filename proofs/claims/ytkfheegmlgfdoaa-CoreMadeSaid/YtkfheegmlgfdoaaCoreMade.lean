/- CoreMade: for every world, and whatever the arguments read as, the law returns true and changes nothing that was there. No condition beyond the row's own. -/
import Derived.Test.YtkfheegmlgfdoaaRows
import Derived.Test.YtkfheegmlgfdoaaAmB4
import Derived.Test.YtkfheegmlgfdoaaAmB5
import Derived.Test.YtkfheegmlgfdoaaAmCmZ
import Derived.LaidMore
import Derived.Deep.DeepHandedRow
namespace Go.Proofs.Ytkfheegmlgfdoaa.coreMade
open Go.ChangeShapes Go.WideShapes Go.ChangeAt Go.RowKit Go.Am

set_option maxRecDepth 100000
theorem good : PGood Try.prog := pgood (by kernel_rfl) (by kernel_rfl)
theorem own : ownKnob Try.prog.godebug = none := by kernel_rfl
theorem laidOut : laidOutB Try.prog = true := by kernel_rfl
theorem read : ∀ t ∈ Try.f5.params.toList, Try.prog.readableRec t = true ∧ t < Try.prog.types.size := by
  rw [Try.params5]
  intro t ht
  simp only [List.mem_cons, List.mem_nil_iff, or_false] at ht
  rcases ht with rfl | rfl | rfl
  · exact ⟨by kernel_rfl, by decide +kernel⟩
  · exact ⟨by kernel_rfl, by decide +kernel⟩
  · exact ⟨by kernel_rfl, by decide +kernel⟩
noncomputable abbrev mac : Mac := Mac.plain Try.prog
instance : MK mac := ⟨fun _ _ => rfl⟩
theorem u3 : Try.prog.underlying 3 = some (.int .i64) := by kernel_rfl
theorem u40 : Try.prog.underlying 40 = some (.slice 67) := by kernel_rfl
theorem c67 : Try.prog.cellsOf 67 = 5 := by kernel_rfl
theorem by67 : Try.prog.bytesOf 67 = 40 := by kernel_rfl
noncomputable def insFields : Array Field := match Try.prog.underlying 67 with | some (.struct fs) => fs | _ => #[]
theorem u67 : Try.prog.underlying 67 = some (.struct insFields) := by kernel_rfl
theorem insTypes : insFields.toList.map (·.type) = [3, 3, 3, 3, 3] := by kernel_rfl
noncomputable def budFields : Array Field := match Try.prog.underlying 42 with | some (.struct fs) => fs | _ => #[]
theorem u42 : Try.prog.underlying 42 = some (.struct budFields) := by kernel_rfl
theorem budTypes : budFields.toList.map (·.type) = [3, 3, 3] := by kernel_rfl
noncomputable def madFields : Array Field := match Try.prog.underlying 44 with | some (.struct fs) => fs | _ => #[]
theorem u44 : Try.prog.underlying 44 = some (.struct madFields) := by kernel_rfl
theorem madTypes : madFields.toList.map (·.type) = [42, 3] := by kernel_rfl
abbrev i5 : List (List AV → Prop) := [isIntL .i64, isIntL .i64, isIntL .i64, isIntL .i64, isIntL .i64]
abbrev i3 : List (List AV → Prop) := [isIntL .i64, isIntL .i64, isIntL .i64]
abbrev mR : List (List AV → Prop) := [isParts i3, isIntL .i64]
theorem zip_all {α β : Type} {f : α → TypeId} {Q : TypeId → β → Prop} : ∀ (l : List α) (R : List β), (∀ x ∈ (l.map f).zip R, Q x.1 x.2) → ∀ x ∈ l.zip R, Q (f x.1) x.2
  | [], _, _, x, h => by simp at h
  | _ :: _, [], _, x, h => by simp at h
  | a :: l, b :: R, hq, x, h => by
    rcases List.mem_cons.1 h with rfl | h
    · exact hq (f a, b) (by simp)
    · exact zip_all l R (fun y hy => hq y (by simp [hy])) x h
theorem flatIns : FlatP Try.prog 67 (isParts i5) := by
  refine flat_struct u67 (by kernel_rfl) (zip_all (f := Field.type) (Q := FlatP Try.prog) _ _ ?_) (by kernel_rfl) (by kernel_rfl)
  rw [insTypes]
  intro x hx
  simp only [i5, List.zip_cons_cons, List.zip_nil_right, List.mem_cons, List.mem_nil_iff, or_false] at hx
  rcases hx with rfl | rfl | rfl | rfl | rfl <;> exact flat_int u3
theorem flatBud : FlatP Try.prog 42 (isParts i3) := by
  refine flat_struct u42 (by kernel_rfl) (zip_all (f := Field.type) (Q := FlatP Try.prog) _ _ ?_) (by kernel_rfl) (by kernel_rfl)
  rw [budTypes]
  intro x hx
  simp only [i3, List.zip_cons_cons, List.zip_nil_right, List.mem_cons, List.mem_nil_iff, or_false] at hx
  rcases hx with rfl | rfl | rfl <;> exact flat_int u3
theorem flatMad : FlatP Try.prog 44 (isParts mR) := by
  refine flat_struct u44 (by kernel_rfl) (zip_all (f := Field.type) (Q := FlatP Try.prog) _ _ ?_) (by kernel_rfl) (by kernel_rfl)
  rw [madTypes]
  intro x hx
  simp only [mR, List.zip_cons_cons, List.zip_nil_right, List.mem_cons, List.mem_nil_iff, or_false] at hx
  rcases hx with rfl | rfl
  · exact flatBud
  · exact flat_int u3
theorem ins_of {l : List AV} (h : isParts i5 l) : ∃ x : Ins, l = x.enc ∧ True := by
  obtain ⟨_, _, rfl, ⟨a1, rfl, _⟩, _, _, rfl, ⟨a2, rfl, _⟩, _, _, rfl, ⟨a3, rfl, _⟩, _, _, rfl, ⟨a4, rfl, _⟩, _, _, rfl, ⟨a5, rfl, _⟩, rfl⟩ := h
  exact ⟨⟨a1, a2, a3, a4, a5⟩, rfl, trivial⟩
theorem contract {H : Type} {enc : TypeId × Value → H} {W : World} {base : Nat} {args : Array Value} {ds gs : List (DataW H)} {before : List MemPlace} {apart : Bool}
    (hval : ∀ (j : Nat) t v, Try.f5.params[j]? = some t → args[j]? = some v → Value.okWide Try.prog W .any base t v) (hW : DataW.Whole enc Try.prog Try.f5.params.toList Rows.coreMadeSpec.vars apart W args.toList ds gs before)
    {ts : List TypeId} (hZ : (DataW.weightsEach Try.prog (Try.f5.params.toList ++ ts) (ds ++ gs)).all (· ≤ reachBytes) = true) :
    Calls Try.prog 5 args W fun e w' => e = .returned (.bool true) ∧ Below W.heap.size W w' := by
  obtain ⟨p, q, hA, _, _, _, _⟩ := hW
  rw [Try.params5] at hA hval hZ
  obtain ⟨v, vs1, d, ds1, p1, q1, fuel, hl, rfl, ht, hA⟩ := trod_cons hA
  obtain ⟨v2, vs2, d2, ds2, p2, q2, fuel2, rfl, rfl, ht2, hA⟩ := trod_cons hA
  obtain ⟨v3, vs3, d3, ds3, p3, q3, fuel3, rfl, rfl, ht3, hA⟩ := trod_cons hA
  obtain ⟨rfl, rfl⟩ := trod_nil hA
  have hv : Value.okWide Try.prog W .any base 3 v := hval 0 3 v rfl (by rw [← Array.getElem?_toList, hl]; rfl)
  have hv2 : Value.okWide Try.prog W .any base 40 v2 := hval 1 40 v2 rfl (by rw [← Array.getElem?_toList, hl]; rfl)
  have hv3 : Value.okWide Try.prog W .any base 44 v3 := hval 2 44 v3 rfl (by rw [← Array.getElem?_toList, hl]; rfl)
  obtain ⟨id, rfl, _⟩ := arg_int u3 hv
  obtain ⟨l3, ⟨_, _, rfl, ⟨_, _, rfl, ⟨f, rfl, _⟩, _, _, rfl, ⟨s, rfl, _⟩, _, _, rfl, ⟨o, rfl, _⟩, rfl⟩, _, _, rfl, ⟨ln, rfl, _⟩, rfl⟩, hv3'⟩ := arg_flat flatMad (.inl ⟨_, u44⟩) hv3 ht3
  rw [arg_slice_cells u40 hv2] at ht2
  have hrd := rd_slice u40 (rd_flat flatIns) (by rw [c67]; decide)
  obtain ⟨θ, n, gl, l, hst, hvl, u, rfl, hsl⟩ := hrd.2 enc W true fuel2 _ d2 p2 ht2 θ0 Try.prog.globals.size [] (good_nil W θ0 Try.prog.globals.size)
  rw [c67] at hsl
  obtain ⟨xs, hus, _⟩ := slt_of (fun l h => ins_of h) hsl
  obtain ⟨c, cs', hcc, hcv, _⟩ := hvl.uncons
  injection hcc with hcc _
  subst hcc
  have hlen : xs.length * 40 ≤ reachBytes := by
    have hz : ∀ x ∈ DataW.weights Try.prog 40 d2, x ≤ reachBytes := fun x hx => by
      have h1 := List.all_eq_true.1 hZ x (by simp only [List.cons_append, DataW.weightsEach, List.mem_append]; exact .inr (.inl hx))
      simpa using h1
    have := read_small u40 ht2 hz hcv (Sl.lenV hus)
    rwa [by67] at this
  have hre : reachBytes ≤ 140737488355328 := by decide
  refine law_plain good (hr_of_step hst) ?_ (CoreMade_law (M := mac) (id := id) (f := f) (s := s) (o := o) (ln := ln) hus (Nat.le_trans hlen hre))
  rw [hl]
  exact .cons (fun _ _ => rfl) (.cons hcv (.one (hv3' _ _)))

/-- a world for the witness -/
noncomputable def laidW (os : Os) : World := World.holding Try.prog os ⟨#[], #[.int .i64 0, .slice none 0 0, .agg #[.int .i64 0, .int .i64 0, .int .i64 0, .int .i64 0]], []⟩
theorem laid_met (os : Os) : laidMetH Try.prog Rows.coreMadeRow.laid ((laidW os).forCall (fun _ _ => 0) ⟨#[], #[.int .i64 0, .slice none 0 0, .agg #[.int .i64 0, .int .i64 0, .int .i64 0, .int .i64 0]], []⟩).memory :=
  laidMet_of_run' 8 (by kernel_rfl) (by kernel_rfl)
theorem reads (os : Os) {H : Type} (enc : TypeId × Value → H) : ∃ places, DataW.whole enc Try.prog ((laidW os).forCall (fun _ _ => 0) ⟨#[], #[.int .i64 0, .slice none 0 0, .agg #[.int .i64 0, .int .i64 0, .int .i64 0, .int .i64 0]], []⟩).memory Try.f5.params.toList Rows.coreMadeSpec.vars false (#[.int .i64 0, .slice none 0 0, .agg #[.int .i64 0, .int .i64 0, .int .i64 0, .int .i64 0]] : Array Value).toList 8 = some ([.lit (.int .i64 0), .nil, .agg [.agg [.lit (.int .i64 0), .lit (.int .i64 0), .lit (.int .i64 0)], .lit (.int .i64 0)]], [], places) :=
  ⟨[], by kernel_rfl⟩

theorem lifted (os : Os) (started : os.Started) (H : Type) (enc : TypeId × Value → H) (F : Stop.Interp) :
    ReturnsInHanded {} Try.checked os 5 .any ((OpenSpec.ofChange Rows.coreMadeSpec).preRow enc Try.prog Try.f5 Rows.coreMadeRow.domain false Rows.coreMadeRow.laid) (((OpenSpec.ofChange Rows.coreMadeSpec).at F).post enc Try.prog Try.f5 false true false false) := by
  obtain ⟨places, hx⟩ := reads os enc
  refine returnsInHanded_of_row (C := Try.checked) (s := OpenSpec.ofChange Rows.coreMadeSpec) own started (by kernel_rfl) Try.func5
    (witness_row_at (enc := enc) (C := Try.checked) false (laidW os) #[.int .i64 0, .slice none 0 0, .agg #[.int .i64 0, .int .i64 0, .int .i64 0, .int .i64 0]] rfl (by kernel_rfl) (by kernel_rfl) (by kernel_rfl)
      (OpenSpec.preRow_of_cond 8 hx (by kernel_rfl) (fun k hk => by cases hk) (by kernel_rfl) (laid_met os))) ?_
  intro W base args ds gs before hval hW _ _ hZ hL _ _
  refine open_contract (s := Rows.coreMadeSpec) laidOut read rfl (fun ds h => ?_) rfl Try.underlying4 hW (contract hval hW hZ)
  rw [Try.params5] at h
  match ds, h with
  | [d0, d1, d2], _ => rfl

theorem said : Rows.CoreMadeSaid :=
  OpenClaim.holds_of_cond 5 Try.f5 rfl rfl rfl rfl rfl rfl rfl ⟨rfl, rfl, rfl, rfl, rfl⟩ rfl rfl rfl rfl rfl (by kernel_rfl) Try.func5 (by kernel_rfl)
    (of_decide_eq_true (by kernel_rfl)) (by unfold Func.isWrapper; first | (rw [if_pos (by decide +kernel)]; kernel_rfl) | (rw [if_neg (by decide +kernel)]; exact ⟨rfl, rfl⟩))
    (fun os started H enc _ F => by rw [OpenClaim.pre_eq_preRow]; exact lifted os started H enc F)
end Go.Proofs.Ytkfheegmlgfdoaa.coreMade
