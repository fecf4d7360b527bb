/- TraceParts: for every world, and whatever the arguments read as, the law returns true and changes nothing that was there. No condition beyond the row's own. -/
import Derived.Test.YtkfheegmlgfdoaaRows
import Derived.Test.YtkfheegmlgfdoaaTAmArgs3
import Derived.Test.YtkfheegmlgfdoaaTAmTraceF
import Derived.Test.YtkfheegmlgfdoaaTAmArgs5
import Derived.LaidMore
import Derived.Deep.DeepHandedRow
namespace Go.Proofs.Ytkfheegmlgfdoaa.traceParts
open Go.ChangeShapes Go.WideShapes Go.ChangeAt Go.RowKit Go.Am

set_option maxRecDepth 100000
theorem good : PGood Try.prog := pgood (by kernel_rfl) (by kernel_rfl)
theorem own : ownKnob Try.prog.godebug = none := by kernel_rfl
theorem laidOut : laidOutB Try.prog = true := by kernel_rfl
theorem read : ∀ t ∈ Try.f4.params.toList, Try.prog.readableRec t = true ∧ t < Try.prog.types.size := by
  rw [Try.params4]
  intro t ht
  simp only [List.mem_cons, List.mem_nil_iff, or_false] at ht
  rcases ht with rfl | rfl | rfl
  · exact ⟨by kernel_rfl, by decide +kernel⟩
  · exact ⟨by kernel_rfl, by decide +kernel⟩
  · exact ⟨by kernel_rfl, by decide +kernel⟩
theorem u28 : Try.prog.underlying 28 = some (.slice 30) := by kernel_rfl
theorem u30 : Try.prog.underlying 30 = some (.slice 38) := by kernel_rfl
theorem u3 : Try.prog.underlying 3 = some (.int .i64) := by kernel_rfl
theorem u36 : Try.prog.underlying 36 = some (.int .u64) := by kernel_rfl
theorem u29 : Try.prog.underlying 29 = some (.array 2 3) := by kernel_rfl
noncomputable def evFields : Array Field := match Try.prog.underlying 38 with | some (.struct fs) => fs | _ => #[]
theorem u38 : Try.prog.underlying 38 = some (.struct evFields) := by kernel_rfl
theorem c38 : Try.prog.cellsOf 38 = 9 := by kernel_rfl
theorem c30 : Try.prog.cellsOf 30 = 1 := by kernel_rfl
abbrev evR : List (List AV → Prop) := [isIntL .i64, isIntL .i64, isIntL .i64, isIntL .i64, isIntL .i64, isIntL .i64, isIntL .i64, isIntL .u64, isIntL .i64]
theorem evTypes : evFields.toList.map (·.type) = [3, 3, 3, 3, 3, 3, 3, 36, 3] := by kernel_rfl
theorem zip_all {α β : Type} {f : α → TypeId} {Q : TypeId → β → Prop} : ∀ (l : List α) (R : List β), (∀ x ∈ (l.map f).zip R, Q x.1 x.2) → ∀ x ∈ l.zip R, Q (f x.1) x.2
  | [], _, _, x, h => by simp at h
  | _ :: _, [], _, x, h => by simp at h
  | a :: l, b :: R, hq, x, h => by
    rcases List.mem_cons.1 h with rfl | h
    · exact hq (f a, b) (by simp)
    · exact zip_all l R (fun y hy => hq y (by simp [hy])) x h
theorem flatEv : FlatP Try.prog 38 (isParts evR) := by
  refine flat_struct u38 (by kernel_rfl) (zip_all (f := Field.type) (Q := FlatP Try.prog) _ _ ?_) (by kernel_rfl) (by kernel_rfl)
  rw [evTypes]
  intro x hx
  simp only [evR, List.zip_cons_cons, List.zip_nil_right, List.mem_cons, List.mem_nil_iff, or_false] at hx
  rcases hx with rfl | rfl | rfl | rfl | rfl | rfl | rfl | rfl | rfl <;> first | exact flat_int u3 | exact flat_int u36
theorem ev_of {l : List AV} (h : isParts evR l) : ∃ x : Evt, l = x.enc ∧ True := by
  obtain ⟨_, _, rfl, ⟨a1, rfl, _⟩, _, _, rfl, ⟨a2, rfl, _⟩, _, _, rfl, ⟨a3, rfl, _⟩, _, _, rfl, ⟨a4, rfl, _⟩, _, _, rfl, ⟨a5, rfl, _⟩, _, _, rfl, ⟨a6, rfl, _⟩, _, _, rfl, ⟨a7, rfl, _⟩, _, _, rfl, ⟨a8, rfl, _⟩, _, _, rfl, ⟨a9, rfl, _⟩, rfl⟩ := h
  exact ⟨⟨a1, a2, a3, a4, a5, a6, a7, a8, a9⟩, rfl, trivial⟩
theorem rels_of {H : AHeap} : ∀ (vs : List AV), (∀ v ∈ vs, ∃ xs : List Evt, SlT Evt.enc 9 H v xs) → ∃ xss, RelS H vs xss
  | [], _ => ⟨[], rfl, fun i c xs h => by simp at h⟩
  | v :: vs, h => by
    obtain ⟨xs, h1⟩ := h v (by simp)
    obtain ⟨xss, h2, h3⟩ := rels_of vs fun w hw => h w (by simp [hw])
    refine ⟨xs :: xss, by simp [h2], fun i c ys q1 q2 => ?_⟩
    cases i with
    | zero => simp at q1 q2; subst q1; subst q2; exact h1
    | succ i => exact h3 i c ys (by simpa using q1) (by simpa using q2)
theorem contract {H : Type} {enc : TypeId × Value → H} {W : World} {base : Nat} {args : Array Value} {ds gs : List (DataW H)} {before : List MemPlace} {apart : Bool}
    (hval : ∀ (j : Nat) t v, Try.f4.params[j]? = some t → args[j]? = some v → Value.okWide Try.prog W .any base t v) (hW : DataW.Whole enc Try.prog Try.f4.params.toList Rows.tracePartsSpec.vars apart W args.toList ds gs before) :
    Calls Try.prog 4 args W fun e w' => e = .returned (.bool true) ∧ Below W.heap.size W w' := by
  obtain ⟨p, q, hA, _, _, _, _⟩ := hW
  rw [Try.params4] at hA hval
  obtain ⟨v, vs1, d, ds1, p1, q1, fuel, hl, rfl, ht, hA⟩ := trod_cons hA
  obtain ⟨v2, vs2, d2, ds2, p2, q2, fuel2, rfl, rfl, ht2, hA⟩ := trod_cons hA
  obtain ⟨v3, vs3, d3, ds3, p3, q3, fuel3, rfl, rfl, ht3, hA⟩ := trod_cons hA
  obtain ⟨rfl, rfl⟩ := trod_nil hA
  have hv : Value.okWide Try.prog W .any base 28 v := hval 0 28 v rfl (by rw [← Array.getElem?_toList, hl]; rfl)
  have hv2 : Value.okWide Try.prog W .any base 3 v2 := hval 1 3 v2 rfl (by rw [← Array.getElem?_toList, hl]; rfl)
  have hv3 : Value.okWide Try.prog W .any base 29 v3 := hval 2 29 v3 rfl (by rw [← Array.getElem?_toList, hl]; rfl)
  obtain ⟨core, rfl, _⟩ := arg_int u3 hv2
  obtain ⟨l3, ⟨_, _, rfl, ⟨s0, rfl, _⟩, _, _, rfl, ⟨s1, rfl, _⟩, rfl⟩, hv3'⟩ := arg_flat (flat_array u29 (flat_int u3) (by kernel_rfl)) (.inr ⟨_, _, u29⟩) hv3 ht3
  rw [arg_slice_cells u28 hv] at ht
  have hrd := rd_slice u28 (rd_slice u30 (rd_flat flatEv) (by rw [c38]; decide)) (by rw [c30]; decide)
  obtain ⟨θ, n, gl, l, hst, hvl, u, rfl, hsl⟩ := hrd.2 enc W true fuel _ d p1 ht θ0 Try.prog.globals.size [] (good_nil W θ0 Try.prog.globals.size)
  rw [c38, c30] at hsl
  obtain ⟨us, hus, hall⟩ := slt_of (α := AV) (enc := enc1) (Q := fun v => ∃ xs : List Evt, SlT Evt.enc 9 (givenHeap gl n) v xs) (fun l ⟨v, h1, h2⟩ => ⟨v, h1, by obtain ⟨xs, h3, _⟩ := slt_of (fun l h => ev_of h) h2; exact ⟨xs, h3⟩⟩) hsl
  obtain ⟨xss, hrel⟩ := rels_of us hall
  obtain ⟨H', hc⟩ := TraceParts_law (AP := cProg Try.prog) ⟨law23_TraceParts_at, law23_twin_at, trace_Merge_at, slices_Clone_s_api_Event_at, ref23_Merge_at, ref23_Same_at, trace_Of_at, trace_Of_1_at, trace_sift_api_Event_at, ref23_Of_at, trace_Between_at, trace_Between_1_at, ref23_Between_at⟩ (core := core) (s0 := s0) (s1 := s1) hus hrel
  refine law_calls good (hr_of_step hst) ?_ hc
  rw [hl]
  obtain ⟨c, cs', hcc, hcv, _⟩ := hvl.uncons
  injection hcc with hcc _
  subst hcc
  exact .cons hcv (.cons (fun _ _ => rfl) (.one (hv3' _ _)))

/-- a world for the witness -/
noncomputable def laidW (os : Os) : World := World.holding Try.prog os ⟨#[], #[.slice none 0 0, .int .i64 0, .agg #[.int .i64 0, .int .i64 0]], []⟩
theorem laid_met (os : Os) : laidMetH Try.prog Rows.tracePartsRow.laid ((laidW os).forCall (fun _ _ => 0) ⟨#[], #[.slice none 0 0, .int .i64 0, .agg #[.int .i64 0, .int .i64 0]], []⟩).memory :=
  laidMet_of_run' 8 (by kernel_rfl) (by kernel_rfl)
theorem reads (os : Os) {H : Type} (enc : TypeId × Value → H) : ∃ places, DataW.whole enc Try.prog ((laidW os).forCall (fun _ _ => 0) ⟨#[], #[.slice none 0 0, .int .i64 0, .agg #[.int .i64 0, .int .i64 0]], []⟩).memory Try.f4.params.toList Rows.tracePartsSpec.vars false (#[.slice none 0 0, .int .i64 0, .agg #[.int .i64 0, .int .i64 0]] : Array Value).toList 8 = some ([.nil, .lit (.int .i64 0), .agg (List.replicate 2 (.lit (.int .i64 0)))], [], places) :=
  ⟨[], by kernel_rfl⟩

theorem lifted (os : Os) (started : os.Started) (H : Type) (enc : TypeId × Value → H) (F : Stop.Interp) :
    ReturnsInHanded {} Try.checked os 4 .any ((OpenSpec.ofChange Rows.tracePartsSpec).preRow enc Try.prog Try.f4 Rows.tracePartsRow.domain false Rows.tracePartsRow.laid) (((OpenSpec.ofChange Rows.tracePartsSpec).at F).post enc Try.prog Try.f4 false true false false) := by
  obtain ⟨places, hx⟩ := reads os enc
  refine returnsInHanded_of_row (C := Try.checked) (s := OpenSpec.ofChange Rows.tracePartsSpec) own started (by kernel_rfl) Try.func4
    (witness_row_at (enc := enc) (C := Try.checked) false (laidW os) #[.slice none 0 0, .int .i64 0, .agg #[.int .i64 0, .int .i64 0]] rfl (by kernel_rfl) (by kernel_rfl) (by kernel_rfl)
      (OpenSpec.preRow_of_cond 8 hx (by kernel_rfl) (fun k hk => by cases hk) (by kernel_rfl) (laid_met os))) ?_
  intro W base args ds gs before hval hW _ _ _ hL _ _
  refine open_contract (s := Rows.tracePartsSpec) laidOut read rfl (fun ds h => ?_) rfl Try.underlying4 hW (contract hval hW)
  rw [Try.params4] at h
  match ds, h with
  | [d0, d1, d2], _ => rfl

theorem said : Rows.TracePartsSaid :=
  OpenClaim.holds_of_cond 4 Try.f4 rfl rfl rfl rfl rfl rfl rfl ⟨rfl, rfl, rfl, rfl, rfl⟩ rfl rfl rfl rfl rfl (by kernel_rfl) Try.func4 (by kernel_rfl)
    (of_decide_eq_true (by kernel_rfl)) (by unfold Func.isWrapper; first | (rw [if_pos (by decide +kernel)]; kernel_rfl) | (rw [if_neg (by decide +kernel)]; exact ⟨rfl, rfl⟩))
    (fun os started H enc _ F => by rw [OpenClaim.pre_eq_preRow]; exact lifted os started H enc F)
end Go.Proofs.Ytkfheegmlgfdoaa.traceParts
