/- TraceWrites: for every world that holds the listed variables as listed, and whatever the arguments read as, the law returns true and changes nothing that was there. No condition beyond the row's own. -/
import Derived.Test.YtkfheegmlgfdoaaDoorCards
import Derived.Test.YtkfheegmlgfdoaaDoorTie
import Derived.Test.YtkfheegmlgfdoaaDoorAmB4
import Derived.Test.YtkfheegmlgfdoaaDoorAmB5
import Derived.Test.YtkfheegmlgfdoaaDoorAmTrW3
import Derived.LaidMore
import Derived.Deep.DeepHandedRow
import Derived.Deep.DeepWitnessRowRef
namespace Go.Proofs.YtkfheegmlgfdoaaDoor.traceWrites
open Go.ChangeShapes Go.WideShapes Go.ChangeAt Go.RowKit Go.Am

set_option maxRecDepth 100000
theorem good : PGood Tryd.prog := pgood (by kernel_rfl) (by kernel_rfl)
theorem own : ownKnob Tryd.prog.godebug = none := by kernel_rfl
theorem laidOut : laidOutB Tryd.prog = true := by kernel_rfl
theorem read : ∀ t ∈ Tryd.f3.params.toList, Tryd.prog.readableRec t = true ∧ t < Tryd.prog.types.size := by
  rw [Tryd.params3]
  intro t ht
  simp only [List.mem_cons, List.mem_nil_iff, or_false] at ht
  rcases ht with rfl <;> exact ⟨by kernel_rfl, by decide +kernel⟩
noncomputable abbrev gl0 := rowsOf Tryd.prog 0 Tryd.prog.globals.size Rows.traceWritesRow.laid
noncomputable abbrev n0 := Tryd.prog.globals.size + Rows.traceWritesRow.laid.length
theorem noErr : noSent Rows.traceWritesRow.laid = true := by kernel_rfl
noncomputable abbrev mac : Mac := Mac.plain Tryd.prog
instance : MK mac := ⟨fun _ _ => rfl⟩
theorem u22 : Tryd.prog.underlying 22 = some (.slice 37) := by kernel_rfl
theorem u3 : Tryd.prog.underlying 3 = some (.int .i64) := by kernel_rfl
theorem u35 : Tryd.prog.underlying 35 = some (.int .u64) := by kernel_rfl
noncomputable def evFields : Array Field := match Tryd.prog.underlying 37 with | some (.struct fs) => fs | _ => #[]
theorem u37 : Tryd.prog.underlying 37 = some (.struct evFields) := by kernel_rfl
theorem c37 : Tryd.prog.cellsOf 37 = 9 := by kernel_rfl
abbrev evR : List (List AV → Prop) := [isIntL .i64, isIntL .i64, isIntL .i64, isIntL .i64, isIntL .i64, isIntL .i64, isIntL .i64, isIntL .u64, isIntL .i64]
theorem evTypes : evFields.toList.map (·.type) = [3, 3, 3, 3, 3, 3, 3, 35, 3] := by kernel_rfl
theorem zip_all {α β : Type} {f : α → TypeId} {Q : TypeId → β → Prop} : ∀ (l : List α) (R : List β), (∀ x ∈ (l.map f).zip R, Q x.1 x.2) → ∀ x ∈ l.zip R, Q (f x.1) x.2
  | [], _, _, x, h => by simp at h
  | _ :: _, [], _, x, h => by simp at h
  | a :: l, b :: R, hq, x, h => by
    rcases List.mem_cons.1 h with rfl | h
    · exact hq (f a, b) (by simp)
    · exact zip_all l R (fun y hy => hq y (by simp [hy])) x h
theorem flatEv : FlatP Tryd.prog 37 (isParts evR) := by
  refine flat_struct u37 (by kernel_rfl) (zip_all (f := Field.type) (Q := FlatP Tryd.prog) _ _ ?_) (by kernel_rfl) (by kernel_rfl)
  rw [evTypes]
  intro x hx
  simp only [evR, List.zip_cons_cons, List.zip_nil_right, List.mem_cons, List.mem_nil_iff, or_false] at hx
  rcases hx with rfl | rfl | rfl | rfl | rfl | rfl | rfl | rfl | rfl <;> first | exact flat_int u3 | exact flat_int u35
theorem ev_of {l : List AV} (h : isParts evR l) : ∃ x : Evt, l = x.enc ∧ Tr.EvR x := by
  obtain ⟨_, _, rfl, ⟨a1, rfl, w1⟩, _, _, rfl, ⟨a2, rfl, w2⟩, _, _, rfl, ⟨a3, rfl, w3⟩, _, _, rfl, ⟨a4, rfl, w4⟩, _, _, rfl, ⟨a5, rfl, w5⟩, _, _, rfl, ⟨a6, rfl, w6⟩, _, _, rfl, ⟨a7, rfl, w7⟩, _, _, rfl, ⟨a8, rfl, w8⟩, _, _, rfl, ⟨a9, rfl, w9⟩, rfl⟩ := h
  exact ⟨⟨a1, a2, a3, a4, a5, a6, a7, a8, a9⟩, rfl, ⟨(wf_u64 w8).1, (wf_u64 w8).2, wf_i64 w3, wf_i64 w2, wf_i64 w1, wf_i64 w4, wf_i64 w5, wf_i64 w6, wf_i64 w7, wf_i64 w9⟩⟩
theorem tab0 : Tab (givenHeap gl0 n0) := ⟨by decide +kernel, by kernel_rfl, by kernel_rfl, by kernel_rfl⟩
theorem contract {H : Type} {enc : TypeId × Value → H} {W : World} {base : Nat} {args : Array Value} {ds gs : List (DataW H)} {before : List MemPlace} {apart : Bool}
    (hval : ∀ (j : Nat) t v, Tryd.f3.params[j]? = some t → args[j]? = some v → Value.okWide Tryd.prog W .any base t v) (hW : DataW.Whole enc Tryd.prog Tryd.f3.params.toList Rows.traceWritesSpec.vars apart W args.toList ds gs before)
    (hm : laidMet Tryd.prog Rows.traceWritesRow.laid W) : Calls Tryd.prog 3 args W fun e w' => e = .returned (.bool true) ∧ Below W.heap.size W w' := by
  obtain ⟨p, q, hA, _, _, _, _⟩ := hW
  rw [Tryd.params3] at hA hval
  obtain ⟨v, vs1, d, ds1, p1, q1, fuel, hl, rfl, ht, hA⟩ := trod_cons hA
  obtain ⟨rfl, rfl⟩ := trod_nil hA
  have hv : Value.okWide Tryd.prog W .any base 22 v := hval 0 22 v rfl (by rw [← Array.getElem?_toList, hl]; rfl)
  rw [arg_slice_cells u22 hv] at ht
  have hrd := rd_slice u22 (rd_flat flatEv) (by rw [c37]; decide)
  obtain ⟨θL, hg, hgood⟩ := laidN (tp := 0) noErr hm
  obtain ⟨θ, n, gl, l, hst, hvl, u, rfl, hsl⟩ := hrd.2 enc W true fuel _ d p1 ht θL n0 gl0 hgood
  rw [c37] at hsl
  obtain ⟨xs, hus, hEx⟩ := slt_of (fun l h => ev_of h) hsl
  refine law_plain good (hr_of_laid (Nat.le_add_right ..) hg hst) ?_ (TraceWrites_law (M := mac) (tab0.em hst.fr) hus hEx)
  rw [hl]
  exact hvl

/-- a world for the witness -/
noncomputable def laidW (os : Os) : World := pinW Tryd.prog (World.doorLaid Tryd.prog 82 os) Rows.traceWritesRow.laid
theorem laid_met (os : Os) : laidMetH Tryd.prog Rows.traceWritesRow.laid ((laidW os).forCall (fun _ _ => 0) ⟨#[], #[.slice none 0 0], []⟩).memory :=
  laidMet_of_run' 8 (by kernel_rfl) (by kernel_rfl)
theorem reads (os : Os) {H : Type} (enc : TypeId × Value → H) : ∃ places, DataW.whole enc Tryd.prog ((laidW os).forCall (fun _ _ => 0) ⟨#[], #[.slice none 0 0], []⟩).memory Tryd.f3.params.toList Rows.traceWritesSpec.vars false (#[.slice none 0 0] : Array Value).toList 8 = some ([.nil], [], places) :=
  ⟨[], by kernel_rfl⟩

theorem lifted (os : Os) (started : os.Started) (H : Type) (enc : TypeId × Value → H) (F : Stop.Interp) :
    ReturnsInHanded {} Tryd.checked os 3 .any ((OpenSpec.ofChange Rows.traceWritesSpec).preRow enc Tryd.prog Tryd.f3 Rows.traceWritesRow.domain false Rows.traceWritesRow.laid) (((OpenSpec.ofChange Rows.traceWritesSpec).at F).post enc Tryd.prog Tryd.f3 false true false false) := by
  obtain ⟨places, hx⟩ := reads os enc
  refine returnsInHanded_of_row (C := Tryd.checked) (s := OpenSpec.ofChange Rows.traceWritesSpec) own started (by kernel_rfl) Tryd.func3
    (witness_row_atRef (enc := enc) (C := Tryd.checked) false (laidW os) #[.slice none 0 0] rfl (by kernel_rfl) (by kernel_rfl) (by kernel_rfl)
      (OpenSpec.preRow_of_cond 8 hx (by kernel_rfl) (fun k hk => by cases hk) (by kernel_rfl) (laid_met os))) ?_
  intro W base args ds gs before hval hW _ _ _ hL _ _
  have hm : laidMet Tryd.prog Rows.traceWritesRow.laid W := by
    unfold laidMetH at hL
    rw [show ((Rows.traceWritesRow.laid.filter fun x => x.2.handleName?.isSome) = []) from by kernel_rfl] at hL
    exact hL
  refine open_contract (s := Rows.traceWritesSpec) laidOut read rfl (fun ds h => ?_) rfl Tryd.underlying4 hW (contract hval hW hm)
  rw [Tryd.params3] at h
  match ds, h with
  | [d0], _ => rfl

theorem said : Rows.TraceWritesSaid :=
  OpenClaim.holds_of_cond 3 Tryd.f3 rfl rfl rfl rfl rfl rfl rfl ⟨rfl, rfl, rfl, rfl, rfl⟩ rfl rfl rfl rfl rfl (by kernel_rfl) Tryd.func3 (by kernel_rfl)
    (of_decide_eq_true (by kernel_rfl)) (by unfold Func.isWrapper; first | (rw [if_pos (by decide +kernel)]; kernel_rfl) | (rw [if_neg (by decide +kernel)]; exact ⟨rfl, rfl⟩))
    (fun os started H enc _ F => by rw [OpenClaim.pre_eq_preRow]; exact lifted os started H enc F)

theorem plain (f : FuncId) (fn : Func) (hf : Tryd.pinned.checked.prog.funcNamed Rows.traceWritesRow.func = some f) (hfn : Tryd.pinned.checked.prog.funcs[f]? = some fn) :
    true = Tryd.pinned.checked.prog.looks [] ∧ ∀ (j : Nat) t, fn.params[j]? = some t → Tryd.pinned.checked.prog.wantsStandIn t = false := by
  obtain rfl : f = 3 := Option.some.inj ((show Tryd.prog.funcNamed Rows.traceWritesRow.func = some 3 by kernel_rfl).symm.trans hf) |>.symm
  obtain rfl : fn = Tryd.f3 := (Option.some.inj (Tryd.func3.symm.trans hfn)).symm
  refine ⟨by kernel_rfl, fun j t ht => ?_⟩
  have hm : t ∈ Tryd.f3.params.toList := by rw [← Array.getElem?_toList] at ht; exact List.mem_of_getElem? ht
  rw [Tryd.params3] at hm
  simp only [List.mem_cons, List.mem_nil_iff, or_false] at hm
  rcases hm with rfl <;> (show Tryd.pinned.checked.prog.wantsStandIn _ = false; kernel_rfl)

/-- THE CARD -/
theorem card : Rows.TraceWritesCardSaid :=
  Claim7.holds_tied_plain_at .later [] _ _ _ _ said (fun _ h => by cases h) (by kernel_rfl) (fun _ h => by cases h) traceWrites_row_tie rfl ⟨rfl, rfl⟩ (by kernel_rfl) rfl plain (by kernel_rfl)
end Go.Proofs.YtkfheegmlgfdoaaDoor.traceWrites
