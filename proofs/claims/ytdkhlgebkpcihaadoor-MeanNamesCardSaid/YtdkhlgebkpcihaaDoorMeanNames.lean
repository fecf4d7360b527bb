/- MeanNames: for every world that holds the listed variables as listed, the law returns true and changes nothing that was there. No condition beyond the row's own. -/
import Derived.Test.YtdkhlgebkpcihaaDoorCards
import Derived.Test.YtdkhlgebkpcihaaDoorTie
import Derived.Test.YtdkhlgebkpcihaaDoorAmPost
import Derived.Test.YtdkhlgebkpcihaaDoorMeanNamesT0
import Derived.Test.YtdkhlgebkpcihaaDoorMeanNamesT1
import Derived.Test.YtdkhlgebkpcihaaDoorMeanNamesT2
import Derived.Test.YtdkhlgebkpcihaaDoorMeanNamesRun
import Derived.LaidMore
import Derived.Deep.DeepHandedRow
import Derived.Deep.DeepWitnessRowRef
namespace Go.Proofs.YtdkhlgebkpcihaaDoor.meanNames
open Go.ChangeShapes Go.WideShapes Go.ChangeAt Go.RowKit Go.Am

set_option maxRecDepth 100000
theorem good : PGood Tryd.prog := pgood (by kernel_rfl) (by kernel_rfl)
theorem ok0 : LOk Tryd.prog 0 e0 := LOk.run good all_nil 100000 ran0
theorem ok1 : LOk Tryd.prog 0 e1 := LOk.run good all_nil 100000 ran1
theorem ok2 : LOk Tryd.prog 0 e2 := LOk.run good all_nil 100000 ran2
theorem ok3 : LOk Tryd.prog 0 e3 := LOk.run good all_nil 100000 ran3
theorem ok4 : LOk Tryd.prog 0 e4 := LOk.run good all_nil 100000 ran4
theorem ok5 : LOk Tryd.prog 0 e5 := LOk.run good all_nil 100000 ran5
theorem allOk : ∀ e ∈ ([e0, e1, e2, e3, e4, e5] : List LEntry), LOk Tryd.prog 0 e := all_cons ok0 <| all_cons ok1 <| all_cons ok2 <| all_cons ok3 <| all_cons ok4 <| all_cons ok5 <| all_nil
theorem own : ownKnob Tryd.prog.godebug = none := by kernel_rfl
theorem star : "*" ++ "errors.errorString" = "*errors.errorString" := by decide
theorem errT : ErrT Tryd.prog 136 :=
  ⟨fun u h => typeName_ptr_named (nm := "errors.errorString") (by rw [star]; kernel_rfl) (by kernel_rfl) (by decide) u (by rw [star]; exact h), by kernel_rfl⟩

/-- a world for the witness -/
noncomputable def laidW (os : Os) : World := pinW Tryd.prog (World.doorLaid Tryd.prog 62 os) Rows.meanNamesRow.laid
theorem laid_met (os : Os) : laidMetH Tryd.prog Rows.meanNamesRow.laid ((laidW os).forCall (fun _ _ => 0) ⟨#[], #[], []⟩).memory :=
  laidMet_of_run' 8 (by kernel_rfl) (by kernel_rfl)
theorem reads (os : Os) {H : Type} (enc : TypeId × Value → H) : ∃ places, DataW.whole enc Tryd.prog ((laidW os).forCall (fun _ _ => 0) ⟨#[], #[], []⟩).memory Tryd.f3.params.toList Rows.meanNamesSpec.vars false (#[] : Array Value).toList 8 = some ([], [], places) :=
  ⟨[], by kernel_rfl⟩

theorem lifted (os : Os) (started : os.Started) (H : Type) (enc : TypeId × Value → H) (F : Stop.Interp) :
    ReturnsInHanded {} Tryd.checked os 3 .any ((OpenSpec.ofChange Rows.meanNamesSpec).preRow enc Tryd.prog Tryd.f3 Rows.meanNamesRow.domain false Rows.meanNamesRow.laid) (((OpenSpec.ofChange Rows.meanNamesSpec).at F).post enc Tryd.prog Tryd.f3 false true false false) := by
  obtain ⟨places, hx⟩ := reads os enc
  refine returnsInHanded_of_row (C := Tryd.checked) (s := OpenSpec.ofChange Rows.meanNamesSpec) own started (by kernel_rfl) Tryd.func3
    (witness_row_atRef (enc := enc) (C := Tryd.checked) false (laidW os) #[] rfl (by kernel_rfl) (by kernel_rfl) (by kernel_rfl)
      (OpenSpec.preRow_of_cond 8 hx (by kernel_rfl) (fun k hk => by cases hk) (by kernel_rfl) (laid_met os))) ?_
  intro W base args ds gs before hval hW _ _ _ hL _ _
  exact closed_contract (s := Rows.meanNamesSpec) Tryd.params3 rfl rfl (by kernel_rfl) Tryd.underlying4 rfl (fun hm => closed_L good allOk errT hm run) hW hL

theorem said : Rows.MeanNamesSaid :=
  OpenClaim.holds_of_cond 3 Tryd.f3 rfl rfl rfl rfl rfl rfl rfl ⟨rfl, rfl, rfl, rfl, rfl⟩ rfl rfl rfl rfl rfl (by kernel_rfl) Tryd.func3 (by kernel_rfl)
    (of_decide_eq_true (by kernel_rfl)) (by unfold Func.isWrapper; first | (rw [if_pos (by decide +kernel)]; kernel_rfl) | (rw [if_neg (by decide +kernel)]; exact ⟨rfl, rfl⟩))
    (fun os started H enc _ F => by rw [OpenClaim.pre_eq_preRow]; exact lifted os started H enc F)

theorem plain (f : FuncId) (fn : Func) (hf : Tryd.pinned.checked.prog.funcNamed Rows.meanNamesRow.func = some f) (hfn : Tryd.pinned.checked.prog.funcs[f]? = some fn) :
    true = Tryd.pinned.checked.prog.looks [] ∧ ∀ (j : Nat) t, fn.params[j]? = some t → Tryd.pinned.checked.prog.wantsStandIn t = false := by
  obtain rfl : f = 3 := Option.some.inj ((show Tryd.prog.funcNamed Rows.meanNamesRow.func = some 3 by kernel_rfl).symm.trans hf) |>.symm
  obtain rfl : fn = Tryd.f3 := (Option.some.inj (Tryd.func3.symm.trans hfn)).symm
  refine ⟨by kernel_rfl, fun j t ht => ?_⟩
  rw [Tryd.params3] at ht
  simp at ht

/-- THE CARD -/
theorem card : Rows.MeanNamesCardSaid :=
  Claim7.holds_tied_plain_at .later [] _ _ _ _ said (fun _ h => by cases h) (by kernel_rfl) (fun _ h => by cases h) meanNames_row_tie rfl ⟨rfl, rfl⟩ (by kernel_rfl) rfl plain (by kernel_rfl)
end Go.Proofs.YtdkhlgebkpcihaaDoor.meanNames
