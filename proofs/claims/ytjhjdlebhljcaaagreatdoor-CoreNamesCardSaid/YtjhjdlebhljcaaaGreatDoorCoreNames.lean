/- CoreNames: for every world that holds the listed variables as listed, the law returns true and changes nothing that was there. No condition beyond the row's own. -/
import Derived.Test.YtjhjdlebhljcaaaGreatDoorCards
import Derived.Test.YtjhjdlebhljcaaaGreatDoorTie
import Derived.Test.YtjhjdlebhljcaaaGreatDoorAmPost
import Derived.Test.YtjhjdlebhljcaaaGreatDoorCoreNamesT0
import Derived.Test.YtjhjdlebhljcaaaGreatDoorCoreNamesT1
import Derived.Test.YtjhjdlebhljcaaaGreatDoorCoreNamesRun
import Derived.LaidMore
import Derived.Deep.DeepHandedRow
import Derived.Deep.DeepWitnessRowRef
namespace Go.Proofs.YtjhjdlebhljcaaaGreatDoor.coreNames
open Go.ChangeShapes Go.WideShapes Go.ChangeAt Go.RowKit Go.Am

set_option maxRecDepth 100000
theorem good : PGood Tryz.prog := pgood (by kernel_rfl) (by kernel_rfl)
theorem ok0 : LOk Tryz.prog 0 e0 := LOk.run good all_nil 100000 ran0
theorem ok1 : LOk Tryz.prog 0 e1 := LOk.run good all_nil 100000 ran1
theorem ok2 : LOk Tryz.prog 0 e2 := LOk.run good all_nil 100000 ran2
theorem ok3 : LOk Tryz.prog 0 e3 := LOk.run good all_nil 100000 ran3
theorem allOk : ∀ e ∈ ([e0, e1, e2, e3] : List LEntry), LOk Tryz.prog 0 e := all_cons ok0 <| all_cons ok1 <| all_cons ok2 <| all_cons ok3 <| all_nil
theorem own : ownKnob Tryz.prog.godebug = none := by kernel_rfl
theorem noErr : noSent Rows.coreNamesRow.laid = true := by kernel_rfl

/-- a world for the witness -/
noncomputable def laidW (os : Os) : World := pinW Tryz.prog (World.doorLaid Tryz.prog 32 os) Rows.coreNamesRow.laid
theorem laid_met (os : Os) : laidMetH Tryz.prog Rows.coreNamesRow.laid ((laidW os).forCall (fun _ _ => 0) ⟨#[], #[], []⟩).memory :=
  laidMet_of_run' 8 (by kernel_rfl) (by kernel_rfl)
theorem reads (os : Os) {H : Type} (enc : TypeId × Value → H) : ∃ places, DataW.whole enc Tryz.prog ((laidW os).forCall (fun _ _ => 0) ⟨#[], #[], []⟩).memory Tryz.f3.params.toList Rows.coreNamesSpec.vars false (#[] : Array Value).toList 8 = some ([], [], places) :=
  ⟨[], by kernel_rfl⟩

theorem lifted (os : Os) (started : os.Started) (H : Type) (enc : TypeId × Value → H) (F : Stop.Interp) :
    ReturnsInHanded {} Tryz.checked os 3 .any ((OpenSpec.ofChange Rows.coreNamesSpec).preRow enc Tryz.prog Tryz.f3 Rows.coreNamesRow.domain false Rows.coreNamesRow.laid) (((OpenSpec.ofChange Rows.coreNamesSpec).at F).post enc Tryz.prog Tryz.f3 false true false false) := by
  obtain ⟨places, hx⟩ := reads os enc
  refine returnsInHanded_of_row (C := Tryz.checked) (s := OpenSpec.ofChange Rows.coreNamesSpec) own started (by kernel_rfl) Tryz.func3
    (witness_row_atRef (enc := enc) (C := Tryz.checked) false (laidW os) #[] rfl (by kernel_rfl) (by kernel_rfl) (by kernel_rfl)
      (OpenSpec.preRow_of_cond 8 hx (by kernel_rfl) (fun k hk => by cases hk) (by kernel_rfl) (laid_met os))) ?_
  intro W base args ds gs before hval hW _ _ _ hL _ _
  exact closed_contract (s := Rows.coreNamesSpec) Tryz.params3 rfl rfl (by kernel_rfl) Tryz.underlying4 rfl (fun hm => closed_LN good allOk noErr hm run) hW hL

theorem said : Rows.CoreNamesSaid :=
  OpenClaim.holds_of_cond 3 Tryz.f3 rfl rfl rfl rfl rfl rfl rfl ⟨rfl, rfl, rfl, rfl, rfl⟩ rfl rfl rfl rfl rfl (by kernel_rfl) Tryz.func3 (by kernel_rfl)
    (of_decide_eq_true (by kernel_rfl)) (by unfold Func.isWrapper; first | (rw [if_pos (by decide +kernel)]; kernel_rfl) | (rw [if_neg (by decide +kernel)]; exact ⟨rfl, rfl⟩))
    (fun os started H enc _ F => by rw [OpenClaim.pre_eq_preRow]; exact lifted os started H enc F)

theorem plain (f : FuncId) (fn : Func) (hf : Tryz.pinned.checked.prog.funcNamed Rows.coreNamesRow.func = some f) (hfn : Tryz.pinned.checked.prog.funcs[f]? = some fn) :
    false = Tryz.pinned.checked.prog.looks [] ∧ ∀ (j : Nat) t, fn.params[j]? = some t → Tryz.pinned.checked.prog.wantsStandIn t = false := by
  obtain rfl : f = 3 := Option.some.inj ((show Tryz.prog.funcNamed Rows.coreNamesRow.func = some 3 by kernel_rfl).symm.trans hf) |>.symm
  obtain rfl : fn = Tryz.f3 := (Option.some.inj (Tryz.func3.symm.trans hfn)).symm
  refine ⟨by kernel_rfl, fun j t ht => ?_⟩
  rw [Tryz.params3] at ht
  simp at ht

/-- THE CARD -/
theorem card : Rows.CoreNamesCardSaid :=
  Claim7.holds_tied_plain_at .later [] _ _ _ _ said (fun _ h => by cases h) (by kernel_rfl) (fun _ h => by cases h) coreNames_row_tie rfl ⟨rfl, rfl⟩ (by kernel_rfl) rfl plain (by kernel_rfl)
end Go.Proofs.YtjhjdlebhljcaaaGreatDoor.coreNames
