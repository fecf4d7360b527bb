/- LangPrints: for every world that holds the listed variables as listed, and whatever the arguments read as, the law returns true and changes nothing that was there. No condition beyond the row's own. -/
import Derived.Test.YtbimikjajohflaaDoorCards
import Derived.Test.YtbimikjajohflaaDoorTie
import Derived.Test.YtbimikjajohflaaDoorAmPB4
import Derived.Test.YtbimikjajohflaaDoorAmPB5
import Derived.Test.YtbimikjajohflaaDoorAmPLpP4
import Derived.LaidMore
import Derived.Deep.DeepHandedRow
import Derived.Deep.DeepWitnessRowRef
namespace Go.Proofs.YtbimikjajohflaaDoor.langPrints
open Go.ChangeShapes Go.WideShapes Go.ChangeAt Go.RowKit Go.Am

set_option maxRecDepth 100000
theorem good : PGood Tryd.prog := pgood (by kernel_rfl) (by kernel_rfl)
theorem own : ownKnob Tryd.prog.godebug = none := by kernel_rfl
theorem laidOut : laidOutB Tryd.prog = true := by kernel_rfl
theorem read : ∀ t ∈ Tryd.f3.params.toList, Tryd.prog.readableRec t = true ∧ t < Tryd.prog.types.size := by
  rw [Tryd.params3]
  intro t ht
  simp only [List.mem_cons, List.mem_nil_iff, or_false] at ht
  rcases ht with rfl <;> exact ⟨by kernel_rfl, by decide +kernel⟩
noncomputable abbrev gl0 := rowsOf Tryd.prog 0 Tryd.prog.globals.size Rows.langPrintsRow.laid
noncomputable abbrev n0 := Tryd.prog.globals.size + Rows.langPrintsRow.laid.length
theorem noErr : noSent Rows.langPrintsRow.laid = true := by kernel_rfl
noncomputable abbrev mac : Mac := Mac.plain Tryd.prog
instance : MK mac := ⟨fun _ _ => rfl⟩
theorem uS : Tryd.prog.underlying 22 = some (.slice 58) := by kernel_rfl
noncomputable def qs2 : Array Field := match Tryd.prog.underlying 58 with | some (.struct fs) => fs | _ => #[]
theorem uN : Tryd.prog.underlying 58 = some (.struct qs2) := by kernel_rfl
theorem ndTypes : qs2.toList.map (·.type) = [3, 38, 56] := by kernel_rfl
theorem uI : Tryd.prog.underlying 3 = some (.int .i64) := by kernel_rfl
theorem uU : Tryd.prog.underlying 38 = some (.int .u64) := by kernel_rfl
theorem uK : Tryd.prog.underlying 56 = some (.slice 3) := by kernel_rfl
theorem nodesW : RdW Tryd.prog 22 fun H l => ∃ u ts, l = [u] ∧ NdsArg H u ts :=
  qxc uS uN ndTypes uI uU uK (by kernel_rfl) (by kernel_rfl) (by kernel_rfl) (by kernel_rfl) (by kernel_rfl) (by kernel_rfl)
theorem reach_le : reachBytes ≤ 140737488355328 := by decide
theorem pow0 : PowT (jc gl0 n0) := by unfold PowT; kernel_rfl
theorem pl0 : xe < (jc gl0 n0).next := by decide +kernel
theorem contract {H : Type} {enc : TypeId × Value → H} {W : World} {base : Nat} {args : Array Value} {ds gs : List (DataW H)} {before : List MemPlace} {apart : Bool}
    (hval : ∀ (j : Nat) t v, Tryd.f3.params[j]? = some t → args[j]? = some v → Value.okWide Tryd.prog W .any base t v) (hW : DataW.Whole enc Tryd.prog Tryd.f3.params.toList Rows.langPrintsSpec.vars apart W args.toList ds gs before)
    (hm : laidMet Tryd.prog Rows.langPrintsRow.laid W) {ts : List TypeId} (hZ : (DataW.weightsEach Tryd.prog (Tryd.f3.params.toList ++ ts) (ds ++ gs)).all (· ≤ reachBytes) = true) : Calls Tryd.prog 3 args W fun e w' => e = .returned (.bool true) ∧ Below W.heap.size W w' := by
  obtain ⟨p, q, hA, _, _, _, _⟩ := hW
  rw [Tryd.params3] at hA hval hZ
  obtain ⟨v, vs1, d, ds1, p1, q1, fuel, hl, rfl, ht, hA⟩ := qwy hA
  obtain ⟨rfl, rfl⟩ := trod_nil hA
  have hv : Value.okWide Tryd.prog W .any base 22 v := hval 0 22 v rfl (by rw [← Array.getElem?_toList, hl]; rfl)
  rw [qk4 uS hv] at ht
  have hwt : Wt Tryd.prog 22 d := fun x hx => by
    have h1 := List.all_eq_true.1 hZ x (by simp only [List.cons_append, DataW.weightsEach, List.mem_append]; exact .inl hx)
    simpa using h1
  obtain ⟨θL, hg, hgood⟩ := laidN (tp := 0) noErr hm
  obtain ⟨θ, n, gl, l, hst, hvl, u, tl, rfl, hu⟩ := nodesW.2 enc W true fuel _ d p1 ht hwt θL n0 gl0 hgood
  have hre := reach_le
  refine qwr good (qt1 (Nat.le_add_right ..) hg hst) ?_ (qmg (M := mac) hu.nds (Nat.le_trans hu.len hre) (fun x hx => Nat.le_trans (hu.kids x hx) hre) hu.lo hu.hi ((hst.fr.cells pl0 id).trans pow0) (Nat.lt_of_lt_of_le pl0 hst.fr.next))
  rw [hl]
  exact hvl

/-- a world for the witness -/
noncomputable def laidW (os : Os) : World := pinW Tryd.prog (World.doorLaid Tryd.prog 62 os) Rows.langPrintsRow.laid
theorem laid_met (os : Os) : laidMetH Tryd.prog Rows.langPrintsRow.laid ((laidW os).forCall (fun _ _ => 0) ⟨#[], #[.slice none 0 0], []⟩).memory :=
  laidMet_of_run' 8 (by kernel_rfl) (by kernel_rfl)
theorem reads (os : Os) {H : Type} (enc : TypeId × Value → H) : ∃ places, DataW.whole enc Tryd.prog ((laidW os).forCall (fun _ _ => 0) ⟨#[], #[.slice none 0 0], []⟩).memory Tryd.f3.params.toList Rows.langPrintsSpec.vars false (#[.slice none 0 0] : Array Value).toList 8 = some ([.nil], [], places) :=
  ⟨[], by kernel_rfl⟩

theorem lifted (os : Os) (started : os.Started) (H : Type) (enc : TypeId × Value → H) (F : Stop.Interp) :
    ReturnsInHanded {} Tryd.checked os 3 .any ((OpenSpec.ofChange Rows.langPrintsSpec).preRow enc Tryd.prog Tryd.f3 Rows.langPrintsRow.domain false Rows.langPrintsRow.laid) (((OpenSpec.ofChange Rows.langPrintsSpec).at F).post enc Tryd.prog Tryd.f3 false true false false) := by
  obtain ⟨places, hx⟩ := reads os enc
  refine returnsInHanded_of_row (C := Tryd.checked) (s := OpenSpec.ofChange Rows.langPrintsSpec) own started (by kernel_rfl) Tryd.func3
    (witness_row_atRef (enc := enc) (C := Tryd.checked) false (laidW os) #[.slice none 0 0] rfl (by kernel_rfl) (by kernel_rfl) (by kernel_rfl)
      (OpenSpec.preRow_of_cond 8 hx (by kernel_rfl) (fun k hk => by cases hk) (by kernel_rfl) (laid_met os))) ?_
  intro W base args ds gs before hval hW _ _ hZ hL _ _
  have hm : laidMet Tryd.prog Rows.langPrintsRow.laid W := by
    unfold laidMetH at hL
    rw [show ((Rows.langPrintsRow.laid.filter fun x => x.2.handleName?.isSome) = []) from by kernel_rfl] at hL
    exact hL
  refine qos (s := Rows.langPrintsSpec) laidOut read rfl (fun ds h => ?_) rfl Tryd.underlying4 hW (contract hval hW hm hZ)
  rw [Tryd.params3] at h
  match ds, h with
  | [d0], _ => rfl

theorem said : Rows.LangPrintsSaid :=
  OpenClaim.holds_of_cond 3 Tryd.f3 rfl rfl rfl rfl rfl rfl rfl ⟨rfl, rfl, rfl, rfl, rfl⟩ rfl rfl rfl rfl rfl (by kernel_rfl) Tryd.func3 (by kernel_rfl)
    (of_decide_eq_true (by kernel_rfl)) (by unfold Func.isWrapper; first | (rw [if_pos (by decide +kernel)]; kernel_rfl) | (rw [if_neg (by decide +kernel)]; exact ⟨rfl, rfl⟩))
    (fun os started H enc _ F => by rw [OpenClaim.pre_eq_preRow]; exact lifted os started H enc F)

theorem plain (f : FuncId) (fn : Func) (hf : Tryd.pinned.checked.prog.funcNamed Rows.langPrintsRow.func = some f) (hfn : Tryd.pinned.checked.prog.funcs[f]? = some fn) :
    true = Tryd.pinned.checked.prog.looks [] ∧ ∀ (j : Nat) t, fn.params[j]? = some t → Tryd.pinned.checked.prog.wantsStandIn t = false := by
  obtain rfl : f = 3 := Option.some.inj ((show Tryd.prog.funcNamed Rows.langPrintsRow.func = some 3 by kernel_rfl).symm.trans hf) |>.symm
  obtain rfl : fn = Tryd.f3 := (Option.some.inj (Tryd.func3.symm.trans hfn)).symm
  refine ⟨by kernel_rfl, fun j t ht => ?_⟩
  have hm : t ∈ Tryd.f3.params.toList := by rw [← Array.getElem?_toList] at ht; exact List.mem_of_getElem? ht
  rw [Tryd.params3] at hm
  simp only [List.mem_cons, List.mem_nil_iff, or_false] at hm
  rcases hm with rfl <;> (show Tryd.pinned.checked.prog.wantsStandIn _ = false; kernel_rfl)

/-- THE CARD -/
theorem card : Rows.LangPrintsCardSaid :=
  Claim7.holds_tied_plain_at .later [] _ _ _ _ said (fun _ h => by cases h) (by kernel_rfl) (fun _ h => by cases h) langPrints_row_tie rfl ⟨rfl, rfl⟩ (by kernel_rfl) rfl plain (by kernel_rfl)
end Go.Proofs.YtbimikjajohflaaDoor.langPrints
