/- TraceReads: for every world that holds the listed variables as listed, and whatever the arguments read as, the law returns true and changes nothing that was there. No condition beyond the row's own. -/
import Derived.Test.YtkfheegmlgfdoaaDoorCards
import Derived.Test.YtkfheegmlgfdoaaDoorTie
import Derived.Test.YtkfheegmlgfdoaaDoorAmRB4
import Derived.Test.YtkfheegmlgfdoaaDoorAmRB5
import Derived.Test.YtkfheegmlgfdoaaDoorAmRTrR6
import Derived.LaidMore
import Derived.Deep.DeepHandedRow
import Derived.Deep.DeepWitnessRowRef
namespace Go.Proofs.YtkfheegmlgfdoaaDoor.traceReads
open Go.ChangeShapes Go.WideShapes Go.ChangeAt Go.RowKit Go.Am

set_option maxRecDepth 100000
theorem good : PGood Tryd.prog := pgood (by kernel_rfl) (by kernel_rfl)
theorem own : ownKnob Tryd.prog.godebug = none := by kernel_rfl
theorem laidOut : laidOutB Tryd.prog = true := by kernel_rfl
theorem read : ∀ t ∈ Tryd.f7.params.toList, Tryd.prog.readableRec t = true ∧ t < Tryd.prog.types.size := by
  rw [Tryd.params7]
  intro t ht
  simp only [List.mem_cons, List.mem_nil_iff, or_false] at ht
  rcases ht with rfl | rfl <;> exact ⟨by kernel_rfl, by decide +kernel⟩
noncomputable abbrev gl0 := rowsOf Tryd.prog 164 Tryd.prog.globals.size Rows.traceReadsRow.laid
noncomputable abbrev n0 := Tryd.prog.globals.size + Rows.traceReadsRow.laid.length
theorem star : "*" ++ "errors.errorString" = "*errors.errorString" := by decide
theorem errT : ErrT Tryd.prog 164 :=
  ⟨fun u h => typeName_ptr_named (nm := "errors.errorString") (by rw [star]; kernel_rfl) (by kernel_rfl) (by decide) u (by rw [star]; exact h), by kernel_rfl⟩
noncomputable abbrev mac : Mac := Mac.plain Tryd.prog
instance : MK mac := ⟨fun _ _ => rfl⟩
theorem u24 : Tryd.prog.underlying 24 = some (.slice 5) := by kernel_rfl
theorem u5 : Tryd.prog.underlying 5 = some (.int .u8) := by kernel_rfl
theorem c5 : Tryd.prog.cellsOf 5 = 1 := by kernel_rfl
theorem u9 : Tryd.prog.underlying 9 = some .string := by kernel_rfl
theorem byte_of {l : List AV} (h : isIntL .u8 l) : ∃ x : UInt8, l = encB x ∧ True := by
  obtain ⟨n, rfl, hw⟩ := h
  simp only [Lit.wf, Bool.and_eq_true, decide_eq_true_eq] at hw
  have h1 : IntKind.max .u8 = 255 := by decide
  have h2 : IntKind.min .u8 = 0 := by decide
  have hb : 0 ≤ n ∧ n < 256 := by omega
  refine ⟨UInt8.ofNat n.toNat, ?_, trivial⟩
  have : (UInt8.ofNat n.toNat).toNat = n.toNat := Tr.ofNat_lt (by omega)
  rw [encB, this, show ((n.toNat : Nat) : Int) = n by omega]
theorem tab0 : Tab (jj gl0 n0) := ⟨by decide +kernel, by kernel_rfl, by kernel_rfl, by kernel_rfl⟩
theorem err4 : (jj gl0 n0).cellsAt zm = some [.iface 164 (.ptr (Tryd.prog.globals.size + 5) 0)] := by kernel_rfl
theorem err5 : (jj gl0 n0).cellsAt z4 = some [.iface 164 (.ptr (Tryd.prog.globals.size + 4) 0)] := by kernel_rfl
theorem tbs0 : Tbs (jj gl0 n0) := ⟨tab0, ⟨by decide +kernel, _, err4, rfl, rfl⟩, ⟨by decide +kernel, _, err5, rfl, rfl⟩⟩
theorem contract {H : Type} {enc : TypeId × Value → H} {W : World} {base : Nat} {args : Array Value} {ds gs : List (DataW H)} {before : List MemPlace} {apart : Bool}
    (hval : ∀ (j : Nat) t v, Tryd.f7.params[j]? = some t → args[j]? = some v → Value.okWide Tryd.prog W .any base t v) (hW : DataW.Whole enc Tryd.prog Tryd.f7.params.toList Rows.traceReadsSpec.vars apart W args.toList ds gs before)
    (hm : laidMet Tryd.prog Rows.traceReadsRow.laid W) : Calls Tryd.prog 7 args W fun e w' => e = .returned (.bool true) ∧ Below W.heap.size W w' := by
  obtain ⟨p, q, hA, _, _, _, _⟩ := hW
  rw [Tryd.params7] at hA hval
  obtain ⟨v, vs1, d, ds1, p1, q1, fuel, hl, rfl, ht, hA⟩ := qut hA
  obtain ⟨v3, vs3, d3, ds3, p3, q3, fuel3, rfl, rfl, ht3, hA⟩ := qut hA
  obtain ⟨rfl, rfl⟩ := trod_nil hA
  have hv : Value.okWide Tryd.prog W .any base 24 v := hval 0 24 v rfl (by rw [← Array.getElem?_toList, hl]; rfl)
  have hv3 : Value.okWide Tryd.prog W .any base 9 v3 := hval 1 9 v3 rfl (by rw [← Array.getElem?_toList, hl]; rfl)
  obtain ⟨s3, rfl⟩ := arg_str u9 hv3
  rw [qnz u24 hv] at ht
  have hrd := rd_slice u24 (rd_flat (flat_int u5)) (by rw [c5]; decide)
  obtain ⟨θL, hg, hgood⟩ := laidE errT hm
  obtain ⟨θ, n, gl, l, hst, hvl, u, rfl, hsl⟩ := hrd.2 enc W true fuel _ d p1 ht θL n0 gl0 hgood
  rw [c5] at hsl
  obtain ⟨bs, hus, _⟩ := slt_of (fun l h => byte_of h) hsl
  refine q18 good (qz8 (Nat.le_add_right ..) hg hst) ?_ (qqi (M := mac) (tbs0.em hst.fr) (t2 := s3.data.toList) hus)
  rw [hl]
  obtain ⟨c, cs', hcc, hcv, _⟩ := hvl.uncons
  injection hcc with hcc _
  subst hcc
  exact .cons hcv (.one (by simpa using VR.str s3.data.toList))

/-- a world for the witness -/
noncomputable def laidW (os : Os) : World := pinW Tryd.prog (World.doorLaid Tryd.prog 82 os) Rows.traceReadsRow.laid
theorem laid_met (os : Os) : laidMetH Tryd.prog Rows.traceReadsRow.laid ((laidW os).forCall (fun _ _ => 0) ⟨#[], #[.slice none 0 0, .string ⟨#[]⟩], []⟩).memory :=
  laidMet_of_run' 8 (by kernel_rfl) (by kernel_rfl)
theorem reads (os : Os) {H : Type} (enc : TypeId × Value → H) : ∃ places, DataW.whole enc Tryd.prog ((laidW os).forCall (fun _ _ => 0) ⟨#[], #[.slice none 0 0, .string ⟨#[]⟩], []⟩).memory Tryd.f7.params.toList Rows.traceReadsSpec.vars false (#[.slice none 0 0, .string ⟨#[]⟩] : Array Value).toList 8 = some ([.nil, .lit (.string [])], [], places) :=
  ⟨[], by kernel_rfl⟩

theorem lifted (os : Os) (started : os.Started) (H : Type) (enc : TypeId × Value → H) (F : Stop.Interp) :
    ReturnsInHanded {} Tryd.checked os 7 .any ((OpenSpec.ofChange Rows.traceReadsSpec).preRow enc Tryd.prog Tryd.f7 Rows.traceReadsRow.domain false Rows.traceReadsRow.laid) (((OpenSpec.ofChange Rows.traceReadsSpec).at F).post enc Tryd.prog Tryd.f7 false true false false) := by
  obtain ⟨places, hx⟩ := reads os enc
  refine returnsInHanded_of_row (C := Tryd.checked) (s := OpenSpec.ofChange Rows.traceReadsSpec) own started (by kernel_rfl) Tryd.func7
    (witness_row_atRef (enc := enc) (C := Tryd.checked) false (laidW os) #[.slice none 0 0, .string ⟨#[]⟩] rfl (by kernel_rfl) (by kernel_rfl) (by kernel_rfl)
      (OpenSpec.preRow_of_cond 8 hx (by kernel_rfl) (fun k hk => by cases hk) (by kernel_rfl) (laid_met os))) ?_
  intro W base args ds gs before hval hW _ _ _ hL _ _
  have hm : laidMet Tryd.prog Rows.traceReadsRow.laid W := by
    unfold laidMetH at hL
    rw [show ((Rows.traceReadsRow.laid.filter fun x => x.2.handleName?.isSome) = []) from by kernel_rfl] at hL
    exact hL
  refine qs5 (s := Rows.traceReadsSpec) laidOut read rfl (fun ds h => ?_) rfl Tryd.underlying4 hW (contract hval hW hm)
  rw [Tryd.params7] at h
  match ds, h with
  | [d0, d1], _ => rfl

theorem said : Rows.TraceReadsSaid :=
  OpenClaim.holds_of_cond 7 Tryd.f7 rfl rfl rfl rfl rfl rfl rfl ⟨rfl, rfl, rfl, rfl, rfl⟩ rfl rfl rfl rfl rfl (by kernel_rfl) Tryd.func7 (by kernel_rfl)
    (of_decide_eq_true (by kernel_rfl)) (by unfold Func.isWrapper; first | (rw [if_pos (by decide +kernel)]; kernel_rfl) | (rw [if_neg (by decide +kernel)]; exact ⟨rfl, rfl⟩))
    (fun os started H enc _ F => by rw [OpenClaim.pre_eq_preRow]; exact lifted os started H enc F)

theorem plain (f : FuncId) (fn : Func) (hf : Tryd.pinned.checked.prog.funcNamed Rows.traceReadsRow.func = some f) (hfn : Tryd.pinned.checked.prog.funcs[f]? = some fn) :
    true = Tryd.pinned.checked.prog.looks [] ∧ ∀ (j : Nat) t, fn.params[j]? = some t → Tryd.pinned.checked.prog.wantsStandIn t = false := by
  obtain rfl : f = 7 := Option.some.inj ((show Tryd.prog.funcNamed Rows.traceReadsRow.func = some 7 by kernel_rfl).symm.trans hf) |>.symm
  obtain rfl : fn = Tryd.f7 := (Option.some.inj (Tryd.func7.symm.trans hfn)).symm
  refine ⟨by kernel_rfl, fun j t ht => ?_⟩
  have hm : t ∈ Tryd.f7.params.toList := by rw [← Array.getElem?_toList] at ht; exact List.mem_of_getElem? ht
  rw [Tryd.params7] at hm
  simp only [List.mem_cons, List.mem_nil_iff, or_false] at hm
  rcases hm with rfl | rfl <;> (show Tryd.pinned.checked.prog.wantsStandIn _ = false; kernel_rfl)

/-- THE CARD -/
theorem card : Rows.TraceReadsCardSaid :=
  Claim7.holds_tied_plain_at .later [] _ _ _ _ said (fun _ h => by cases h) (by kernel_rfl) (fun _ h => by cases h) traceReads_row_tie rfl ⟨rfl, rfl⟩ (by kernel_rfl) rfl plain (by kernel_rfl)
end Go.Proofs.YtkfheegmlgfdoaaDoor.traceReads
