/- TraceMerged: for every world that holds the listed variables as listed, and whatever the arguments read as, the law returns true and changes nothing that was there. No condition beyond the row's own. -/
import Derived.Test.YtkfheegmlgfdoaaDoorCards
import Derived.Test.YtkfheegmlgfdoaaDoorTie
import Derived.Test.YtkfheegmlgfdoaaDoorAmB4
import Derived.Test.YtkfheegmlgfdoaaDoorAmTrd
import Derived.Test.YtkfheegmlgfdoaaDoorTraceMergedRun
import Derived.LaidMore
import Derived.Deep.DeepHandedRow
import Derived.Deep.DeepWitnessRowRef
namespace Go.Proofs.YtkfheegmlgfdoaaDoor.traceMerged
open Go.ChangeShapes Go.WideShapes Go.ChangeAt Go.RowKit Go.Am

set_option maxRecDepth 100000
theorem good : PGood Tryd.prog := pgood (by kernel_rfl) (by kernel_rfl)
theorem own : ownKnob Tryd.prog.godebug = none := by kernel_rfl
theorem laidOut : laidOutB Tryd.prog = true := by kernel_rfl
theorem read : ∀ t ∈ Tryd.f6.params.toList, Tryd.prog.readableRec t = true ∧ t < Tryd.prog.types.size := by
  rw [Tryd.params6]
  intro t ht
  simp only [List.mem_cons, List.mem_nil_iff, or_false] at ht
  rcases ht with rfl | rfl <;> exact ⟨by kernel_rfl, by decide +kernel⟩
theorem noErr : noSent Rows.traceMergedRow.laid = true := by kernel_rfl
theorem okRows : rowsOk n0 gl0 = true := by decide +kernel
theorem hasRows0 : hasRows (givenHeap gl0 n0) gl0 = true := by decide +kernel
theorem aliveT : ToldP Tryd.prog gl0 n0 ⟨15, [], .bool true⟩ := told_of_run good (Nat.le_add_right ..) okRows (L := []) (fun e h => by cases h) rfl run
theorem allT : ∀ e ∈ [(⟨15, [], .bool true⟩ : TEntry)], refsBelowL 0 e.args = true ∧ ToldP Tryd.prog gl0 n0 e := fun e h => by
  rcases List.mem_singleton.1 h with rfl
  exact ⟨rfl, aliveT⟩
noncomputable abbrev mac : Mac := Mac.tell Tryd.prog gl0 [⟨15, [], .bool true⟩]
instance : MK mac := ⟨fun _ hn => Mac.tell_func hn⟩
theorem u44 : Tryd.prog.underlying 44 = some (.slice 22) := by kernel_rfl
theorem u22 : Tryd.prog.underlying 22 = some (.slice 37) := by kernel_rfl
theorem u3 : Tryd.prog.underlying 3 = some (.int .i64) := by kernel_rfl
theorem u35 : Tryd.prog.underlying 35 = some (.int .u64) := by kernel_rfl
noncomputable def evFields : Array Field := match Tryd.prog.underlying 37 with | some (.struct fs) => fs | _ => #[]
theorem u37 : Tryd.prog.underlying 37 = some (.struct evFields) := by kernel_rfl
theorem c37 : Tryd.prog.cellsOf 37 = 9 := by kernel_rfl
theorem c22 : Tryd.prog.cellsOf 22 = 1 := by kernel_rfl
abbrev evR : List (List AV → Prop) := [isIntL .i64, isIntL .i64, isIntL .i64, isIntL .i64, isIntL .i64, isIntL .i64, isIntL .i64, isIntL .u64, isIntL .i64]
theorem evTypes : evFields.toList.map (·.type) = [3, 3, 3, 3, 3, 3, 3, 35, 3] := by kernel_rfl
theorem zip_all {α β : Type} {f : α → TypeId} {Q : TypeId → β → Prop} : ∀ (l : List α) (R : List β), (∀ x ∈ (l.map f).zip R, Q x.1 x.2) → ∀ x ∈ l.zip R, Q (f x.1) x.2
  | [], _, _, x, h => by simp at h
  | _ :: _, [], _, x, h => by simp at h
  | a :: l, b :: R, hq, x, h => by
    rcases List.mem_cons.1 h with rfl | h
    · exact hq (f a, b) (by simp)
    · exact zip_all l R (fun y hy => hq y (by simp [hy])) x h
theorem flatEv : FlatP Tryd.prog 37 (isParts evR) := by
  refine flat_struct u37 (by kernel_rfl) (zip_all (f := Field.type) (Q := FlatP Tryd.prog) _ _ ?_) (by kernel_rfl) (by kernel_rfl)
  rw [evTypes]
  intro x hx
  simp only [evR, List.zip_cons_cons, List.zip_nil_right, List.mem_cons, List.mem_nil_iff, or_false] at hx
  rcases hx with rfl | rfl | rfl | rfl | rfl | rfl | rfl | rfl | rfl <;> first | exact flat_int u3 | exact flat_int u35
theorem ev_of {l : List AV} (h : isParts evR l) : ∃ x : Evt, l = x.enc ∧ True := by
  obtain ⟨_, _, rfl, ⟨a1, rfl, _⟩, _, _, rfl, ⟨a2, rfl, _⟩, _, _, rfl, ⟨a3, rfl, _⟩, _, _, rfl, ⟨a4, rfl, _⟩, _, _, rfl, ⟨a5, rfl, _⟩, _, _, rfl, ⟨a6, rfl, _⟩, _, _, rfl, ⟨a7, rfl, _⟩, _, _, rfl, ⟨a8, rfl, _⟩, _, _, rfl, ⟨a9, rfl, _⟩, rfl⟩ := h
  exact ⟨⟨a1, a2, a3, a4, a5, a6, a7, a8, a9⟩, rfl, trivial⟩
theorem contract {H : Type} {enc : TypeId × Value → H} {W : World} {base : Nat} {args : Array Value} {ds gs : List (DataW H)} {before : List MemPlace} {apart : Bool}
    (hval : ∀ (j : Nat) t v, Tryd.f6.params[j]? = some t → args[j]? = some v → Value.okWide Tryd.prog W .any base t v) (hW : DataW.Whole enc Tryd.prog Tryd.f6.params.toList Rows.traceMergedSpec.vars apart W args.toList ds gs before)
    (hm : laidMet Tryd.prog Rows.traceMergedRow.laid W) : Calls Tryd.prog 6 args W fun e w' => e = .returned (.bool true) ∧ Below W.heap.size W w' := by
  obtain ⟨p, q, hA, _, _, _, _⟩ := hW
  rw [Tryd.params6] at hA hval
  obtain ⟨v, vs1, d, ds1, p1, q1, fuel, hl, rfl, ht, hA⟩ := trod_cons hA
  obtain ⟨v2, vs2, d2, ds2, p2, q2, fuel2, rfl, rfl, ht2, hA⟩ := trod_cons hA
  obtain ⟨rfl, rfl⟩ := trod_nil hA
  have hv : Value.okWide Tryd.prog W .any base 22 v := hval 0 22 v rfl (by rw [← Array.getElem?_toList, hl]; rfl)
  have hv2 : Value.okWide Tryd.prog W .any base 3 v2 := hval 1 3 v2 rfl (by rw [← Array.getElem?_toList, hl]; rfl)
  obtain ⟨z, rfl, _⟩ := arg_int u3 hv2
  rw [arg_slice_cells u22 hv] at ht
  have hrd := rd_slice u22 (rd_flat flatEv) (by rw [c37]; decide)
  obtain ⟨θL, hg, hgood⟩ := laidN (tp := 0) noErr hm
  obtain ⟨θ, n, gl, l, hst, hvl, u, rfl, hsl⟩ := hrd.2 enc W true fuel _ d p1 ht θL n0 gl0 hgood
  rw [c37] at hsl
  obtain ⟨xs, hus, _⟩ := slt_of (fun l h => ev_of h) hsl
  have hrows : hasRows (givenHeap gl n) gl0 = true := hasRows_of (n := n0) (H := givenHeap gl0 n0) okRows (fun b hb => hst.keep b hb) hasRows0
  refine law_tell good (n0 := n0) (Nat.le_add_right ..) okRows allT (hr_of_laid (Nat.le_add_right ..) hg hst) ?_ (TraceMerged_law (M := mac) (call_told hrows) (at' := z) hus)
  rw [hl]
  obtain ⟨c, cs', hcc, hcv, _⟩ := hvl.uncons
  injection hcc with hcc _
  subst hcc
  exact .cons hcv (.one fun _ _ => rfl)

/-- a world for the witness -/
noncomputable def laidW (os : Os) : World := pinW Tryd.prog (World.doorLaid Tryd.prog 82 os) Rows.traceMergedRow.laid
theorem laid_met (os : Os) : laidMetH Tryd.prog Rows.traceMergedRow.laid ((laidW os).forCall (fun _ _ => 0) ⟨#[], #[.slice none 0 0, .int .i64 0], []⟩).memory :=
  laidMet_of_run' 8 (by kernel_rfl) (by kernel_rfl)
theorem reads (os : Os) {H : Type} (enc : TypeId × Value → H) : ∃ places, DataW.whole enc Tryd.prog ((laidW os).forCall (fun _ _ => 0) ⟨#[], #[.slice none 0 0, .int .i64 0], []⟩).memory Tryd.f6.params.toList Rows.traceMergedSpec.vars false (#[.slice none 0 0, .int .i64 0] : Array Value).toList 8 = some ([.nil, .lit (.int .i64 0)], [], places) :=
  ⟨[], by kernel_rfl⟩

theorem lifted (os : Os) (started : os.Started) (H : Type) (enc : TypeId × Value → H) (F : Stop.Interp) :
    ReturnsInHanded {} Tryd.checked os 6 .any ((OpenSpec.ofChange Rows.traceMergedSpec).preRow enc Tryd.prog Tryd.f6 Rows.traceMergedRow.domain false Rows.traceMergedRow.laid) (((OpenSpec.ofChange Rows.traceMergedSpec).at F).post enc Tryd.prog Tryd.f6 false true false false) := by
  obtain ⟨places, hx⟩ := reads os enc
  refine returnsInHanded_of_row (C := Tryd.checked) (s := OpenSpec.ofChange Rows.traceMergedSpec) own started (by kernel_rfl) Tryd.func6
    (witness_row_atRef (enc := enc) (C := Tryd.checked) false (laidW os) #[.slice none 0 0, .int .i64 0] rfl (by kernel_rfl) (by kernel_rfl) (by kernel_rfl)
      (OpenSpec.preRow_of_cond 8 hx (by kernel_rfl) (fun k hk => by cases hk) (by kernel_rfl) (laid_met os))) ?_
  intro W base args ds gs before hval hW _ _ _ hL _ _
  have hm : laidMet Tryd.prog Rows.traceMergedRow.laid W := by
    unfold laidMetH at hL
    rw [show ((Rows.traceMergedRow.laid.filter fun x => x.2.handleName?.isSome) = []) from by kernel_rfl] at hL
    exact hL
  refine open_contract (s := Rows.traceMergedSpec) laidOut read rfl (fun ds h => ?_) rfl Tryd.underlying4 hW (contract hval hW hm)
  rw [Tryd.params6] at h
  match ds, h with
  | [d0, d1], _ => rfl

theorem said : Rows.TraceMergedSaid :=
  OpenClaim.holds_of_cond 6 Tryd.f6 rfl rfl rfl rfl rfl rfl rfl ⟨rfl, rfl, rfl, rfl, rfl⟩ rfl rfl rfl rfl rfl (by kernel_rfl) Tryd.func6 (by kernel_rfl)
    (of_decide_eq_true (by kernel_rfl)) (by unfold Func.isWrapper; first | (rw [if_pos (by decide +kernel)]; kernel_rfl) | (rw [if_neg (by decide +kernel)]; exact ⟨rfl, rfl⟩))
    (fun os started H enc _ F => by rw [OpenClaim.pre_eq_preRow]; exact lifted os started H enc F)

theorem plain (f : FuncId) (fn : Func) (hf : Tryd.pinned.checked.prog.funcNamed Rows.traceMergedRow.func = some f) (hfn : Tryd.pinned.checked.prog.funcs[f]? = some fn) :
    true = Tryd.pinned.checked.prog.looks [] ∧ ∀ (j : Nat) t, fn.params[j]? = some t → Tryd.pinned.checked.prog.wantsStandIn t = false := by
  obtain rfl : f = 6 := Option.some.inj ((show Tryd.prog.funcNamed Rows.traceMergedRow.func = some 6 by kernel_rfl).symm.trans hf) |>.symm
  obtain rfl : fn = Tryd.f6 := (Option.some.inj (Tryd.func6.symm.trans hfn)).symm
  refine ⟨by kernel_rfl, fun j t ht => ?_⟩
  have hm : t ∈ Tryd.f6.params.toList := by rw [← Array.getElem?_toList] at ht; exact List.mem_of_getElem? ht
  rw [Tryd.params6] at hm
  simp only [List.mem_cons, List.mem_nil_iff, or_false] at hm
  rcases hm with rfl | rfl <;> (show Tryd.pinned.checked.prog.wantsStandIn _ = false; kernel_rfl)

/-- THE CARD -/
theorem card : Rows.TraceMergedCardSaid :=
  Claim7.holds_tied_plain_at .later [] _ _ _ _ said (fun _ h => by cases h) (by kernel_rfl) (fun _ h => by cases h) traceMerged_row_tie rfl ⟨rfl, rfl⟩ (by kernel_rfl) rfl plain (by kernel_rfl)
end Go.Proofs.YtkfheegmlgfdoaaDoor.traceMerged
