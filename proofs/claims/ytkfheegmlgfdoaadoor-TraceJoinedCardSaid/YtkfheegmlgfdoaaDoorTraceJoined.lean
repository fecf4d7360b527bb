/- TraceJoined: for every world that holds the listed variables as listed, and whatever the arguments read as, the law returns true and changes nothing that was there. No condition beyond the row's own. -/
import Derived.Test.YtkfheegmlgfdoaaDoorCards
import Derived.Test.YtkfheegmlgfdoaaDoorTie
import Derived.Test.YtkfheegmlgfdoaaDoorAmB4
import Derived.Test.YtkfheegmlgfdoaaDoorAmB5
import Derived.Test.YtkfheegmlgfdoaaDoorAmTrJ2
import Derived.Test.YtkfheegmlgfdoaaDoorTraceJoinedRun
import Derived.LaidMore
import Derived.Deep.DeepHandedRow
import Derived.Deep.DeepWitnessRowRef
namespace Go.Proofs.YtkfheegmlgfdoaaDoor.traceJoined
open Go.ChangeShapes Go.WideShapes Go.ChangeAt Go.RowKit Go.Am

set_option maxRecDepth 100000
theorem good : PGood Tryd.prog := pgood (by kernel_rfl) (by kernel_rfl)
theorem own : ownKnob Tryd.prog.godebug = none := by kernel_rfl
theorem laidOut : laidOutB Tryd.prog = true := by kernel_rfl
theorem read : ∀ t ∈ Tryd.f4.params.toList, Tryd.prog.readableRec t = true ∧ t < Tryd.prog.types.size := by
  rw [Tryd.params4]
  intro t ht
  simp only [List.mem_cons, List.mem_nil_iff, or_false] at ht
  rcases ht with rfl | rfl | rfl <;> exact ⟨by kernel_rfl, by decide +kernel⟩
theorem noErr : noSent Rows.traceJoinedRow.laid = true := by kernel_rfl
theorem okRows : rowsOk n0 gl0 = true := by decide +kernel
theorem hasRows0 : hasRows (givenHeap gl0 n0) gl0 = true := by decide +kernel
theorem aliveT : ToldP Tryd.prog gl0 n0 ⟨15, [], .bool true⟩ := told_of_run good (Nat.le_add_right ..) okRows (L := []) (fun e h => by cases h) rfl run
theorem allT : ∀ e ∈ [(⟨15, [], .bool true⟩ : TEntry)], refsBelowL 0 e.args = true ∧ ToldP Tryd.prog gl0 n0 e := fun e h => by
  rcases List.mem_singleton.1 h with rfl
  exact ⟨rfl, aliveT⟩
noncomputable abbrev mac : Mac := Mac.tell Tryd.prog gl0 [⟨15, [], .bool true⟩]
instance : MK mac := ⟨fun _ hn => Mac.tell_func hn⟩
theorem u22 : Tryd.prog.underlying 22 = some (.slice 37) := by kernel_rfl
theorem u3 : Tryd.prog.underlying 3 = some (.int .i64) := by kernel_rfl
theorem u35 : Tryd.prog.underlying 35 = some (.int .u64) := by kernel_rfl
theorem u39 : Tryd.prog.underlying 39 = some (.array 2 3) := by kernel_rfl
noncomputable def evFields : Array Field := match Tryd.prog.underlying 37 with | some (.struct fs) => fs | _ => #[]
theorem u37 : Tryd.prog.underlying 37 = some (.struct evFields) := by kernel_rfl
theorem c37 : Tryd.prog.cellsOf 37 = 9 := by kernel_rfl
abbrev evR : List (List AV → Prop) := [isIntL .i64, isIntL .i64, isIntL .i64, isIntL .i64, isIntL .i64, isIntL .i64, isIntL .i64, isIntL .u64, isIntL .i64]
theorem evTypes : evFields.toList.map (·.type) = [3, 3, 3, 3, 3, 3, 3, 35, 3] := by kernel_rfl
theorem zip_all {α β : Type} {f : α → TypeId} {Q : TypeId → β → Prop} : ∀ (l : List α) (R : List β), (∀ x ∈ (l.map f).zip R, Q x.1 x.2) → ∀ x ∈ l.zip R, Q (f x.1) x.2
  | [], _, _, x, h => by simp at h
  | _ :: _, [], _, x, h => by simp at h
  | a :: l, b :: R, hq, x, h => by
    rcases List.mem_cons.1 h with rfl | h
    · exact hq (f a, b) (by simp)
    · exact zip_all l R (fun y hy => hq y (by simp [hy])) x h
theorem flatEv : FlatP Tryd.prog 37 (isParts evR) := by
  refine flat_struct u37 (by kernel_rfl) (zip_all (f := Field.type) (Q := FlatP Tryd.prog) _ _ ?_) (by kernel_rfl) (by kernel_rfl)
  rw [evTypes]
  intro x hx
  simp only [evR, List.zip_cons_cons, List.zip_nil_right, List.mem_cons, List.mem_nil_iff, or_false] at hx
  rcases hx with rfl | rfl | rfl | rfl | rfl | rfl | rfl | rfl | rfl <;> first | exact flat_int u3 | exact flat_int u35
theorem ev_of {l : List AV} (h : isParts evR l) : ∃ x : Evt, l = x.enc ∧ Tr.EvR x := by
  obtain ⟨_, _, rfl, ⟨a1, rfl, w1⟩, _, _, rfl, ⟨a2, rfl, w2⟩, _, _, rfl, ⟨a3, rfl, w3⟩, _, _, rfl, ⟨a4, rfl, w4⟩, _, _, rfl, ⟨a5, rfl, w5⟩, _, _, rfl, ⟨a6, rfl, w6⟩, _, _, rfl, ⟨a7, rfl, w7⟩, _, _, rfl, ⟨a8, rfl, w8⟩, _, _, rfl, ⟨a9, rfl, w9⟩, rfl⟩ := h
  exact ⟨⟨a1, a2, a3, a4, a5, a6, a7, a8, a9⟩, rfl, ⟨(wf_u64 w8).1, (wf_u64 w8).2, wf_i64 w3, wf_i64 w2, wf_i64 w1, wf_i64 w4, wf_i64 w5, wf_i64 w6, wf_i64 w7, wf_i64 w9⟩⟩
theorem tab0 : Tab (givenHeap gl0 n0) := ⟨by decide +kernel, by kernel_rfl, by kernel_rfl, by kernel_rfl⟩
theorem contract {H : Type} {enc : TypeId × Value → H} {W : World} {base : Nat} {args : Array Value} {ds gs : List (DataW H)} {before : List MemPlace} {apart : Bool}
    (hval : ∀ (j : Nat) t v, Tryd.f4.params[j]? = some t → args[j]? = some v → Value.okWide Tryd.prog W .any base t v) (hW : DataW.Whole enc Tryd.prog Tryd.f4.params.toList Rows.traceJoinedSpec.vars apart W args.toList ds gs before)
    (hm : laidMet Tryd.prog Rows.traceJoinedRow.laid W) : Calls Tryd.prog 4 args W fun e w' => e = .returned (.bool true) ∧ Below W.heap.size W w' := by
  obtain ⟨p, q, hA, _, _, _, _⟩ := hW
  rw [Tryd.params4] at hA hval
  obtain ⟨v, vs1, d, ds1, p1, q1, fuel, hl, rfl, ht, hA⟩ := trod_cons hA
  obtain ⟨v2, vs2, d2, ds2, p2, q2, fuel2, rfl, rfl, ht2, hA⟩ := trod_cons hA
  obtain ⟨v3, vs3, d3, ds3, p3, q3, fuel3, rfl, rfl, ht3, hA⟩ := trod_cons hA
  obtain ⟨rfl, rfl⟩ := trod_nil hA
  have hv : Value.okWide Tryd.prog W .any base 22 v := hval 0 22 v rfl (by rw [← Array.getElem?_toList, hl]; rfl)
  have hv2 : Value.okWide Tryd.prog W .any base 22 v2 := hval 1 22 v2 rfl (by rw [← Array.getElem?_toList, hl]; rfl)
  have hv3 : Value.okWide Tryd.prog W .any base 39 v3 := hval 2 39 v3 rfl (by rw [← Array.getElem?_toList, hl]; rfl)
  obtain ⟨l3, ⟨_, _, rfl, ⟨s0, rfl, _⟩, _, _, rfl, ⟨s1, rfl, _⟩, rfl⟩, hv3'⟩ := arg_flat (flat_array u39 (flat_int u3) (by kernel_rfl)) (.inr ⟨_, _, u39⟩) hv3 ht3
  rw [arg_slice_cells u22 hv] at ht
  rw [arg_slice_cells u22 hv2] at ht2
  have hrd := rd_slice u22 (rd_flat flatEv) (by rw [c37]; decide)
  obtain ⟨θL, hg, hgood⟩ := laidN (tp := 0) noErr hm
  obtain ⟨θ, n, gl, l, hst, hvl, u, rfl, hsl⟩ := hrd.2 enc W true fuel _ d p1 ht θL n0 gl0 hgood
  obtain ⟨θ2, n2, gl2, l2, hst2, hvl2, u2, rfl, hsl2⟩ := hrd.2 enc W true fuel2 _ d2 p2 ht2 θ n gl hst.good
  rw [c37] at hsl hsl2
  obtain ⟨xs, hus, hEx⟩ := slt_of (fun l h => ev_of h) hsl
  obtain ⟨ys, hus2, hEy⟩ := slt_of (fun l h => ev_of h) hsl2
  have hs := hst.trans hst2
  have hrows : ∀ H1, Fr Em (givenHeap gl2 n2) H1 → hasRows H1 gl0 = true := fun H1 f =>
    hasRows_of (n := n0) (H := givenHeap gl0 n0) okRows (fun b hb => by rw [f.keep b (Nat.lt_of_lt_of_le hb hs.le) id]; exact hs.keep b hb) hasRows0
  refine law_tell good (n0 := n0) (Nat.le_add_right ..) okRows allT (hr_of_laid (Nat.le_add_right ..) hg hs) ?_ (TraceJoined_law (M := mac) (fun H1 f => call_told (hrows H1 f)) (tab0.em hs.fr) (p := s0) (q := s1) (SlT.em hus hst2.fr) hus2 hEx hEy)
  rw [hl]
  obtain ⟨c, cs', hcc, hcv, _⟩ := (hvl.up hst2.ag fun b hb => Nat.lt_of_lt_of_le hb hst2.le).uncons
  injection hcc with hcc _
  subst hcc
  obtain ⟨c2, cs2, hcc2, hcv2, _⟩ := hvl2.uncons
  injection hcc2 with hcc2 _
  subst hcc2
  exact .cons hcv (.cons hcv2 (.one (hv3' _ _)))

/-- a world for the witness -/
noncomputable def laidW (os : Os) : World := pinW Tryd.prog (World.doorLaid Tryd.prog 82 os) Rows.traceJoinedRow.laid
theorem laid_met (os : Os) : laidMetH Tryd.prog Rows.traceJoinedRow.laid ((laidW os).forCall (fun _ _ => 0) ⟨#[], #[.slice none 0 0, .slice none 0 0, .agg #[.int .i64 0, .int .i64 0]], []⟩).memory :=
  laidMet_of_run' 8 (by kernel_rfl) (by kernel_rfl)
theorem reads (os : Os) {H : Type} (enc : TypeId × Value → H) : ∃ places, DataW.whole enc Tryd.prog ((laidW os).forCall (fun _ _ => 0) ⟨#[], #[.slice none 0 0, .slice none 0 0, .agg #[.int .i64 0, .int .i64 0]], []⟩).memory Tryd.f4.params.toList Rows.traceJoinedSpec.vars false (#[.slice none 0 0, .slice none 0 0, .agg #[.int .i64 0, .int .i64 0]] : Array Value).toList 8 = some ([.nil, .nil, .agg (List.replicate 2 (.lit (.int .i64 0)))], [], places) :=
  ⟨[], by kernel_rfl⟩

theorem lifted (os : Os) (started : os.Started) (H : Type) (enc : TypeId × Value → H) (F : Stop.Interp) :
    ReturnsInHanded {} Tryd.checked os 4 .any ((OpenSpec.ofChange Rows.traceJoinedSpec).preRow enc Tryd.prog Tryd.f4 Rows.traceJoinedRow.domain false Rows.traceJoinedRow.laid) (((OpenSpec.ofChange Rows.traceJoinedSpec).at F).post enc Tryd.prog Tryd.f4 false true false false) := by
  obtain ⟨places, hx⟩ := reads os enc
  refine returnsInHanded_of_row (C := Tryd.checked) (s := OpenSpec.ofChange Rows.traceJoinedSpec) own started (by kernel_rfl) Tryd.func4
    (witness_row_atRef (enc := enc) (C := Tryd.checked) false (laidW os) #[.slice none 0 0, .slice none 0 0, .agg #[.int .i64 0, .int .i64 0]] rfl (by kernel_rfl) (by kernel_rfl) (by kernel_rfl)
      (OpenSpec.preRow_of_cond 8 hx (by kernel_rfl) (fun k hk => by cases hk) (by kernel_rfl) (laid_met os))) ?_
  intro W base args ds gs before hval hW _ _ _ hL _ _
  have hm : laidMet Tryd.prog Rows.traceJoinedRow.laid W := by
    unfold laidMetH at hL
    rw [show ((Rows.traceJoinedRow.laid.filter fun x => x.2.handleName?.isSome) = []) from by kernel_rfl] at hL
    exact hL
  refine open_contract (s := Rows.traceJoinedSpec) laidOut read rfl (fun ds h => ?_) rfl Tryd.underlying4 hW (contract hval hW hm)
  rw [Tryd.params4] at h
  match ds, h with
  | [d0, d1, d2], _ => rfl

theorem said : Rows.TraceJoinedSaid :=
  OpenClaim.holds_of_cond 4 Tryd.f4 rfl rfl rfl rfl rfl rfl rfl ⟨rfl, rfl, rfl, rfl, rfl⟩ rfl rfl rfl rfl rfl (by kernel_rfl) Tryd.func4 (by kernel_rfl)
    (of_decide_eq_true (by kernel_rfl)) (by unfold Func.isWrapper; first | (rw [if_pos (by decide +kernel)]; kernel_rfl) | (rw [if_neg (by decide +kernel)]; exact ⟨rfl, rfl⟩))
    (fun os started H enc _ F => by rw [OpenClaim.pre_eq_preRow]; exact lifted os started H enc F)

theorem plain (f : FuncId) (fn : Func) (hf : Tryd.pinned.checked.prog.funcNamed Rows.traceJoinedRow.func = some f) (hfn : Tryd.pinned.checked.prog.funcs[f]? = some fn) :
    true = Tryd.pinned.checked.prog.looks [] ∧ ∀ (j : Nat) t, fn.params[j]? = some t → Tryd.pinned.checked.prog.wantsStandIn t = false := by
  obtain rfl : f = 4 := Option.some.inj ((show Tryd.prog.funcNamed Rows.traceJoinedRow.func = some 4 by kernel_rfl).symm.trans hf) |>.symm
  obtain rfl : fn = Tryd.f4 := (Option.some.inj (Tryd.func4.symm.trans hfn)).symm
  refine ⟨by kernel_rfl, fun j t ht => ?_⟩
  have hm : t ∈ Tryd.f4.params.toList := by rw [← Array.getElem?_toList] at ht; exact List.mem_of_getElem? ht
  rw [Tryd.params4] at hm
  simp only [List.mem_cons, List.mem_nil_iff, or_false] at hm
  rcases hm with rfl | rfl | rfl <;> (show Tryd.pinned.checked.prog.wantsStandIn _ = false; kernel_rfl)

/-- THE CARD -/
theorem card : Rows.TraceJoinedCardSaid :=
  Claim7.holds_tied_plain_at .later [] _ _ _ _ said (fun _ h => by cases h) (by kernel_rfl) (fun _ h => by cases h) traceJoined_row_tie rfl ⟨rfl, rfl⟩ (by kernel_rfl) rfl plain (by kernel_rfl)
end Go.Proofs.YtkfheegmlgfdoaaDoor.traceJoined
