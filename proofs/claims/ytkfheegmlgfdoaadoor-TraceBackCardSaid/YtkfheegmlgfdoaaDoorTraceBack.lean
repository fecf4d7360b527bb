/- TraceBack: for every world that holds the listed variables as listed, and whatever the arguments read as, the law returns true and changes nothing that was there. No condition beyond the row's own. -/
import Derived.Test.YtkfheegmlgfdoaaDoorCards
import Derived.Test.YtkfheegmlgfdoaaDoorTie
import Derived.Test.YtkfheegmlgfdoaaDoorAmKB4
import Derived.Test.YtkfheegmlgfdoaaDoorAmKB5
import Derived.Test.YtkfheegmlgfdoaaDoorAmKTrK4
import Derived.Test.YtkfheegmlgfdoaaDoorTraceBackRun
import Derived.LaidMore
import Derived.Deep.DeepHandedRow
import Derived.Deep.DeepWitnessRowRef
namespace Go.Proofs.YtkfheegmlgfdoaaDoor.traceBack
open Go.ChangeShapes Go.WideShapes Go.ChangeAt Go.RowKit Go.Am

set_option maxRecDepth 100000
theorem good : PGood Tryd.prog := pgood (by kernel_rfl) (by kernel_rfl)
theorem own : ownKnob Tryd.prog.godebug = none := by kernel_rfl
theorem laidOut : laidOutB Tryd.prog = true := by kernel_rfl
theorem read : ∀ t ∈ Tryd.f8.params.toList, Tryd.prog.readableRec t = true ∧ t < Tryd.prog.types.size := by
  rw [Tryd.params8]
  intro t ht
  simp only [List.mem_cons, List.mem_nil_iff, or_false] at ht
  rcases ht with rfl | rfl | rfl <;> exact ⟨by kernel_rfl, by decide +kernel⟩
theorem star : "*" ++ "errors.errorString" = "*errors.errorString" := by decide
theorem errT : ErrT Tryd.prog 164 :=
  ⟨fun u h => typeName_ptr_named (nm := "errors.errorString") (by rw [star]; kernel_rfl) (by kernel_rfl) (by decide) u (by rw [star]; exact h), by kernel_rfl⟩
theorem okRows : rowsOk n0 gl0 = true := by decide +kernel
theorem hasRows0 : hasRows (zk gl0 n0) gl0 = true := by decide +kernel
theorem aliveT : ToldP Tryd.prog gl0 n0 ⟨15, [], .bool true⟩ := qyl good (Nat.le_add_right ..) okRows (L := []) (fun e h => by cases h) rfl run
theorem allT : ∀ e ∈ [(⟨15, [], .bool true⟩ : TEntry)], we 0 e.args = true ∧ ToldP Tryd.prog gl0 n0 e := fun e h => by
  rcases List.mem_singleton.1 h with rfl
  exact ⟨rfl, aliveT⟩
noncomputable abbrev mac : Mac := Mac.tell Tryd.prog gl0 [⟨15, [], .bool true⟩]
instance : MK mac := ⟨fun _ hn => Mac.tell_func hn⟩
theorem u22 : Tryd.prog.underlying 22 = some (.slice 37) := by kernel_rfl
theorem u3 : Tryd.prog.underlying 3 = some (.int .i64) := by kernel_rfl
theorem u35 : Tryd.prog.underlying 35 = some (.int .u64) := by kernel_rfl
theorem u24 : Tryd.prog.underlying 24 = some (.slice 5) := by kernel_rfl
theorem u5 : Tryd.prog.underlying 5 = some (.int .u8) := by kernel_rfl
theorem c5 : Tryd.prog.cellsOf 5 = 1 := by kernel_rfl
theorem u9 : Tryd.prog.underlying 9 = some .string := by kernel_rfl
noncomputable def qy7 : Array Field := match Tryd.prog.underlying 37 with | some (.struct fs) => fs | _ => #[]
theorem u37 : Tryd.prog.underlying 37 = some (.struct qy7) := by kernel_rfl
theorem c37 : Tryd.prog.cellsOf 37 = 9 := by kernel_rfl
abbrev evR : List (List AV → Prop) := [isIntL .i64, isIntL .i64, isIntL .i64, isIntL .i64, isIntL .i64, isIntL .i64, isIntL .i64, isIntL .u64, isIntL .i64]
theorem evTypes : qy7.toList.map (·.type) = [3, 3, 3, 3, 3, 3, 3, 35, 3] := by kernel_rfl
theorem q3c {α β : Type} {f : α → TypeId} {Q : TypeId → β → Prop} : ∀ (l : List α) (R : List β), (∀ x ∈ (l.map f).zip R, Q x.1 x.2) → ∀ x ∈ l.zip R, Q (f x.1) x.2
  | [], _, _, x, h => by simp at h
  | _ :: _, [], _, x, h => by simp at h
  | a :: l, b :: R, hq, x, h => by
    rcases List.mem_cons.1 h with rfl | h
    · exact hq (f a, b) (by simp)
    · exact q3c l R (fun y hy => hq y (by simp [hy])) x h
theorem flatEv : FlatP Tryd.prog 37 (isParts evR) := by
  refine qx7 u37 (by kernel_rfl) (q3c (f := Field.type) (Q := FlatP Tryd.prog) _ _ ?_) (by kernel_rfl) (by kernel_rfl)
  rw [evTypes]
  intro x hx
  simp only [evR, List.zip_cons_cons, List.zip_nil_right, List.mem_cons, List.mem_nil_iff, or_false] at hx
  rcases hx with rfl | rfl | rfl | rfl | rfl | rfl | rfl | rfl | rfl <;> first | exact qua u3 | exact qua u35
theorem ev_of {l : List AV} (h : isParts evR l) : ∃ x : Evt, l = x.enc ∧ Tr.EvR x := by
  obtain ⟨_, _, rfl, ⟨a1, rfl, w1⟩, _, _, rfl, ⟨a2, rfl, w2⟩, _, _, rfl, ⟨a3, rfl, w3⟩, _, _, rfl, ⟨a4, rfl, w4⟩, _, _, rfl, ⟨a5, rfl, w5⟩, _, _, rfl, ⟨a6, rfl, w6⟩, _, _, rfl, ⟨a7, rfl, w7⟩, _, _, rfl, ⟨a8, rfl, w8⟩, _, _, rfl, ⟨a9, rfl, w9⟩, rfl⟩ := h
  exact ⟨⟨a1, a2, a3, a4, a5, a6, a7, a8, a9⟩, rfl, ⟨(wf_u64 w8).1, (wf_u64 w8).2, qnr w3, qnr w2, qnr w1, qnr w4, qnr w5, qnr w6, qnr w7, qnr w9⟩⟩
theorem byte_of {l : List AV} (h : isIntL .u8 l) : ∃ x : UInt8, l = encB x ∧ True := by
  obtain ⟨n, rfl, hw⟩ := h
  simp only [Lit.wf, Bool.and_eq_true, decide_eq_true_eq] at hw
  have h1 : IntKind.max .u8 = 255 := by decide
  have h2 : IntKind.min .u8 = 0 := by decide
  have hb : 0 ≤ n ∧ n < 256 := by omega
  refine ⟨UInt8.ofNat n.toNat, ?_, trivial⟩
  have : (UInt8.ofNat n.toNat).toNat = n.toNat := Tr.ofNat_lt (by omega)
  rw [encB, this, show ((n.toNat : Nat) : Int) = n by omega]
theorem tab0 : Tab (zk gl0 n0) := ⟨by decide +kernel, by kernel_rfl, by kernel_rfl, by kernel_rfl⟩
theorem err4 : (zk gl0 n0).cellsAt zw = some [.iface 164 (.ptr (Tryd.prog.globals.size + 5) 0)] := by kernel_rfl
theorem err5 : (zk gl0 n0).cellsAt je = some [.iface 164 (.ptr (Tryd.prog.globals.size + 4) 0)] := by kernel_rfl
theorem tbs0 : Tbs (zk gl0 n0) := ⟨tab0, ⟨by decide +kernel, _, err4, rfl, rfl⟩, ⟨by decide +kernel, _, err5, rfl, rfl⟩⟩
theorem contract {H : Type} {enc : TypeId × Value → H} {W : World} {base : Nat} {args : Array Value} {ds gs : List (DataW H)} {before : List MemPlace} {apart : Bool}
    (hval : ∀ (j : Nat) t v, Tryd.f8.params[j]? = some t → args[j]? = some v → Value.okWide Tryd.prog W .any base t v) (hW : DataW.Whole enc Tryd.prog Tryd.f8.params.toList Rows.traceBackSpec.vars apart W args.toList ds gs before)
    (hm : laidMet Tryd.prog Rows.traceBackRow.laid W) : Calls Tryd.prog 8 args W fun e w' => e = .returned (.bool true) ∧ Below W.heap.size W w' := by
  obtain ⟨p, q, hA, _, _, _, _⟩ := hW
  rw [Tryd.params8] at hA hval
  obtain ⟨v, vs1, d, ds1, p1, q1, fuel, hl, rfl, ht, hA⟩ := qo0 hA
  obtain ⟨v2, vs2, d2, ds2, p2, q2, fuel2, rfl, rfl, ht2, hA⟩ := qo0 hA
  obtain ⟨v3, vs3, d3, ds3, p3, q3, fuel3, rfl, rfl, ht3, hA⟩ := qo0 hA
  obtain ⟨rfl, rfl⟩ := trod_nil hA
  have hv : Value.okWide Tryd.prog W .any base 22 v := hval 0 22 v rfl (by rw [← Array.getElem?_toList, hl]; rfl)
  have hv2 : Value.okWide Tryd.prog W .any base 24 v2 := hval 1 24 v2 rfl (by rw [← Array.getElem?_toList, hl]; rfl)
  have hv3 : Value.okWide Tryd.prog W .any base 9 v3 := hval 2 9 v3 rfl (by rw [← Array.getElem?_toList, hl]; rfl)
  obtain ⟨s3, rfl⟩ := arg_str u9 hv3
  rw [qij u22 hv] at ht
  rw [qij u24 hv2] at ht2
  have hrd := qzd u22 (q3j flatEv) (by rw [c37]; decide)
  have hrd2 := qzd u24 (q3j (qua u5)) (by rw [c5]; decide)
  obtain ⟨θL, hg, hgood⟩ := laidE errT hm
  obtain ⟨θ, n, gl, l, hst, hvl, u, rfl, hsl⟩ := hrd.2 enc W true fuel _ d p1 ht θL n0 gl0 hgood
  obtain ⟨θ2, n2, gl2, l2, hst2, hvl2, u2, rfl, hsl2⟩ := hrd2.2 enc W true fuel2 _ d2 p2 ht2 θ n gl hst.good
  rw [c37] at hsl
  rw [c5] at hsl2
  obtain ⟨xs, hus, hEx⟩ := slt_of (fun l h => ev_of h) hsl
  obtain ⟨bs, hus2, _⟩ := slt_of (fun l h => byte_of h) hsl2
  have hs := hst.trans hst2
  have hrows : ∀ H1, Fr Em (zk gl2 n2) H1 → hasRows H1 gl0 = true := fun H1 f =>
    qsn (n := n0) (H := zk gl0 n0) okRows (fun b hb => by rw [f.keep b (Nat.lt_of_lt_of_le hb hs.le) id]; exact hs.keep b hb) hasRows0
  refine law_tell good (n0 := n0) (Nat.le_add_right ..) okRows allT (q02 (Nat.le_add_right ..) hg hs) ?_ (qto (M := mac) (fun H1 f => q1o (hrows H1 f)) (tbs0.em hs.fr) (t2 := s3.data.toList) (SlT.em hus hst2.fr) hEx hus2)
  rw [hl]
  obtain ⟨c, cs', hcc, hcv, _⟩ := (hvl.up hst2.ag fun b hb => Nat.lt_of_lt_of_le hb hst2.le).uncons
  injection hcc with hcc _
  subst hcc
  obtain ⟨c2, cs2, hcc2, hcv2, _⟩ := hvl2.uncons
  injection hcc2 with hcc2 _
  subst hcc2
  exact .cons hcv (.cons hcv2 (.one (by simpa using VR.str s3.data.toList)))

/-- a world for the witness -/
noncomputable def laidW (os : Os) : World := pinW Tryd.prog (World.doorLaid Tryd.prog 82 os) Rows.traceBackRow.laid
theorem laid_met (os : Os) : laidMetH Tryd.prog Rows.traceBackRow.laid ((laidW os).forCall (fun _ _ => 0) ⟨#[], #[.slice none 0 0, .slice none 0 0, .string ⟨#[]⟩], []⟩).memory :=
  laidMet_of_run' 8 (by kernel_rfl) (by kernel_rfl)
theorem reads (os : Os) {H : Type} (enc : TypeId × Value → H) : ∃ places, DataW.whole enc Tryd.prog ((laidW os).forCall (fun _ _ => 0) ⟨#[], #[.slice none 0 0, .slice none 0 0, .string ⟨#[]⟩], []⟩).memory Tryd.f8.params.toList Rows.traceBackSpec.vars false (#[.slice none 0 0, .slice none 0 0, .string ⟨#[]⟩] : Array Value).toList 8 = some ([.nil, .nil, .lit (.string [])], [], places) :=
  ⟨[], by kernel_rfl⟩

theorem lifted (os : Os) (started : os.Started) (H : Type) (enc : TypeId × Value → H) (F : Stop.Interp) :
    ReturnsInHanded {} Tryd.checked os 8 .any ((OpenSpec.ofChange Rows.traceBackSpec).preRow enc Tryd.prog Tryd.f8 Rows.traceBackRow.domain false Rows.traceBackRow.laid) (((OpenSpec.ofChange Rows.traceBackSpec).at F).post enc Tryd.prog Tryd.f8 false true false false) := by
  obtain ⟨places, hx⟩ := reads os enc
  refine returnsInHanded_of_row (C := Tryd.checked) (s := OpenSpec.ofChange Rows.traceBackSpec) own started (by kernel_rfl) Tryd.func8
    (witness_row_atRef (enc := enc) (C := Tryd.checked) false (laidW os) #[.slice none 0 0, .slice none 0 0, .string ⟨#[]⟩] rfl (by kernel_rfl) (by kernel_rfl) (by kernel_rfl)
      (OpenSpec.preRow_of_cond 8 hx (by kernel_rfl) (fun k hk => by cases hk) (by kernel_rfl) (laid_met os))) ?_
  intro W base args ds gs before hval hW _ _ _ hL _ _
  have hm : laidMet Tryd.prog Rows.traceBackRow.laid W := by
    unfold laidMetH at hL
    rw [show ((Rows.traceBackRow.laid.filter fun x => x.2.handleName?.isSome) = []) from by kernel_rfl] at hL
    exact hL
  refine qsz (s := Rows.traceBackSpec) laidOut read rfl (fun ds h => ?_) rfl Tryd.underlying4 hW (contract hval hW hm)
  rw [Tryd.params8] at h
  match ds, h with
  | [d0, d1, d2], _ => rfl

theorem said : Rows.TraceBackSaid :=
  OpenClaim.holds_of_cond 8 Tryd.f8 rfl rfl rfl rfl rfl rfl rfl ⟨rfl, rfl, rfl, rfl, rfl⟩ rfl rfl rfl rfl rfl (by kernel_rfl) Tryd.func8 (by kernel_rfl)
    (of_decide_eq_true (by kernel_rfl)) (by unfold Func.isWrapper; first | (rw [if_pos (by decide +kernel)]; kernel_rfl) | (rw [if_neg (by decide +kernel)]; exact ⟨rfl, rfl⟩))
    (fun os started H enc _ F => by rw [OpenClaim.pre_eq_preRow]; exact lifted os started H enc F)

theorem plain (f : FuncId) (fn : Func) (hf : Tryd.pinned.checked.prog.funcNamed Rows.traceBackRow.func = some f) (hfn : Tryd.pinned.checked.prog.funcs[f]? = some fn) :
    true = Tryd.pinned.checked.prog.looks [] ∧ ∀ (j : Nat) t, fn.params[j]? = some t → Tryd.pinned.checked.prog.wantsStandIn t = false := by
  obtain rfl : f = 8 := Option.some.inj ((show Tryd.prog.funcNamed Rows.traceBackRow.func = some 8 by kernel_rfl).symm.trans hf) |>.symm
  obtain rfl : fn = Tryd.f8 := (Option.some.inj (Tryd.func8.symm.trans hfn)).symm
  refine ⟨by kernel_rfl, fun j t ht => ?_⟩
  have hm : t ∈ Tryd.f8.params.toList := by rw [← Array.getElem?_toList] at ht; exact List.mem_of_getElem? ht
  rw [Tryd.params8] at hm
  simp only [List.mem_cons, List.mem_nil_iff, or_false] at hm
  rcases hm with rfl | rfl | rfl <;> (show Tryd.pinned.checked.prog.wantsStandIn _ = false; kernel_rfl)

/-- THE CARD -/
theorem card : Rows.TraceBackCardSaid :=
  Claim7.holds_tied_plain_at .later [] _ _ _ _ said (fun _ h => by cases h) (by kernel_rfl) (fun _ h => by cases h) traceBack_row_tie rfl ⟨rfl, rfl⟩ (by kernel_rfl) rfl plain (by kernel_rfl)
end Go.Proofs.YtkfheegmlgfdoaaDoor.traceBack
