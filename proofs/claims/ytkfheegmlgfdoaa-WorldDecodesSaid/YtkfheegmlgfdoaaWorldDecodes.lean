/- WorldDecodes: for every world, and whatever the arguments read as, the law returns true and changes nothing that was there. No condition beyond the row's own. -/
import Derived.Test.YtkfheegmlgfdoaaRows
import Derived.Test.YtkfheegmlgfdoaaAmArgs3
import Derived.Test.YtkfheegmlgfdoaaAmWdD
import Derived.LaidMore
import Derived.Deep.DeepHandedRow
namespace Go.Proofs.Ytkfheegmlgfdoaa.worldDecodes
open Go.ChangeShapes Go.WideShapes Go.ChangeAt Go.RowKit Go.Am

set_option maxRecDepth 100000
theorem good : PGood Try.prog := pgood (by kernel_rfl) (by kernel_rfl)
theorem own : ownKnob Try.prog.godebug = none := by kernel_rfl
theorem laidOut : laidOutB Try.prog = true := by kernel_rfl
theorem read : ∀ t ∈ Try.f3.params.toList, Try.prog.readableRec t = true ∧ t < Try.prog.types.size := by
  rw [Try.params3]
  intro t ht
  simp only [List.mem_cons, List.mem_nil_iff, or_false] at ht
  subst ht
  exact ⟨by kernel_rfl, by decide +kernel⟩
theorem under22 : Try.prog.underlying 22 = some (.slice 5) := by kernel_rfl
theorem under5 : Try.prog.underlying 5 = some (.int .u8) := by kernel_rfl
theorem cells5 : Try.prog.cellsOf 5 = 1 := by kernel_rfl
theorem contract {H : Type} {enc : TypeId × Value → H} {W : World} {base : Nat} {args : Array Value} {ds gs : List (DataW H)} {before : List MemPlace} {apart : Bool}
    (hval : ∀ (j : Nat) t v, Try.f3.params[j]? = some t → args[j]? = some v → Value.okWide Try.prog W .any base t v) (hW : DataW.Whole enc Try.prog Try.f3.params.toList Rows.worldDecodesSpec.vars apart W args.toList ds gs before) :
    Calls Try.prog 3 args W fun e w' => e = .returned (.bool true) ∧ Below W.heap.size W w' := by
  obtain ⟨p, q, hA, _, _, _, _⟩ := hW
  rw [Try.params3] at hA hval
  obtain ⟨v, vs, d, ds', p1, p2, fuel, hl, rfl, ht, hA⟩ := trod_cons hA
  obtain ⟨rfl, rfl⟩ := trod_nil hA
  have hv : Value.okWide Try.prog W .any base 22 v := hval 0 22 v rfl (by rw [← Array.getElem?_toList, hl]; rfl)
  rw [arg_slice_cells under22 hv] at ht
  obtain ⟨θ, n, gl, u, hst, hu, hsp, hlt⟩ := arg_slice under22 (flat_int under5) (by rw [cells5]; decide) ht (arg_slice_spot under22 hv) (good_nil W θ0 Try.prog.globals.size)
  rw [cells5] at hsp
  obtain ⟨bs, hs, hb⟩ := bytes_of (fun l h => h) hsp
  have hby : Bytes bs := fun b hb' => by have := bounds_u8 (hb b hb'); omega
  obtain ⟨H', hc⟩ := WorldDecodes_law (AP := cProg Try.prog) ⟨world_Decode_at, slices_Collect_api_Act_at, slices_AppendSeq_api_Act_at, world_acts_at, world_acts_1_at, slices_Chunk_byte_at, slices_Chunk_byte_1_at⟩ ref14_Decode_at law14_WorldDecodes_at hs hby hlt
  exact law_calls good (hr_of_step hst) (by rw [hl]; exact .one hu) hc

/-- a world for the witness -/
noncomputable def laidW (os : Os) : World := World.holding Try.prog os ⟨#[], #[.slice none 0 0], []⟩
theorem laid_met (os : Os) : laidMetH Try.prog Rows.worldDecodesRow.laid ((laidW os).forCall (fun _ _ => 0) ⟨#[], #[.slice none 0 0], []⟩).memory :=
  laidMet_of_run' 8 (by kernel_rfl) (by kernel_rfl)
theorem reads (os : Os) {H : Type} (enc : TypeId × Value → H) : ∃ places, DataW.whole enc Try.prog ((laidW os).forCall (fun _ _ => 0) ⟨#[], #[.slice none 0 0], []⟩).memory Try.f3.params.toList Rows.worldDecodesSpec.vars false (#[.slice none 0 0] : Array Value).toList 8 = some ([.nil], [], places) :=
  ⟨[], by kernel_rfl⟩

theorem lifted (os : Os) (started : os.Started) (H : Type) (enc : TypeId × Value → H) (F : Stop.Interp) :
    ReturnsInHanded {} Try.checked os 3 .any ((OpenSpec.ofChange Rows.worldDecodesSpec).preRow enc Try.prog Try.f3 Rows.worldDecodesRow.domain false Rows.worldDecodesRow.laid) (((OpenSpec.ofChange Rows.worldDecodesSpec).at F).post enc Try.prog Try.f3 false true false false) := by
  obtain ⟨places, hx⟩ := reads os enc
  refine returnsInHanded_of_row (C := Try.checked) (s := OpenSpec.ofChange Rows.worldDecodesSpec) own started (by kernel_rfl) Try.func3
    (witness_row_at (enc := enc) (C := Try.checked) false (laidW os) #[.slice none 0 0] rfl (by kernel_rfl) (by kernel_rfl) (by kernel_rfl)
      (OpenSpec.preRow_of_cond 8 hx (by kernel_rfl) (fun k hk => by cases hk) (by kernel_rfl) (laid_met os))) ?_
  intro W base args ds gs before hval hW _ _ _ hL _ _
  refine open_contract (s := Rows.worldDecodesSpec) laidOut read rfl (fun ds h => ?_) rfl Try.underlying4 hW (contract hval hW)
  rw [Try.params3] at h
  match ds, h with
  | [d0], _ => rfl

theorem said : Rows.WorldDecodesSaid :=
  OpenClaim.holds_of_cond 3 Try.f3 rfl rfl rfl rfl rfl rfl rfl ⟨rfl, rfl, rfl, rfl, rfl⟩ rfl rfl rfl rfl rfl (by kernel_rfl) Try.func3 (by kernel_rfl)
    (of_decide_eq_true (by kernel_rfl)) (by unfold Func.isWrapper; first | (rw [if_pos (by decide +kernel)]; kernel_rfl) | (rw [if_neg (by decide +kernel)]; exact ⟨rfl, rfl⟩))
    (fun os started H enc _ F => by rw [OpenClaim.pre_eq_preRow]; exact lifted os started H enc F)
end Go.Proofs.Ytkfheegmlgfdoaa.worldDecodes
