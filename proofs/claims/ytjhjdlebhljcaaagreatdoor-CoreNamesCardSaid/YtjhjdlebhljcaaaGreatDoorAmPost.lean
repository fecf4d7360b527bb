/- FROM A RUN TO A ROW's 'post'. -/
import Derived.Test.YtjhjdlebhljcaaaGreatDoorAmClosed
import Derived.WalkKit
import Derived.ProofKit
import Derived.OpenShut
namespace Go.Am
open Go.ChangeShapes Go.WideShapes Go.ChangeAt Go.RowKit
set_option linter.unusedVariables false

section
variable {H : Type} {enc : TypeId × Value → H} {P : Program}
/-- a call that leaves all old memory as it was -/
theorem post_of_below {f : Func} {s : ChangeSpec} {apart fresh handsOn again : Bool} {W W' : World} {args : Array Value} {v : Value} {ds gs : List (DataW H)} {before pa pv : List MemPlace}
    (hW : DataW.Whole enc P f.params.toList s.vars apart W args.toList ds gs before)
    (hres : ∀ (b : Nat) (sp : Nat → Bool) (hd : Bool), DataW.TrodAll enc P W' b sp hd f.resultTypes.toList (v.resultList f.resultTypes.size) (s.fn H (ds ++ gs)).results [])
    (hargs : ∀ sp : Nat → Bool, (∀ p ∈ before, sp p.block = true) → DataW.TrodAll enc P W' 0 sp true f.params.toList args.toList (s.fn H (ds ++ gs)).args pa)
    (hvars : ∀ sp : Nat → Bool, (∀ p ∈ before, sp p.block = true) → DataW.TrodVars enc P W' sp s.vars (s.fn H (ds ++ gs)).vars pv)
    (hps : before = pa ++ pv) (hb : Below W.heap.size W W')
    (hok : ∀ (j : Nat) (t : TypeId) (r : Value), f.resultTypes[j]? = some t → (v.resultList f.resultTypes.size)[j]? = some r → Value.okWide P W' .any 0 t r) :
    s.post enc P f apart fresh handsOn again W args v W' := by
  have hlt : ∀ p ∈ before, p.block < W.heap.size := hW.lt
  have hold : ∀ p ∈ before, (fun b => decide (b < W.heap.size)) p.block = true := fun p hp => by simpa using hlt p hp
  refine ⟨ds, gs, before, [], pa, pv, hW, hres _ _ _, hargs _ hold, hvars _ hold, hb.frame _, fun _ => ?_⟩
  obtain ⟨_, _, _, _, _, hz, hn⟩ := hW
  refine ⟨hok, _, _, ([] ++ pa) ++ pv, ⟨[] ++ pa, pv, trodAll_append (hargs _ (fun _ _ => rfl)) (hres _ _ _), hvars _ (fun _ _ => rfl), rfl, ?_, ?_⟩, ?_⟩
  · intro b off hp
    have hp' : MemPlace.cell b off ∈ before := by rw [hps]; simpa using hp
    rw [hb.frozen (p := ⟨b, off, none⟩) (hlt _ hp')]
    exact hz b off hp'
  · intro ha
    have := hn ha
    rw [hps] at this
    simpa using this
  · intro p hp _
    rw [hps]
    simpa using hp

/-- a law without parameters that answers true -/
theorem closed_contract {f : Nat} {fn : Func} {s : ChangeSpec} {tb : TypeId} (hparams : fn.params = #[]) (hsv : s.vars = []) (hfn : s.fn H [] = { results := [.lit (.bool true)], args := [] }) (hrt : fn.resultTypes = #[tb]) (htb : P.underlying tb = some .bool)
    {laid : List (String × DataW Unit)} (hno : (laid.filter fun x => x.2.handleName?.isSome) = []) {W : World} (hrun : laidMet P laid W → Calls P f #[] W fun e w' => e = .returned (.bool true) ∧ Below W.heap.size W w')
    {args : Array Value} {ds gs : List (DataW H)} {before : List MemPlace} {apart fresh handsOn again : Bool}
    (hW : DataW.Whole enc P fn.params.toList s.vars apart W args.toList ds gs before) (hL : laidMetH P laid W) :
    Calls P f args W fun e W' => ∃ v, e = .returned v ∧ s.post enc P fn apart fresh handsOn again W args v W' := by
  have hW' := hW
  obtain ⟨p, q, hA, hV, rfl, hfz, hnd⟩ := hW
  rw [hparams] at hA
  rw [hsv] at hV
  obtain ⟨hargs, rfl, rfl⟩ := trodAll_nil hA
  obtain rfl : args = #[] := by cases args; simp_all
  obtain ⟨rfl, rfl⟩ := trodVars_none hV
  have hm : laidMet P laid W := by
    unfold laidMetH at hL
    rw [hno] at hL
    exact hL
  refine (hrun hm).mono fun e W' ⟨he, hg⟩ => ?_
  subst he
  refine ⟨_, rfl, post_of_below (pa := []) (pv := []) hW' (fun _ _ _ => ?_) (fun _ _ => ?_) (fun _ _ => ?_) rfl hg ?_⟩
  · rw [hrt, show ([] : List (DataW H)) ++ [] = [] from rfl, hfn]; exact trodAll_cons_mk (shut_bool htb _) trodAll_mk0
  · rw [hparams, show ([] : List (DataW H)) ++ [] = [] from rfl, hfn]; exact trodAll_mk0
  · rw [hsv, show ([] : List (DataW H)) ++ [] = [] from rfl, hfn]; rfl
  · exact ok_one hrt rfl (okWide_bool_mk htb _)
end

theorem pgood {P : Program} (h : (P.funcs.all fun fn => fn.name != "runtime.NumGoroutine") = true) (h' : P.follows .mixedOrders = true) : PGood P := by
  refine ⟨fun f fn hf e => ?_, h'⟩
  obtain ⟨hlt, rfl⟩ := Array.getElem?_eq_some_iff.1 hf
  have := (Array.all_eq_true.1 h) f hlt
  simp [e] at this

/-- a world with the listed variables (those without references) as listed -/
noncomputable def pinW (P : Program) (w : World) (xs : List (String × DataW Unit)) : World :=
  { w with heap := xs.foldl (fun h x => match varT P x with
    | some (g, t) => match flatA P 30 t x.2 with
      | some l => h.modify g fun
        | .cells _ t fz => .cells (concL θ0 l).toArray t fz
        | o => o
      | none => h
    | none => h) w.heap }
end Go.Am
