/- FROM THE MACHINE's ANSWER TO THE KIT's 'Calls'. -/
import Derived.Test.YtjhjdlebhljcaaaGreatDoorAmCalls
import Derived.Test.YtjhjdlebhljcaaaGreatDoorAmDraw4
import Derived.Below
namespace Go.Am
open Go.RowKit
set_option linter.unusedVariables false

/-- no object of the machine's is its own (all are given) -/
def Given (H : AHeap) : Prop := ∀ b o, H.get b = some o → own o = false

theorem Grow.below {D : Nat → Prop} {H H' : AHeap} {θ θ' : Th} {w w' : World} (g : Grow D H θ w H' θ' w') (hg : Given H) : Below w.heap.size w w' :=
  ⟨g.os, g.tape, g.output, g.size, fun k hk => g.keep k hk fun b o hb ho => by rw [hg b o hb] at ho; cases ho⟩

variable {P : Program}

/-- WHAT THE MACHINE ANSWERS THE PROGRAM ANSWERS TOO. -/
theorem calls_of_acall (hP : PGood P) {D : Nat → Prop} {θ : Th} {base : Nat} {H H' : AHeap} {w : World} {f : Nat} {vs : List AV} {args : Array Value} {n : Nat} {v : AV} {up : Option Chain}
    (hh : HR P base D θ H w) (hv : VRL D θ vs args.toList) (hf : ∀ b, D b → b < H.next) (hr : acall (cProg P) n f vs none H = some (.ret v, up, H')) :
    Calls P f args w fun e w' => ∃ c θ', e = .returned c ∧ VR (Up D H.next H'.next) θ' v c ∧ HR P base (Up D H.next H'.next) θ' H' w' ∧ Grow D H θ w H' θ' w' := by
  intro cs
  obtain ⟨_, θ', w', cs', fr, e', g1, g2, g3, g4, g5, g6, g7, g8, g9, g10⟩ :=
    acall_sound hP (fun rt hAP hc hr' hcm hrm => draw_sound hP hAP hc hr' hcm hrm) n D θ H w f vs args none H' (.ret v) up .normal cs hh hv rfl hr
      (fun b h1 h2 hb => by have := hf b hb; omega)
  have hcs : cs' = cs := g9
  subst hcs
  cases e' with
  | returned c => exact ⟨.returned c, w', fr, ⟨c, θ', rfl, g5, g6, g7⟩, g1, g3, going_leaving g4 g2⟩
  | panicked _ => exact g5.elim
  | outgrown => exact g5.elim
end Go.Am
