/- LrQ1: LpA LpB LpC LpD LpE. -/
import Derived.Test.YtbimikjajohflaaDoorAmQCodeQ
import Derived.Test.YtbimikjajohflaaDoorAmQLrQ0
set_option linter.unusedVariables false
set_option linter.unusedSimpArgs false
set_option linter.unusedSectionVars false
set_option maxRecDepth 100000
namespace Go.Am
open Lang Go.Proofs
variable {M:Mac} [MK M]
end Go.Am
namespace Go.Am
open Lang Go.Proofs
variable {M:Mac} [MK M]
end Go.Am
namespace Go.Am
open Lang Go.Proofs
variable {M:Mac} [MK M]
def ShapeQ (H:AHeap) (o:Option (List Int)) (v:AV) (H':AHeap):Prop:=Fr Em H H'/\match o with
 | none=>v=.tuple [.nils,.bool false]
 | some w=>∃ u,v=.tuple [u,.bool true]/\SlT encI 1 H' u w /\ ∀ b,OnS u b->H.next<=b
theorem ShapeQ.bad {H H':AHeap} (f:Fr Em H H'):ShapeQ H none (.tuple [.nils,.bool false]) H':=⟨f,rfl⟩
end Go.Am
namespace Go.Am
open Lang Go.Proofs
variable {M:Mac} [MK M]
def bls (fl:List Bool):List AV:=fl.map AV.bool
theorem bls_len (fl:List Bool):(bls fl).length=fl.length:=by simp [bls]
structure MayS (H Hc:AHeap) (tv:AV) (t:List Nd) (B:Nat) (sv:AV) (st:List Nat) (fl:List Bool):Prop where
 nd:Nds H tv t
 stk:Stk T_int H Hc sv st
 row:Hc.get B=some (OR (bls fl) T_bool)
 lo:H.next<=B
 hi:B<Hc.next
 nb:¬ OnS sv B
section
variable {H Hc Hd:AHeap} {tv:AV} {t:List Nd} {B:Nat} {sv:AV} {st:List Nat} {fl:List Bool}
theorem MayS.em (h:MayS H Hc tv t B sv st fl) (f:Fr Em Hc Hd):MayS H Hd tv t B sv st fl :=
 ⟨h.nd,h.stk.em f,by rw [f.keep B h.hi id,h.row],h.lo,qj h.hi f.next,h.nb⟩
theorem MayS.nds (h:MayS H Hc tv t B sv st fl):Nds Hc tv t:=h.nd.em h.stk.fr
theorem MayS.ix (h:MayS H Hc tv t B sv st fl) (n:Nat) {j:Nat} (hj:j<n) (k:IntKind):Op.indexSl 1 [.slice B 0 n n,.int k (j:Int)]=some (.ptr B j):=by
 simp only [Op.indexSl,lenV,qh,qfx rfl hj,elemAt,qfh hj,qq];simp
theorem MayS.ld (h:MayS H Hc tv t B sv st fl) {j:Nat} {q:Bool} (hq:fl[j]? = some q):Op.load1 [.ptr B j] Hc=some (.bool q):=by
 rw [vy (kh h.row),bls,x5,hq];rfl
theorem MayS.put (h:MayS H Hc tv t B sv st fl) {j:Nat} (hj:j<fl.length) (q:Bool):∃ Hd,Op.store 1 [.ptr B j,.bool q] Hc=some (.undef,Hd)/\MayS H Hd tv t B sv st (fl.set j q)/\Fr (On B) Hc Hd:=by
 have e:(bls fl).take j++(AV.bool q).cells++(bls fl).drop (j+1)=bls (fl.set j q):=by
  show (bls fl).take j ++ [AV.bool q]++(bls fl).drop (j+1)=_
  rw [bls,bls,List.map_set,y8,xv (by simpa using hj)]
  simp
 have hs:=qc7 h.row (o:=j) (n:=1) (v:=.bool q) rfl (by rw [bls_len];omega) rfl
 rw [e] at hs
 have hf:Fr (On B) Hc (Hc.set B (OR (bls (fl.set j q)) T_bool)):=(Fr.refl Hc).set (W:=On B) (.inl rfl) _
 exact ⟨_,hs,⟨h.nd,h.stk.frW hf (h.stk.fr.set (.inr h.lo) _) fun b hb q=>h.nb (by rw [<-q];exact hb),yk ..,h.lo,h.hi,h.nb⟩,hf⟩
end
end Go.Am
namespace Go.Am
open Lang Go.Proofs
variable {M:Mac} [MK M]
end Go.Am
