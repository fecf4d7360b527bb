/- LrQ4: LpK LpL LpQ LpM LpN LpO. -/
import Derived.Test.YtbimikjajohflaaDoorAmQLrQ3
set_option linter.unusedVariables false
set_option linter.unusedSimpArgs false
set_option linter.unusedSectionVars false
set_option maxRecDepth 100000
namespace Go.Am
open Lang Go.Proofs
variable {M:Mac} [MK M]
theorem Seg.szle {ts:List Nd} {H0:AHeap} {tv:AV} (hc:WC H0 tv ts) {b:Nat} {x:It} (h:Seg ts b (x.enc b)):x.sz<=2000:=by
 have:=h.lt;have:=hc.len;omega
end Go.Am
namespace Go.Am
open Lang Go.Proofs
variable {M:Mac} [MK M]
abbrev lt64 (l:List Nd):Prop:=∀ y ∈ l,y.n<18446744073709551616
theorem lt64.app {a b:List Nd} (h:lt64 (a++b)):lt64 a/\lt64 b:=⟨fun y hy=>h y (by simp [hy]),fun y hy=>h y (by simp [hy])⟩
theorem Ex.small_of:∀ (x:Ex) (b:Nat),lt64 (x.enc b)->x.small
 | .num n,b,h=>by have:=h ⟨1,n,[]⟩ (by simp [Ex.enc]);simp only at this;show n<18446744073709551616;omega
 | .var v,b,h=>trivial
 | .load a,b,h=>Ex.small_of a b h.app.1
 | .bin o a c,b,h=>⟨Ex.small_of a b h.app.1,Ex.small_of c _ h.app.2.app.1⟩
theorem Cn.small_of (c:Cn) (b:Nat) (h:lt64 (c.enc b)):c.small:=⟨Ex.small_of c.a b h.app.1,Ex.small_of c.b _ h.app.2.app.1⟩
mutual
theorem St.small_of:∀ (x:Lang.St) (b:Nat),lt64 (x.enc b)->x.small
 | .set v a,b,h=>Ex.small_of a b h.app.1
 | .store a c,b,h=>⟨Ex.small_of a b h.app.1,Ex.small_of c _ h.app.2.app.1⟩
 | .ite c l,b,h=>⟨Cn.small_of c b h.app.1,Ls.small_of l _ h.app.2.app.1⟩
 | .ites c l e,b,h=>⟨Cn.small_of c b h.app.1,Ls.small_of l _ h.app.2.app.1,Ls.small_of e _ h.app.2.app.2.app.2.app.1⟩
 | .loop c l,b,h=>⟨Cn.small_of c b h.app.1,Ls.small_of l _ h.app.2.app.1⟩
 | .atom l,b,h=>Ls.small_of l _ h.app.1
 | .halt,b,h=>trivial
theorem Ls.small_of:∀ (x:Ls) (b:Nat),lt64 (x.enc b)->x.small
 | .nil,b,h=>trivial
 | .cons s l,b,h=>⟨St.small_of s b h.app.1,Ls.small_of l _ h.app.2⟩
end
end Go.Am
namespace Go.Am
open Lang Go.Proofs
variable {M:Mac} [MK M]
structure NdI (H:AHeap) (tv:AV) (t:List Nd):Prop where
 nd:Nds H tv t
 kids:∀ x ∈ t,x.kids.length*8<=140737488355328
 lo:∀ x ∈ t,0<=x.n
 hi:∀ x ∈ t,x.n<18446744073709551616
 pow:PowT H
 pl:yu<H.next
theorem NdI.em {H H':AHeap} {tv:AV} {t:List Nd} (h:NdI H tv t) (f:Fr Em H H'):NdI H' tv t:=⟨h.nd.em f,h.kids,h.lo,h.hi,(f.cells h.pl id).trans h.pow,qj h.pl f.next⟩
end Go.Am
namespace Go.Am
open Lang Go.Proofs
variable {M:Mac} [MK M]
end Go.Am
namespace Go.Am
open Lang Go.Proofs
variable {M:Mac} [MK M]
structure RdC (H0:AHeap) (tv:AV) (ts:List Nd):Prop where
 nd:Nds H0 tv ts
 len:ts.length<=2000
theorem RdC.szle {ts:List Nd} {H0:AHeap} {tv:AV} (hc:RdC H0 tv ts) {b:Nat} {x:It} (h:Seg ts b (x.enc b)):x.sz<=2000:=by
 have:=h.lt;have:=hc.len;omega
end Go.Am
namespace Go.Am
open Lang Go.Proofs
variable {M:Mac} [MK M]
theorem qyf {H:AHeap} {v1 v2:AV} {t:List Nd} (h1:Nds H v1 t) (h2:Nds H v2 t) (hl:t.length<=140737488355328) (hz:∀ x ∈ t,x.kids.length*8<=140737488355328):y9 M qbp [v1,v2] H fun v H'=>v=.bool true/\H'=H:=by
 refine qtx ?_
 obtain ⟨w0,w2,w10,w52,w15,w21,w51,w31,w35,w41,w50⟩:=qty M ⟨none,qbp⟩
 have t0:=kx (show ((t.length:Nat):Int)=((t.length:Nat):Int) from rfl)
 simp only [↓qi,qy,reduceIte,Nat.reduceEqDiff,w0,w2,w10,h1.len,h2.len,t0]
 refine LOOP3.intro (fun k E' H'=>∃ j,H'=H/\E'=[(5,.int .i64 (j:Nat)),(0,v1),(1,v2)]/\k=t.length-j/\j<=t.length) ?_ ?_
 ·exact ⟨_,_,⟨0,rfl,rfl,rfl,by omega⟩,by simp only [↓qi,qy,reduceIte,Nat.reduceEqDiff]⟩
 rintro k E' H' ⟨j,rfl,rfl,rfl,hj⟩
 rcases j2 j t.length with hlt|hge
 ·have q1:(j:Int)<(t.length:Nat):=by omega
  obtain ⟨x,hx⟩:∃ x,t[j]? = some x:=⟨t[j],by simp [hlt]⟩
  obtain ⟨a,ha,_,a1,_,a3,a4,a5⟩:=h1.get hx
  obtain ⟨b,hb,_,b1,_,b3,b4,b5⟩:=h2.get hx
  have t1:=kx (show x.k=x.k from rfl)
  have t2:=kx (show x.n=x.n from rfl)
  have t3:=kx (show ((x.kids.length:Nat):Int)=((x.kids.length:Nat):Int) from rfl)
  have wj:wrapI .i64 ((j:Int)+1)=((j+1:Nat):Int):=by rw [kr (by omega) (by omega)];omega
  have hkz:=hz x (jv hx)
  simp only [↓qi,qy,reduceIte,Nat.reduceEqDiff,w15,w21,w31,h1.len,q1,a1,a3,a4,a5,b1,b3,b4,b5,ha.len,hb.len,t1,t2,t3]
  refine LOOP3.intro (fun k E' H_1=>∃ i,H_1=H'/\E'=[(6,.int .i64 (i:Nat)),(5,.int .i64 (j:Nat)),(0,v1),(1,v2)]/\k=x.kids.length-i/\i<=x.kids.length) ?_ ?_
  ·exact ⟨_,_,⟨0,rfl,rfl,rfl,by omega⟩,by simp only [↓qi,qy,reduceIte,Nat.reduceEqDiff]⟩
  rintro k E' H_1 ⟨i,rfl,rfl,rfl,hi⟩
  rcases j2 i x.kids.length with hil|hig
  ·have q2:(i:Int)<(x.kids.length:Nat):=by omega
   obtain ⟨y,hy⟩:∃ y,x.kids[i]? = some y:=⟨x.kids[i],by simp [hil]⟩
   obtain ⟨c1,c2⟩:=ha.getI hy
   obtain ⟨d1,d2⟩:=hb.getI hy
   have t4:=kx (show y=y from rfl)
   have wi:wrapI .i64 ((i:Int)+1)=((i+1:Nat):Int):=by rw [kr (by omega) (by omega)];omega
   simp only [↓qi,qy,reduceIte,Nat.reduceEqDiff,w35,w41,w50,a1,a5,b1,b5,ha.len,q2,c1,c2,d1,d2,t4,wi]
   exact ⟨_,_,⟨i+1,rfl,rfl,by omega⟩,by simp only [↓qi,qy,reduceIte,Nat.reduceEqDiff],by omega⟩
  ·have hie:i=x.kids.length:=by omega
   subst hie
   have q2:¬ ((x.kids.length:Nat):Int)<(x.kids.length:Nat):=by omega
   simp only [↓qi,qy,reduceIte,Nat.reduceEqDiff,w35,w51,a1,a5,ha.len,q2,wj]
   exact ⟨_,_,⟨j+1,rfl,rfl,by omega⟩,by simp only [↓qi,qy,reduceIte,Nat.reduceEqDiff],by omega⟩
 ·have hje:j=t.length:=by omega
  subst hje
  have q1:¬ ((t.length:Nat):Int)<(t.length:Nat):=by omega
  simp only [↓qi,qy,reduceIte,Nat.reduceEqDiff,w15,w52,h1.len,q1]
end Go.Am
