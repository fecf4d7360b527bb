/- LrQ3: NmA NmB LpH LpI LpJ. -/
import Derived.Test.YtbimikjajohflaaDoorAmQCodeQ
import Derived.Test.YtbimikjajohflaaDoorAmQLrQ0
import Derived.Test.YtbimikjajohflaaDoorAmQLrQ2
set_option linter.unusedVariables false
set_option linter.unusedSimpArgs false
set_option maxRecDepth 100000
set_option linter.unusedSectionVars false
namespace Go.Am
open Lang (dec)
variable {M:Mac} [MK M]
theorem st1 {H:AHeap} {b e:Nat} {c:List AV} {p:Nat} {k:IntKind} {v:Int} (h:p<c.length):Op.store 1 [.ptr b p,.int k v] (H.set b (OR c e))=some (.undef,H.set b (OR (c.set p (.int k v)) e)):=by
 rw [qc7 (o:=p) (n:=1) (v:=.int k v) (yk ..) rfl (by omega) rfl,qzy]
 congr 3
 rw [y8,xv h]
 simp [AV.cells]
theorem ix {b o n c i:Nat} {k:IntKind} (h:i<n):Op.indexSl 1 [.slice b o n c,.int k (i:Int)]=some (.ptr b (o+i)):=by
 have h1:=qfh h
 simp [Op.indexSl,lenV,qfx (z:=(i:Int)) rfl h,elemAt,h1]
def Dg (c:List AV) (o k d n:Nat):Prop:=c.length=24 /\ ∀ j,k<=j->j<=d->c[o+j]? = some (.int .u8 ((dig n (d-j):Nat):Int))
theorem Dg.step {c:List AV} {o k d n v:Nat} (h:Dg c o (k+1) d n) (hv:v=dig n (d-k)) (ho:o+k<24):Dg (c.set (o+k) (.int .u8 (v:Int))) o k d n:=by
 refine ⟨by rw [we];exact h.1,fun j h1 h2=>?_⟩
 have hl:=h.1
 rw [List.getElem?_set]
 by_cases e:k=j
 ·subst e;rw [xv rfl,xv (by omega),hv]
 ·rw [qx (by omega),h.2 j (by omega) h2]
theorem Dg.steps {c:List AV} {o k d n v:Nat} (h:Dg c o (k+1) d n) (hv:v=dig n (d-k)) (ho:o+k<24) {i:Nat} (hi:i=o+k):Dg (c.set i (.int .u8 (v:Int))) o k d n:=by subst hi;exact h.step hv ho
structure Tl (H0 H:AHeap) (b o d e:Nat) (n r u:Nat) (c:List AV):Prop where
 fu:u=n / 10 ^ (d+1-r)
 lt:u<10 ^ r
 le:r<=d+1
 od:o+d+1<=24
 get:H.get b=some (OR c e)
 st:∀ c2,H.set b (OR c2 e)=H0.set b (OR c2 e)
 dg:Dg c o r d n
theorem Tl.dig {H0 H:AHeap} {b o d e n r u:Nat} {c:List AV} (h:Tl H0 H b o d e n r u c) (i:Nat):Am.dig n (d+1-r+i)=48+u / 10 ^ i % 10:=by rw [<-dig_div,<-h.fu];rfl
theorem Tl.next {H0 H:AHeap} {b o d e n r u k:Nat} {c c2:List AV} (h:Tl H0 H b o d e n r u c) (hk:k<=r) (hd:Dg c2 o (r-k) d n):Tl H0 (H0.set b (OR c2 e)) b o d e n (r-k) (u / 10 ^ k) c2:=by
 obtain ⟨h1,h2,h3,h4,h5,h6,h7⟩:=h
 refine ⟨?_,?_,by omega,h4,yk ..,fun c2=>qzy ..,hd⟩
 ·rw [h1,show d+1-(r-k)=d+1-r+k by omega,Nat.pow_add,Nat.div_div_eq_div_mul]
 ·have e1:10 ^ r=10 ^ (r-k)*10 ^ k:=by rw [<-Nat.pow_add];congr 1;omega
  rw [e1] at h2;exact Nat.div_lt_of_lt_mul (by rw [Nat.mul_comm];exact h2)
end Go.Am
namespace Go.Am
open Lang (dec)
variable {M:Mac} [MK M]
def PowT (H:AHeap):Prop:=H.cellsAt yu=some ((List.range 20).map fun k:Nat=>AV.int .u64 ((10 ^ k:Nat):Int))
theorem PowT.at {H:AHeap} (h:PowT H) {k:Nat} (hk:k<=19):Op.indexArr 20 1 [.ptr yu 0,.int .i64 (k:Int)]=some (.ptr yu k)/\Op.load1 [.ptr yu k] H=some (.int .u64 ((10 ^ k:Nat):Int)):=by
 have e:0+k*1=k:=by omega
 refine ⟨by rw [qxk rfl (show k<20 by omega),e],?_⟩
 rw [vy h,x5,List.getElem?_range (by omega)];rfl
end Go.Am
namespace Go.Am
open Lang Go.Proofs
variable {M:Mac} [MK M]
section
variable {q:Bool} {T:Nat} {H0 H H':AHeap} {b:Nat} {xs:List UInt8} {rest:List AV}
theorem BE.setOff (h:BE q T H0 H b xs rest) {c:Nat} (hc:¬ BOn H b c) (hl:H0.next<=c) (o:AObj):BE q T H0 (H.set c o) b xs rest /\ ∀ x,BOn (H.set c o) b x ↔ BOn H b x:=by
 obtain ⟨⟨p,buf,h1,h2,h3,h4,h5⟩,lo,hi,ty⟩:=h
 rw [BOn.iff h1] at hc
 have g:(H.set c o).get b=some (OR (p::buf::rest) T):=by rw [ql5 (fun k=>hc (.inl k))];exact h1
 exact ⟨⟨⟨p,buf,g,h2,h3.setOff hl (fun k=>hc (.inr k)) _,h4,h5⟩,lo,hi,ty⟩,fun x=>by rw [BOn.iff g,BOn.iff h1]⟩
end
abbrev WS (H0 H:AHeap) (b:Nat) (tv:AV) (xs:List UInt8):Prop:=BE false qq1 H0 H b xs [tv,.int .i64 (scan xs (0,0)).1,.int .i64 (scan xs (0,0)).2]
theorem max2 (a b:Int):Op.minmax true [.int .i64 a,.int .i64 b]=some (.int .i64 (max a b)):=by
 simp only [Op.minmax,Op.minmaxGo,qh,qq,qio]
 by_cases q:a<b
 ·rw [qc3 q,qq];congr 2;omega
 ·rw [qbg q,xl];congr 2;omega
def ascii (s:List UInt8):Prop:=∀ c ∈ s,c.toNat<128
end Go.Am
namespace Go.Am
open Lang Go.Proofs
variable {M:Mac} [MK M]
instance (s:List UInt8):Decidable (ascii s):=inferInstanceAs (Decidable (∀ c ∈ s,c.toNat<128))
structure WC (H0:AHeap) (tv:AV) (ts:List Nd):Prop where
 nd:Nds H0 tv ts
 pow:PowT H0
 pl:yu<H0.next
 len:ts.length<=2000
structure Loc (H:AHeap) (b c:Nat) (r:List AV) (e:Nat):Prop where
 get:H.get c=some (OR r e)
 off:¬ BOn H b c
 lt:c<H.next
theorem Loc.step {H H':AHeap} {b c e:Nat} {r:List AV} (h:Loc H b c r e) (k:BK b H H'):Loc H' b c r e:=by
 obtain ⟨q1,q2⟩:=k.2 c h.lt h.off
 exact ⟨q1.trans h.get,q2,qj h.lt k.1⟩
theorem Loc.ld {H:AHeap} {b c e:Nat} {r:List AV} (h:Loc H b c r e) (o:Nat):Op.load1 [.ptr c o] H=r[o]?:=vy (kh h.get) o
theorem WS.tv {H0 H:AHeap} {b:Nat} {tv:AV} {xs:List UInt8} (h:WS H0 H b tv xs):Op.load1 [.ptr b 2] H=some tv:=by
 obtain ⟨⟨p,buf,h1,_⟩,_⟩:=h
 rw [vy (kh h1)];rfl
abbrev big:Nat:=10000000000
end Go.Am
namespace Go.Am
open Lang Go.Proofs
variable {M:Mac} [MK M]
def sts:Ls->List Lang.St
 | .nil=>[]
 | .cons s l=>s::sts l
end Go.Am
