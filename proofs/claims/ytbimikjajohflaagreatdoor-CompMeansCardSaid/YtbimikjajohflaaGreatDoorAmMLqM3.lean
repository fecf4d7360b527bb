/- LqM3: NmA NmB LpH LpI LpJ. -/
import Derived.Test.YtbimikjajohflaaGreatDoorAmMCodeM
import Derived.Test.YtbimikjajohflaaGreatDoorAmMLqM0
import Derived.Test.YtbimikjajohflaaGreatDoorAmMLqM1
import Derived.Test.YtbimikjajohflaaGreatDoorAmMLqM2
set_option linter.unusedVariables false
set_option linter.unusedSimpArgs false
set_option maxRecDepth 100000
set_option linter.unusedSectionVars false
open Nat (reduceEqDiff)
namespace Go.Am
open Lang (dec)
variable {M:aO} [MK M]
theorem MP {k:IntKind} {i:Nat} (h:i<100):Op.aY [.str mE,.int k ((i*2:Nat):Int)]=some (.int .u8 ((48+i / 10:Nat):Int)):=by
 have key:∀ i:Fin 100,mE[i.1*2]? = some (UInt8.ofNat (48+i.1 / 10)):=by decide +kernel
 rw [M9 rfl (key ⟨i,h⟩),Tr.ofNat_lt (by dsimp;omega)]
theorem Oy {k:IntKind} {i:Nat} (h:i<100):Op.aY [.str mE,.int k ((i*2+1:Nat):Int)]=some (.int .u8 ((48+i % 10:Nat):Int)):=by
 have key:∀ i:Fin 100,mE[i.1*2+1]? = some (UInt8.ofNat (48+i.1 % 10)):=by decide +kernel
 rw [M9 rfl (key ⟨i,h⟩),Tr.ofNat_lt (by dsimp;omega)]
theorem c8 {H:AHeap} {b e:Nat} {c:List AV} {p:Nat} {k:IntKind} {v:Int} (h:p<c.length):Op.store 1 [.ptr b p,.int k v] (H.set b (OR c e))=some (.undef,H.set b (OR (c.set p (.int k v)) e)):=by
 rw [y9 (o:=p) (n:=1) (v:=.int k v) (xd ..) rfl (by omega) rfl,Lp];congr 3;rw [ym,qk h];simp [AV.cells]
theorem LS {H:AHeap} {b e:Nat} {c:List AV} {p:Nat} {k:IntKind} {v:Int} (hg:H.get b=some (OR c e)) (h:p<c.length):Op.store 1 [.ptr b p,.int k v] H=some (.undef,H.set b (OR (c.set p (.int k v)) e)):=by
 rw [y9 (o:=p) (n:=1) (v:=.int k v) hg rfl (by omega) rfl];congr 3;rw [ym,qk h];simp [AV.cells]
theorem ix {b o n c i:Nat} {k:IntKind} (h:i<n):Op.aJ 1 [.slice b o n c,.int k (i:Int)]=some (.ptr b (o+i)):=by
 have h1:=xP h;simp [Op.aJ,dE,xZ (z:=(i:Int)) rfl h,elemAt,h1]
def Dg (c:List AV) (o k d n:Nat):Prop:=c.length=24 /\ ∀ j,k<=j->j<=d->c[o+j]? = some (.int .u8 ((kK n (d-j):Nat):Int))
theorem Dg.step {c:List AV} {o k d n v:Nat} (h:Dg c o (k+1) d n) (hv:v=kK n (d-k)) (ho:o+k<24):Dg (c.set (o+k) (.int .u8 (v:Int))) o k d n:=by
 refine ⟨by rw [xm];exact h.1,λ j h1 h2=>?_⟩;have hl:=h.1;rw [List.getElem?_set]
 by_cases e:k=j
 ·subst e;rw [qk rfl,qk (by omega),hv]
 ·rw [qc (by omega),h.2 j (by omega) h2]
theorem Dg.steps {c:List AV} {o k d n v:Nat} (h:Dg c o (k+1) d n) (hv:v=kK n (d-k)) (ho:o+k<24) {i:Nat} (hi:i=o+k):Dg (c.set i (.int .u8 (v:Int))) o k d n:=by subst hi;exact h.step hv ho
structure Tl (H0 H:AHeap) (b o d e:Nat) (n r u:Nat) (c:List AV):Prop where
 fu:u=n / 10 ^ (d+1-r)
 lt:u<10 ^ r
 le:r<=d+1
 od:o+d+1<=24
 get:H.get b=some (OR c e)
 st:∀ c2,H.set b (OR c2 e)=H0.set b (OR c2 e)
 dg:Dg c o r d n
def LU (H0:AHeap) (b o d e n:Nat) (v:AV) (H':AHeap):Prop:=∃ c',H'=H0.set b (OR c' e)/\Dg c' o 0 d n
theorem Tl.kK {H0 H:AHeap} {b o d e n r u:Nat} {c:List AV} (h:Tl H0 H b o d e n r u c) (i:Nat):Am.kK n (d+1-r+i)=48+u / 10 ^ i % 10:=by rw [<-xde,<-h.fu];rfl
theorem Tl.next {H0 H:AHeap} {b o d e n r u k:Nat} {c c2:List AV} (h:Tl H0 H b o d e n r u c) (hk:k<=r) (hd:Dg c2 o (r-k) d n):Tl H0 (H0.set b (OR c2 e)) b o d e n (r-k) (u / 10 ^ k) c2:=by
 obtain ⟨h1,h2,h3,h4,h5,h6,h7⟩:=h;refine ⟨?_,?_,by omega,h4,xd ..,λ c2=>Lp ..,hd⟩
 ·rw [h1,show d+1-(r-k)=d+1-r+k by omega,zN,FI]
 ·have e1:10 ^ r=10 ^ (r-k)*10 ^ k:=by rw [<-zN];congr 1;omega
  rw [e1] at h2;exact Nat.div_lt_of_lt_mul (by rw [Nat.mul_comm];exact h2)
theorem Bi {H0 H:AHeap} {b o d cp e n r u:Nat} {c:List AV} {E:Env} {ctx:Ctx} (h:Tl H0 H b o d e n r u c) (hH:r=0 -> ∃ c',H=H0.set b (OR c' e)/\c'=c) (hr:r<2) (e0:lk E 0=some (.slice b o (d+1) cp)) (e4:lk E 4=some (.int .i64 (r:Nat))) (e12:lk E 12=some (.int .u32 (u:Nat))) :
 W M ctx (qj 61) true (aU M [] (rL (LU H0 b o d e n))) E [] H:=by
 have hcl:=h.dg.1;have hod:=h.od
 by_cases h1:r=0
 ·subst h1;obtain ⟨c',rfl,rfl⟩:=hH rfl;have e5:¬ (0:Int)<((0:Nat):Int):=by omega
  simp (disch:=first|omega|(simp only [xm];omega)) only [↓qh,qq,reduceIte,reduceEqDiff,jg,e4,e5];exact ⟨_,rfl,h.dg⟩
 ·have hr1:r=1:=by omega
  subst hr1;have e5:(0:Int)<((1:Nat):Int):=by omega
  have hu:u<10:=by simpa using h.lt
  have i0:=ix (b:=b) (o:=o) (n:=d+1) (c:=cp) (i:=0) (k:=.i64) (by omega);rw [show ((0:Nat):Int)=0 from rfl] at i0;simp (disch:=first|omega|(simp only [xm];omega)) only [↓qh,qq,reduceIte,reduceEqDiff,jg,e4,e5,e0,e12,PE,I9,i0,LS h.get,h.st];have g0:=h.kK 0;exact ⟨_,rfl,h.dg.steps (v:=48+u) (by rw [show d-0=d+1-1+0 by omega,g0];simp;omega) (by omega) rfl⟩
theorem Bp {H0 H:AHeap} {b o d cp e n r u:Nat} {c:List AV} {E:Env} {ctx:Ctx} (h:Tl H0 H b o d e n r u c) (hH:r=0 -> ∃ c',H=H0.set b (OR c' e)/\c'=c) (hr:r<4) (e0:lk E 0=some (.slice b o (d+1) cp)) (e4:lk E 4=some (.int .i64 (r:Nat))) (e12:lk E 12=some (.int .u32 (u:Nat))) :
 W M ctx (qj 49) true (aU M [] (rL (LU H0 b o d e n))) E [] H:=by
 obtain ⟨-,-,-,-,-,-,w49,-,-,-,-,-,-⟩:=jg M ctx;have hcl:=h.dg.1;have hod:=h.od;have hle:=h.le
 by_cases h1:2<=r
 ·have e5:(2:Int)<=(r:Int):=by omega
  have hu:u<10000:=qe h.lt (Nat.pow_le_pow_right (by decide) (show r<=4 by omega));have g0:=h.kK 0;have g1:=h.kK 1;simp only [Nat.reducePow] at g0 g1;have s1:=(show Dg c o (r-1+1) d n by rw [show r-1+1=r by omega];exact h.dg).steps (v:=48+u % 100 % 10) (by rw [show d-(r-1)=d+1-r+0 by omega,g0];omega) (by omega) (i:=o+(r-1)) rfl;have s2:=(show Dg _ o (r-2+1) d n by rw [show r-2+1=r-1 by omega];exact s1).steps (v:=48+u % 100 / 10) (by rw [show d-(r-2)=d+1-r+1 by omega,g1];omega) (by omega) (i:=o+(r-2)) rfl;simp (disch:=first|omega|(simp only [xm];omega)) only [↓qh,qq,reduceIte,reduceEqDiff,w49,e4,e5,e0,e12,wC,MX,N0,PJ,OW,pW,Int.reduceToNat,MP,Oy,ix,LS h.get,h.st,c8];exact Bi (cp:=cp) (h.next h1 s2) (λ _=>⟨_,rfl,rfl⟩) (by omega) (by simp only [↓qh,qq,reduceIte,reduceEqDiff,e0]) (by simp only [↓qh,qq,reduceIte,reduceEqDiff]) (by simp only [↓qh,qq,reduceIte,reduceEqDiff])
 ·have e5:¬ (2:Int)<=(r:Int):=by omega
  simp (disch:=first|omega|(simp only [xm];omega)) only [↓qh,qq,reduceIte,reduceEqDiff,w49,e4,e5];exact Bi h hH (by omega) e0 e4 e12
theorem JT {H0 H:AHeap} {b o d cp e n r u:Nat} {c:List AV} {E:Env} {ctx:Ctx} (h:Tl H0 H b o d e n r u c) (hH:r=0 -> ∃ c',H=H0.set b (OR c' e)/\c'=c) (hr:r<8) (e0:lk E 0=some (.slice b o (d+1) cp)) (e4:lk E 4=some (.int .i64 (r:Nat))) (e12:lk E 12=some (.int .u32 (u:Nat))) :
 W M ctx (qj 33) true (aU M [] (rL (LU H0 b o d e n))) E [] H:=by
 obtain ⟨-,-,-,-,w33,-,-,w39,-,-,w43,-,-⟩:=jg M ctx;have hcl:=h.dg.1;have hod:=h.od;have hle:=h.le
 by_cases h1:4<=r
 ·have e5:(4:Int)<=(r:Int):=by omega
  have hu:u<100000000:=qe h.lt (Nat.pow_le_pow_right (by decide) (show r<=8 by omega));have g0:=h.kK 0;have g1:=h.kK 1;have g2:=h.kK 2;have g3:=h.kK 3;simp only [Nat.reducePow] at g0 g1 g2 g3;have s1:=(show Dg c o (r-1+1) d n by rw [show r-1+1=r by omega];exact h.dg).steps (v:=48+u % 10000 % 100 % 10) (by rw [show d-(r-1)=d+1-r+0 by omega,g0];omega) (by omega) (i:=o+(r-1)) rfl;have s2:=(show Dg _ o (r-2+1) d n by rw [show r-2+1=r-1 by omega];exact s1).steps (v:=48+u % 10000 % 100 / 10) (by rw [show d-(r-2)=d+1-r+1 by omega,g1];omega) (by omega) (i:=o+(r-2)) rfl;have s3:=(show Dg _ o (r-3+1) d n by rw [show r-3+1=r-2 by omega];exact s2).steps (v:=48+u % 10000 / 100 % 10) (by rw [show d-(r-3)=d+1-r+2 by omega,g2];omega) (by omega) (i:=o+(r-3)) rfl;have s4:=(show Dg _ o (r-4+1) d n by rw [show r-4+1=r-3 by omega];exact s3).steps (v:=48+u % 10000 / 100 / 10) (by rw [show d-(r-4)=d+1-r+3 by omega,g3];omega) (by omega) (i:=o+(r-4)) rfl;simp (disch:=first|omega|(simp only [xm];omega)) only [↓qh,qq,reduceIte,reduceEqDiff,w33,w39,w43,e4,e5,e0,e12,wC,MX,N0,PJ,OW,pW,Int.reduceToNat,MP,Oy,ix,LS h.get,h.st,c8];exact Bp (cp:=cp) (h.next h1 s4) (λ _=>⟨_,rfl,rfl⟩) (by omega) (by simp only [↓qh,qq,reduceIte,reduceEqDiff,e0]) (by simp only [↓qh,qq,reduceIte,reduceEqDiff]) (by simp only [↓qh,qq,reduceIte,reduceEqDiff])
 ·have e5:¬ (4:Int)<=(r:Int):=by omega
  simp (disch:=first|omega|(simp only [xm];omega)) only [↓qh,qq,reduceIte,reduceEqDiff,w33,w39,w43,e4,e5];exact Bp h hH (by omega) e0 e4 e12
theorem q6k {H:AHeap} {b o d cp e:Nat} {c:List AV} {n:Nat} (hg:H.get b=some (OR c e)) (hc:c.length=24) (ho:o+d+1<=24) (hn:n<10 ^ (d+1)) (hn64:n<18446744073709551616) :
 ye M jy [.slice b o (d+1) cp,.int .u64 (n:Int)] H (LU H b o d e n):=by
 refine qjz ?_;have l1:Op.aS [.slice b o (d+1) cp]=some (.int .i64 ((d+1:Nat):Int)):=rfl;simp only [↓qh,qq,reduceIte,reduceEqDiff,jg,l1];refine bS.intro (λ r E H'=>∃ k u c',E=[(0,.slice b o (d+1) cp),(1,.int .u64 (u:Nat)),(4,.int .i64 (k:Nat))]/\r=k/\k<=d+1/\u=n / 10 ^ (d+1-k)/\u<10 ^ k/\(H'=H/\k=d+1/\c'=c\/H'=H.set b (OR c' e))/\Dg c' o k d n) ?_ ?_
 ·exact ⟨_,_,⟨d+1,n,c,rfl,rfl,by omega,by simp,hn,.inl ⟨rfl,rfl,rfl⟩,hc,λ j h1 h2=>by omega⟩,by simp only [↓qh,qq,reduceIte,reduceEqDiff]⟩
 rintro r E H' ⟨k,u,c',rfl,rfl,hk,hu,hul,hH,hd⟩;have hu64:u<18446744073709551616:=by rw [hu];exact Nat.lt_of_le_of_lt (Gy ..) hn64
 have hg':H'.get b=some (OR c' e):=by
  rcases hH with ⟨rfl,_,rfl⟩|rfl
  ·exact hg
  ·exact xd ..
 have hset:∀ c2,H'.set b (OR c2 e)=H.set b (OR c2 e):=λ c2=>by
  rcases hH with ⟨rfl,_,_⟩|rfl
  ·rfl
  ·rw [Lp]
 have hcl:=hd.1;simp only [↓qh,qq,reduceIte,reduceEqDiff,jg];refine cB.dec (λ hge=>?_) (λ aT=>?_)
 ·have hge:8<=r:=by omega
  simp (disch:=first|omega|(simp only [xm];omega)) only [↓qh,qq,reduceIte,reduceEqDiff,jg,wC,AF,MX,N0,PJ,OW,pW,Int.reduceToNat,MP,Oy,ix,LS hg',hset,c8,xm,hcl];have hk8:r=(r-8)+8:=by omega
  refine ⟨_,_,⟨r-8,u / 100000000,_,rfl,rfl,by omega,?_,?_,.inr rfl,?_⟩,by simp only [↓qh,qq,reduceIte,reduceEqDiff],by omega⟩
  ·have e8:d+1-(r-8)=(d+1-r)+8:=by omega
   rw [hu,e8,zN,FI]
  ·have:10 ^ r=10 ^ (r-8)*100000000:=by conv=>lhs;rw [hk8,zN]
   rw [this] at hul;exact Nat.div_lt_of_lt_mul (by rw [Nat.mul_comm];exact hul)
  ·have hdg:∀ i,kK n (d+1-r+i)=48+u / 10 ^ i % 10:=λ i=>by rw [<-xde,<-hu];rfl
   have g0:=hdg 0;have g1:=hdg 1;have g2:=hdg 2;have g3:=hdg 3;have g4:=hdg 4;have g5:=hdg 5;have g6:=hdg 6;have g7:=hdg 7;simp only [Nat.reducePow] at g0 g1 g2 g3 g4 g5 g6 g7;have s1:=(show Dg c' o (r-1+1) d n by rw [show r-1+1=r by omega];exact hd).steps (v:=48+u % 100000000 % 10000 % 100 % 10) (by rw [show d-(r-1)=d+1-r+0 by omega,g0];omega) (by omega) (i:=o+(r-1)) rfl;have s2:=(show Dg _ o (r-2+1) d n by rw [show r-2+1=r-1 by omega];exact s1).steps (v:=48+u % 100000000 % 10000 % 100 / 10) (by rw [show d-(r-2)=d+1-r+1 by omega,g1];omega) (by omega) (i:=o+(r-2)) rfl;have s3:=(show Dg _ o (r-3+1) d n by rw [show r-3+1=r-2 by omega];exact s2).steps (v:=48+u % 100000000 % 10000 / 100 % 10) (by rw [show d-(r-3)=d+1-r+2 by omega,g2];omega) (by omega) (i:=o+(r-3)) rfl;have s4:=(show Dg _ o (r-4+1) d n by rw [show r-4+1=r-3 by omega];exact s3).steps (v:=48+u % 100000000 % 10000 / 100 / 10) (by rw [show d-(r-4)=d+1-r+3 by omega,g3];omega) (by omega) (i:=o+(r-4)) rfl;have s5:=(show Dg _ o (r-5+1) d n by rw [show r-5+1=r-4 by omega];exact s4).steps (v:=48+u % 100000000 / 10000 % 100 % 10) (by rw [show d-(r-5)=d+1-r+4 by omega,g4];omega) (by omega) (i:=o+(r-5)) rfl;have s6:=(show Dg _ o (r-6+1) d n by rw [show r-6+1=r-5 by omega];exact s5).steps (v:=48+u % 100000000 / 10000 % 100 / 10) (by rw [show d-(r-6)=d+1-r+5 by omega,g5];omega) (by omega) (i:=o+(r-6)) rfl;have s7:=(show Dg _ o (r-7+1) d n by rw [show r-7+1=r-6 by omega];exact s6).steps (v:=48+u % 100000000 / 10000 / 100 % 10) (by rw [show d-(r-7)=d+1-r+6 by omega,g6];omega) (by omega) (i:=o+(r-7)) rfl;have s8:=(show Dg _ o (r-8+1) d n by rw [show r-8+1=r-7 by omega];exact s7).steps (v:=48+u % 100000000 / 10000 / 100 / 10) (by rw [show d-(r-8)=d+1-r+7 by omega,g7];omega) (by omega) (i:=o+(r-8)) rfl;exact s8
 ·have aT:r<8:=by omega
  have hu7:u<100000000:=qe hul (Nat.pow_le_pow_right (by decide) (show r<=8 by omega));obtain ⟨-,-,w31,-,-,-,-,-,-,-,-,-,-⟩:=jg M ⟨none,jy⟩;simp only [↓qh,qq,reduceIte,reduceEqDiff,w31,pW (show u<4294967296 by omega)];refine JT (cp:=cp) ⟨hu,hul,hk,ho,hg',hset,hd⟩ (λ h0=>?_) aT (by simp only [↓qh,qq,reduceIte,reduceEqDiff]) (by simp only [↓qh,qq,reduceIte,reduceEqDiff]) (by simp only [↓qh,qq,reduceIte,reduceEqDiff]);rcases hH with ⟨_,h1,_⟩|h1
  ·omega
  ·exact ⟨c',h1,rfl⟩
end Go.Am
namespace Go.Am
open Lang (dec)
variable {M:aO} [MK M]
def l8 (x:Nat):Nat:=(Lm.getD x 0).toNat
theorem xO:∀ x:Fin 256,Lm[x.1]? = some (UInt8.ofNat (l8 x.1))/\l8 x.1<=8/\(1<=x.1->1<=l8 x.1/\2 ^ (l8 x.1-1)<=x.1)/\x.1<2 ^ l8 x.1:=by decide +kernel
theorem JM {k:IntKind} {x:Nat} (h:x<256):Op.aY [.str Lm,.int k (x:Int)]=some (.int .u8 ((l8 x:Nat):Int)):=by
 obtain ⟨h1,h2,_⟩:=xO ⟨x,h⟩;rw [M9 rfl h1,Tr.ofNat_lt (by dsimp at h2 ⊢;omega)]
def wE (n:Nat) (v:AV):Prop:=∃ L:Nat,v=.int .i64 (L:Nat)/\1<=L/\L<=64/\2 ^ (L-1)<=n/\n<2 ^ L
theorem An {base m n:Nat} (h0:base<=56) (h1:n / 2 ^ base=m) (h2:1<=m) (h3:m<256):wE n (.int .i64 ((base:Int)+((l8 m:Nat):Int))):=by
 obtain ⟨q1,q2,q3,q4⟩:=xO ⟨m,h3⟩;obtain ⟨q3,q5⟩:=q3 h2;dsimp at q2 q3 q4 q5;refine ⟨base+l8 m,by rw [Int.natCast_add],by omega,by omega,?_,?_⟩
 ·rw [show base+l8 m-1=(l8 m-1)+base by omega,zN];rw [<-h1] at q5 ⊢;exact xz (jm _ q5) (Nat.div_mul_le_self ..)
 ·rw [Dc,zN];exact (Nat.div_lt_iff_lt_mul (Nat.pow_pos (by decide))).1 (by rw [h1];exact q4)
theorem JC (a:Nat):Op.bin .shr [.int .u64 (a:Int),.int .u64 32]=some (.int .u64 ((a / 4294967296:Nat):Int)):=pK (k:=.u64) (k':=.u64) (n:=32) (by decide)
theorem HD (a:Nat):Op.bin .shr [.int .u64 (a:Int),.int .u64 16]=some (.int .u64 ((a / 65536:Nat):Int)):=pK (k:=.u64) (k':=.u64) (n:=16) (by decide)
theorem NB (a:Nat):Op.bin .shr [.int .u64 (a:Int),.int .u64 8]=some (.int .u64 ((a / 256:Nat):Int)):=pK (k:=.u64) (k':=.u64) (n:=8) (by decide)
theorem Iw (a:Nat):Op.bin .shr [.int .i64 (a:Int),.int .u64 18]=some (.int .i64 ((a / 262144:Nat):Int)):=pK (k:=.i64) (k':=.u64) (n:=18) (by decide)
theorem xdx {E:Env} {ctx:Ctx} {base m n:Nat} {H:AHeap} {Q:AV->AHeap->Prop} (h0:base<=56) (h1:n / 2 ^ base=m) (h2:1<=m) (h3:m<256) (e2:lk E 2=some (.int .i64 (base:Nat))) (e0:lk E 0=some (.int .u64 (m:Nat))) (hq:∀ v,wE n v->Q v H) :
 W M ctx (jn 26) true (aU M [.tmp 2] (rL Q)) E [] H:=by
 have hl:=(xO ⟨m,h3⟩).2.1;dsimp at hl;simp (disch:=first|omega|(simp only [xm];omega)) only [↓qh,qq,reduceIte,reduceEqDiff,Ln,e2,e0,I9,JM,Cq];have e:ae .i64 ((base:Int)+((l8 m:Nat):Int))=(base:Int)+((l8 m:Nat):Int):=zk (by omega) (by omega);rw [e];exact hq _ (An h0 h1 h2 h3)
theorem xdw {E:Env} {ctx:Ctx} {base m n:Nat} {H:AHeap} {Q:AV->AHeap->Prop} (h0:base<=48) (h1:n / 2 ^ base=m) (h2:1<=m) (h3:m<65536) (e2:lk E 2=some (.int .i64 (base:Nat))) (e0:lk E 0=some (.int .u64 (m:Nat))) (hq:∀ v,wE n v->Q v H) :
 W M ctx (jn 18) true (aU M [.tmp 2] (rL Q)) E [] H:=by
 obtain ⟨-,-,-,w18,-⟩:=Ln M ctx;have e8:ae .i64 ((base:Int)+8)=((base+8:Nat):Int):=by rw [zk (by omega) (by omega)];omega
 by_cases h:256<=m
 ·have e5:(256:Int)<=(m:Int):=by omega
  simp only [↓qh,qq,reduceIte,reduceEqDiff,w18,e0,e2,e5,NB,e8];exact xdx (n:=n) (base:=base+8) (m:=m / 256) (by omega) (by rw [zN,<-FI,h1]) (by omega) (by omega) (by simp only [↓qh,qq,reduceIte,reduceEqDiff]) (by simp only [↓qh,qq,reduceIte,reduceEqDiff]) hq
 ·have e5:¬ (256:Int)<=(m:Int):=by omega
  simp only [↓qh,qq,reduceIte,reduceEqDiff,w18,e0,e2,e5];exact xdx (n:=n) (by omega) h1 h2 (by omega) e2 e0 hq
theorem xdv {E:Env} {ctx:Ctx} {base m n:Nat} {H:AHeap} {Q:AV->AHeap->Prop} (h0:base<=32) (h1:n / 2 ^ base=m) (h2:1<=m) (h3:m<4294967296) (e2:lk E 2=some (.int .i64 (base:Nat))) (e0:lk E 0=some (.int .u64 (m:Nat))) (hq:∀ v,wE n v->Q v H) :
 W M ctx (jn 10) true (aU M [.tmp 2] (rL Q)) E [] H:=by
 obtain ⟨-,-,w10,-,-⟩:=Ln M ctx;have e8:ae .i64 ((base:Int)+16)=((base+16:Nat):Int):=by rw [zk (by omega) (by omega)];omega
 by_cases h:65536<=m
 ·have e5:(65536:Int)<=(m:Int):=by omega
  simp only [↓qh,qq,reduceIte,reduceEqDiff,w10,e0,e2,e5,HD,e8];exact xdw (n:=n) (base:=base+16) (m:=m / 65536) (by omega) (by rw [zN,<-FI,h1]) (by omega) (by omega) (by simp only [↓qh,qq,reduceIte,reduceEqDiff]) (by simp only [↓qh,qq,reduceIte,reduceEqDiff]) hq
 ·have e5:¬ (65536:Int)<=(m:Int):=by omega
  simp only [↓qh,qq,reduceIte,reduceEqDiff,w10,e0,e2,e5];exact xdw (n:=n) (by omega) h1 h2 (by omega) e2 e0 hq
theorem q94 {H:AHeap} {n:Nat} (h1:1<=n) (h2:n<18446744073709551616):ye M Ds [.int .u64 (n:Int)] H λ v H'=>wE n v/\H'=H:=by
 refine qv3 ?_;obtain ⟨w0,w2,-,-,-⟩:=Ln M ⟨none,Ds⟩
 by_cases h:4294967296<=n
 ·have e5:(4294967296:Int)<=(n:Int):=by omega
  simp only [↓qh,qq,reduceIte,reduceEqDiff,w0,w2,e5,JC];exact xdv (n:=n) (base:=32) (m:=n / 4294967296) (by omega) rfl (by omega) (by omega) rfl rfl λ v hv=>⟨hv,rfl⟩
 ·have e5:¬ (4294967296:Int)<=(n:Int):=by omega
  simp only [↓qh,qq,reduceIte,reduceEqDiff,w0,w2,e5];exact xdv (n:=n) (base:=0) (m:=n) (by omega) (by simp) h1 (by omega) rfl rfl λ v hv=>⟨hv,rfl⟩
def qL (L:Nat):Nat:=L*78913 / 262144
theorem HG:∀ L:Fin 65,1<=L.1->qL L.1<=19/\2 ^ L.1<=10 ^ (qL L.1+1)/\(1<=qL L.1->10 ^ (qL L.1-1)<=2 ^ (L.1-1)):=by decide +kernel
theorem xbc {H:AHeap} {L:Nat} (h:L<=64):ye M yx [.int .i64 (L:Int)] H λ v H'=>v=.int .i64 ((qL L:Nat):Int)/\H'=H:=by
 refine qlq ?_;have e:ae .i64 ((L:Int)*78913)=((L*78913:Nat):Int):=by rw [zk (by omega) (by omega)];omega
 simp only [↓qh,qq,reduceIte,reduceEqDiff,qlr,e,Iw];rfl
theorem q02 {H:AHeap} {q:Bool}:ye M yw [.bool q] H λ v H'=>v=.int .i64 ((cond q 1 0:Nat):Int)/\H'=H:=by
 refine qln ?_;cases q<;>(simp only [↓qh,qq,reduceIte,reduceEqDiff,qlo];try rfl)
def kD (H:AHeap):Prop:=H.bz jo=some ((List.range 20).map λ k:Nat=>AV.int .u64 ((10 ^ k:Nat):Int))
theorem kD.at {H:AHeap} (h:kD H) {k:Nat} (hk:k<=19):Op.bp 20 1 [.ptr jo 0,.int .i64 (k:Int)]=some (.ptr jo k)/\Op.aa [.ptr jo k] H=some (.int .u64 ((10 ^ k:Nat):Int)):=by
 have e:0+k*1=k:=by omega
 refine ⟨by rw [Ma rfl (show k<20 by omega),e],?_⟩;rw [j8 h,xj,List.getElem?_range (by omega)];rfl
theorem q0m {H:AHeap} {n:Nat} (hp:kD H) (h1:1<=n) (h2:n<18446744073709551616):ye M yy [.int .u64 (n:Int)] H λ v H'=>∃ d:Nat,v=.int .i64 ((d+1:Nat):Int)/\H'=H/\d<=19/\n<10 ^ (d+1)/\10 ^ d<=n:=by
 refine qlt ?_;simp only [↓qh,qq,reduceIte,reduceEqDiff,wc];refine C3.q (q94 (M:=M) h1 h2) λ v H' ⟨⟨L,hv,l1,l2,l3,l4⟩,hH⟩=>?_;subst hv;subst hH;refine C3.q (xbc (M:=M) l2) λ v H' ⟨hv,hH⟩=>?_;subst hv;subst hH;obtain ⟨q1,q2,q3⟩:=HG ⟨L,by omega⟩ l1;dsimp at q1 q2 q3;generalize qL L=q at q1 q2 q3;obtain ⟨n1,n2⟩:=hp.at q1;have aT:n<10 ^ (q+1):=qe l4 q2
 by_cases h:10 ^ q<=n
 ·have e:((10 ^ q:Nat):Int)<=(n:Int):=by exact_mod_cast h
  simp only [↓qh,qq,reduceIte,reduceEqDiff,wc,n1,n2,e];refine C3.q (q02 (M:=M)) λ v H' ⟨hv,hH⟩=>?_;subst hv;subst hH;have ew:ae .i64 ((q:Int)+((1:Nat):Int))=((q+1:Nat):Int):=by rw [zk (by omega) (by omega)];omega
  simp only [↓qh,qq,reduceIte,reduceEqDiff,wc,ew];refine ⟨q,rfl,?_,aT,h⟩;have:10 ^ q<10 ^ 20:=Nat.lt_of_le_of_lt h (Nat.lt_trans h2 (by decide));have:=(Nat.pow_lt_pow_iff_right (a:=10) (by decide)).1 this;omega
 ·have e:¬ ((10 ^ q:Nat):Int)<=(n:Int):=by exact_mod_cast h
  simp only [↓qh,qq,reduceIte,reduceEqDiff,wc,n1,n2,e];refine C3.q (q02 (M:=M)) λ v H' ⟨hv,hH⟩=>?_;subst hv;subst hH;have q0:1<=q:=by
   rcases Nat.eq_zero_or_pos q with rfl|q0
   ·simp at h;omega
   ·exact q0
  have ew:ae .i64 ((q:Int)+0)=((q-1+1:Nat):Int):=by rw [zk (by omega) (by omega)];omega
  simp only [↓qh,qq,reduceIte,reduceEqDiff,wc,ew];exact ⟨q-1,rfl,by omega,by rw [show q-1+1=q by omega];omega,xz (q3 q0) l3⟩
theorem xb3 {H:AHeap} {n:Nat} (h:n<100):ye M wu [.int .i64 (n:Int)] H λ v H'=>v=.str (dec n)/\H'=H:=by
 refine qoc ?_
 by_cases h1:n<10
 ·have e:(n:Int)<10:=by omega
  have key:∀ i:Fin 10,((OH.take (i.1+1)).drop i.1)=[UInt8.ofNat (48+i.1)]/\i.1+1<=OH.length:=by decide +kernel
  obtain ⟨k1,k2⟩:=key ⟨n,h1⟩;dsimp only at k1 k2;simp (disch:=first|omega|(simp only [xm];omega)) only [↓qh,qq,reduceIte,reduceEqDiff,qih,e,zL];rw [qzm (a:=n) (b:=n+1) (by omega) k2,k1];simp only [↓qh,qq,reduceIte,reduceEqDiff];rw [Lang.dec_lt h1]
 ·have e:¬ (n:Int)<10:=by omega
  have key:∀ i:Fin 100,((mE.take (i.1*2+2)).drop (i.1*2))=[UInt8.ofNat (48+i.1 / 10),UInt8.ofNat (48+i.1 % 10)]/\i.1*2+2<=mE.length:=by decide +kernel
  obtain ⟨k1,k2⟩:=key ⟨n,h⟩;dsimp only at k1 k2;have e2:ae .i64 ((n:Int)*2)=((n*2:Nat):Int):=by rw [zk (by omega) (by omega)];omega
  have e3:ae .i64 (((n*2:Nat):Int)+2)=((n*2+2:Nat):Int):=by rw [zk (by omega) (by omega)];omega
  simp only [↓qh,qq,reduceIte,reduceEqDiff,qih,e,e2,e3];rw [qzm (a:=n*2) (b:=n*2+2) (by omega) k2,k1];simp only [↓qh,qq,reduceIte,reduceEqDiff];rw [Lang.dec_ge (by omega),Lang.dec_lt (show n / 10<10 by omega)];rfl
theorem xe8 {H:AHeap} {b o d cp e n:Nat} {c:List AV} (hg:H.get b=some (OR c e)) (hd:Dg c o 0 d n) (hn:n<10 ^ (d+1)) (hn':d=0\/10 ^ d<=n) (ho:o+d+1<=24):Op.eu [.slice b o (d+1) cp] H=some (.str (dec n)):=by
 have hl:=Pv d n hn hn';have hc:=hd.1;have key:(c.drop o).take (d+1)=(dec n).map λ c=>AV.int .u8 c.toNat:=by
  refine Df λ j=>?_
  by_cases hj:j<=d
  ·rw [vx,qk (by omega),vw,hd.2 j (ja _) hj,xj,xdc d n hn hn' j hj];show _=some (AV.int .u8 (((UInt8.ofNat (kK n (d-j))).toNat:Nat):Int));rw [Tr.ofNat_lt (by unfold kK;omega)]
  ·rw [je (by rw [ky];omega),je (by rw [vo];omega)]
 have hs:firstCells H 1 (d+1) (.slice b o (d+1) cp)=some ((dec n).map λ c=>AV.int .u8 c.toNat):=by
  have:Nat.beq (d+1) 0=false:=oQ (by omega);simp only [firstCells,this,xa,oK];rw [q87 (qy hg) (by omega),key]
 have hv:dE (.slice b o (d+1) cp)=some (d+1):=rfl;simp only [Op.eu,hv,qd,hs,qyj]
theorem q4a {H:AHeap} {n:Nat} (hp:kD H) (hl:jo<H.next) (hn:n<18446744073709551616):ye M yi [.int .u64 (n:Int),.int .i64 10] H λ v H'=>v=.str (dec n)/\Fr Em H H':=by
 refine qkr ?_
 by_cases h1:n<100
 ·have e:(n:Int)<100:=by omega
  simp (maxSteps:=4000000) (disch:=first|(simp only [jq,yj];done) | (simp only [jq,yj];omega) | omega) only [↓qh,qq,sf,qn,qw,zt,z9,xq,zm,su,rO,Nat.reduceAdd,Nat.reduceSub,Nat.reduceLeDiff,Int.reduceLT,Int.reduceLE,Int.reduceEq,reduceIte,reduceEqDiff,Lh,e];simp (disch:=first|omega|(simp only [xm];omega)) only [↓qh,qq,reduceIte,reduceEqDiff,Cq];refine C3.q (xb3 (M:=M) h1) λ v H' ⟨hv,hH⟩=>?_;subst hv;subst hH;simp only [↓qh,qq,reduceIte,reduceEqDiff];exact Fr.refl _
 ·have e:¬ (n:Int)<100:=by omega
  simp (maxSteps:=4000000) (disch:=first|(simp only [jq,yj];done) | (simp only [jq,yj];omega) | omega) only [↓qh,qq,sf,qn,qw,zt,z9,xq,zm,su,rO,Nat.reduceAdd,Nat.reduceSub,Nat.reduceLeDiff,Int.reduceLT,Int.reduceLE,Int.reduceEq,reduceIte,reduceEqDiff,Lh,e];have hf1:Fr Em H (H.alloc (.row (List.replicate 24 (.int .u8 0)) ME (0,0) true)):=(Fr.refl H).alloc _;have hp1:kD (H.alloc (.row (List.replicate 24 (.int .u8 0)) ME (0,0) true)):=(hf1.cells hl (λ h=>h)).trans hp;refine C3.q (q0m (M:=M) hp1 (by omega) hn) λ v H' ⟨d,hv,hH,d1,d2,d3⟩=>?_;subst hv;subst hH;have e1:Op.eN 24 1 [none,some 0,none] [.ptr H.next 0,.int .i64 ((d+1:Nat):Int)]=some (.slice H.next 0 (d+1) 24):=q7k (by omega) (by decide);simp only [↓qh,qq,reduceIte,reduceEqDiff,Lh,e1];refine C3.q (q6k (M:=M) (qp ..) (by simp) (by omega) d2 hn) λ v H' ⟨c',hH,hd⟩=>?_;subst hH;simp only [↓qh,qq,reduceIte,reduceEqDiff,Lh,e1,xe8 (xd ..) hd d2 (.inr d3) (by omega)]
  first|exact ⟨rfl,hf1.set (.inr (qf _)) _⟩|exact hf1.set (.inr (qf _)) _
theorem qx6 {H:AHeap} {n:Nat} (hp:kD H) (hl:jo<H.next) (hn:n<18446744073709551616):ye M He [.int .u64 (n:Int),.int .i64 10] H λ v H'=>v=.str (dec n)/\Fr Em H H':=by
 refine qr4 ?_;simp only [↓qh,qq,reduceIte,reduceEqDiff,qlh];refine C3.q (q4a (M:=M) hp hl hn) λ v H' ⟨hv,hf⟩=>?_;subst hv;simp only [↓qh,qq,reduceIte,reduceEqDiff,qlh];exact hf
end Go.Am
namespace Go.Am
open Lang Go.Proofs
variable {M:aO} [MK M]
theorem q9m:∀ (s:List UInt8) (o p:Int),o-s.length<=(scan s (o,p)).1/\(scan s (o,p)).1<=o+s.length/\(scan s (o,p)).2<=max p (o+s.length)/\p<=(scan s (o,p)).2
 | [],o,p=>by simp [scan];omega
 | c::s,o,p=>by
  have:=q9m s (mK c o p).1 (mK c o p).2;have hb:((mK c o p).1=o+1/\(mK c o p).2=max p (o+1))\/((mK c o p).1=o-1/\(mK c o p).2=p)\/((mK c o p).1=o/\(mK c o p).2=p):=by
   unfold mK;split
   ·exact .inl ⟨rfl,rfl⟩
   ·split
    ·exact .inr (.inl ⟨rfl,rfl⟩)
    ·exact .inr (.inr ⟨rfl,rfl⟩)
  have e:scan (c::s) (o,p)=scan s ((mK c o p).1,(mK c o p).2):=rfl;rw [e,qn];rcases hb with ⟨h1,h2⟩|⟨h1,h2⟩|⟨h1,h2⟩<;>rw [h1,h2] at this ⊢<;>omega
section
variable {q:Bool} {T:Nat} {H0 H H':AHeap} {b:Nat} {xs:List UInt8} {rest:List AV}
theorem BE.gT (h:BE q T H0 H b xs rest) {c:Nat} (hc:¬ iX H b c) (hl:H0.next<=c) (o:bg):BE q T H0 (H.set c o) b xs rest /\ ∀ x,iX (H.set c o) b x ↔ iX H b x:=by
 obtain ⟨⟨p,buf,h1,h2,h3,h4,h5⟩,lo,hi,ty⟩:=h;rw [iX.iff h1] at hc;have g:(H.set c o).get b=some (OR (p::buf::rest) T):=by rw [sw (λ k=>hc (.inl k))];exact h1
 exact ⟨⟨⟨p,buf,g,h2,h3.gT hl (λ k=>hc (.inr k)) _,h4,h5⟩,lo,hi,ty⟩,λ x=>by rw [iX.iff g,iX.iff h1]⟩
end
abbrev WS (H0 H:AHeap) (b:Nat) (tv:AV) (xs:List UInt8):Prop:=BE false yo H0 H b xs [tv,.int .i64 (scan xs (0,0)).1,.int .i64 (scan xs (0,0)).2]
theorem max2 (a b:Int):Op.fy true [.int .i64 a,.int .i64 b]=some (.int .i64 (max a b)):=by
 simp only [Op.fy,Op.d8,qd,ql,p8]
 by_cases q:a<b
 ·rw [jd q,ql];congr 2;omega
 ·rw [jf q,xa];congr 2;omega
theorem Kt (c:UInt8) (n:Nat) (h:n<256):c=UInt8.ofNat n ↔ c.toNat=n:=by
 constructor
 ·rintro rfl;rw [FD];exact Gm h
 ·intro e;rw [<-e];simp
theorem u40 (c:UInt8):c=40 ↔ c.toNat=40:=Kt c 40 (by omega)
theorem u41 (c:UInt8):c=41 ↔ c.toNat=41:=Kt c 41 (by omega)
theorem I1 (c:UInt8):c=123 ↔ c.toNat=123:=Kt c 123 (by omega)
theorem Jt (c:UInt8):c=125 ↔ c.toNat=125:=Kt c 125 (by omega)
def ia (s:List UInt8):Prop:=∀ c ∈ s,c.toNat<128
theorem xfc {H0 H Hc:AHeap} {b I p:Nat} {tv:AV} {xs s:List UInt8} {rest:List AV} {c:UInt8} {Q:aK} {E:Env} {o k:Int} (hbe:BE false yo H0 Hc b xs [tv,.int .i64 o,.int .i64 k]) (ho:-1000000000000<o/\o<1000000000000) (e0:lk E 0=some (.ptr b 0)) (e8:lk E 8=some (.tuple [.bool true,.int .i64 (p:Nat),.int .i32 c.toNat]))
 (hk:∀ H' E',BE false yo H0 H' b xs [tv,.int .i64 (mK c o k).1,.int .i64 (mK c o k).2]->(∀ x,iX H' b x ↔ iX Hc b x)->Fr (On b) Hc H'->(∀ n,n ≠ 5->n ≠ 11->n ≠ 12->n ≠ 34->lk E' n=lk E n)->Q .normal E' [] H') :
 W M ⟨none,xh⟩ (zp 11) true Q E [] Hc:=by
 obtain ⟨-,-,-,w11,w23,w18,w27,w33⟩:=qnl M ⟨none,xh⟩;have hbe0:=hbe;obtain ⟨⟨pp,buf,h1,h2,h3,h4,h5⟩,lo,hi,ty⟩:=hbe;have look:∀ {l:Env} {n:Nat},(∀ z ∈ l,z.1 ≠ n)->lk (l++E) n=lk E n:=by
  intro l n hl
  induction l with
  | nil=>rfl
  | cons z l ih=>rw [ur,oR,qc (hl z (by simp))];exact ih λ y hy=>hl y (by simp [hy])
 have L:∀ o':Nat,Op.aa [.ptr b o'] Hc=[pp,buf,tv,AV.int .i64 o,.int .i64 k][o']?:=λ o'=>j8 (qy h1) o';have e3:∀ v:Int,Op.store 1 [.ptr b 3,.int .i64 v] Hc=some (.undef,Hc.set b (OR [pp,buf,tv,.int .i64 v,.int .i64 k] yo)):=λ v=>y9 h1 rfl (by simp) rfl;have fin:∀ (o' k':Int) (G:AHeap),G=Hc.set b (OR [pp,buf,tv,.int .i64 o',.int .i64 k'] yo)->BE false yo H0 G b xs [tv,.int .i64 o',.int .i64 k']/\(∀ x,iX G b x ↔ iX Hc b x)/\Fr (On b) Hc G:=by
  intro o' k' G hG;subst hG;obtain ⟨r1,r2⟩:=hbe0.put (rest':=[tv,.int .i64 o',.int .i64 k']) h1 rfl;exact ⟨r1,λ x=>by rw [iX.iff (xd ..),iX.iff h1],(Fr.refl Hc).set (W:=On b) (.inl rfl) _⟩
 by_cases c40:c.toNat=40\/c.toNat=123
 ·have hbr:mK c o k=(o+1,max k (o+1)):=by unfold mK;rw [qk (c40.imp (λ h=>(u40 c).2 h) λ h=>(I1 c).2 h)]
  have w:ae .i64 (o+1)=o+1:=zk (by omega) (by omega);have g1:(Hc.set b (OR [pp,buf,tv,.int .i64 (o+1),.int .i64 k] yo)).get b=some (OR [pp,buf,tv,.int .i64 (o+1),.int .i64 k] yo):=xd ..;have L1:∀ o':Nat,Op.aa [.ptr b o'] (Hc.set b (OR [pp,buf,tv,.int .i64 (o+1),.int .i64 k] yo))=[pp,buf,tv,AV.int .i64 (o+1),.int .i64 k][o']?:=λ o'=>j8 (qy g1) o';have e4:Op.store 1 [.ptr b 4,.int .i64 (max k (o+1))] (Hc.set b (OR [pp,buf,tv,.int .i64 (o+1),.int .i64 k] yo))=some (.undef,(Hc.set b (OR [pp,buf,tv,.int .i64 (o+1),.int .i64 k] yo)).set b (OR [pp,buf,tv,.int .i64 (o+1),.int .i64 (max k (o+1))] yo)):=y9 g1 rfl (by simp) rfl;obtain ⟨f1,f2,f3⟩:=fin (o+1) (max k (o+1)) _ (Lp Hc b _ _);rw [hbr] at hk
  by_cases q:c.toNat=40
  ·have t1:=j0 (show ((c.toNat:Nat):Int)=40 by omega);simp only [↓qh,qq,reduceIte,reduceEqDiff,w11,w18,w23,e8,zo,t1,e0,qi,L,w,e3,L1,max2,e4];exact hk _ _ f1 f2 f3 λ n q5 q11 q12 q34=>look (l:=[(12,_),(11,_),(5,_)]) (by intro z hz;simp at hz;rcases hz with rfl|rfl|rfl<;>simp<;>omega)
  ·have t1:¬ ((c.toNat:Nat):Int)=40:=by omega
   have t2:=j0 (show ((c.toNat:Nat):Int)=123 by omega);simp only [↓qh,qq,reduceIte,reduceEqDiff,w11,w18,w23,e8,zo,t1,t2,e0,qi,L,w,e3,L1,max2,e4];exact hk _ _ f1 f2 f3 λ n q5 q11 q12 q34=>look (l:=[(12,_),(12,_),(11,_),(5,_)]) (by intro z hz;simp at hz;rcases hz with rfl|rfl|rfl|rfl<;>simp<;>omega)
 ·have n1:¬ ((c.toNat:Nat):Int)=40:=by omega
  have n2:¬ ((c.toNat:Nat):Int)=123:=by omega
  have b1:¬ (c=40\/c=123):=λ q=>c40 (q.imp (λ h=>(u40 c).1 h) λ h=>(I1 c).1 h)
  by_cases c41:c.toNat=41\/c.toNat=125
  ·have hbr:mK c o k=(o-1,k):=by unfold mK;rw [qc b1,qk (c41.imp (λ h=>(u41 c).2 h) λ h=>(Jt c).2 h)]
   have w:ae .i64 (o-1)=o-1:=zk (by omega) (by omega);obtain ⟨f1,f2,f3⟩:=fin (o-1) k _ rfl;rw [hbr] at hk
   by_cases q:c.toNat=41
   ·have t1:=j0 (show ((c.toNat:Nat):Int)=41 by omega);simp only [↓qh,qq,reduceIte,reduceEqDiff,w11,w18,w23,w27,w33,e8,zo,n1,n2,t1,e0,qi,L,w,e3];exact hk _ _ f1 f2 f3 λ n q5 q11 q12 q34=>look (l:=[(34,_),(12,_),(12,_),(11,_),(5,_)]) (by intro z hz;simp at hz;rcases hz with rfl|rfl|rfl|rfl|rfl<;>simp<;>omega)
   ·have t1:¬ ((c.toNat:Nat):Int)=41:=by omega
    have t2:=j0 (show ((c.toNat:Nat):Int)=125 by omega);simp only [↓qh,qq,reduceIte,reduceEqDiff,w11,w18,w23,w27,w33,e8,zo,n1,n2,t1,t2,e0,qi,L,w,e3];exact hk _ _ f1 f2 f3 λ n q5 q11 q12 q34=>look (l:=[(34,_),(34,_),(12,_),(12,_),(11,_),(5,_)]) (by intro z hz;simp at hz;rcases hz with rfl|rfl|rfl|rfl|rfl|rfl<;>simp<;>omega)
  ·have n3:¬ ((c.toNat:Nat):Int)=41:=by omega
   have n4:¬ ((c.toNat:Nat):Int)=125:=by omega
   have hbr:mK c o k=(o,k):=by unfold mK;rw [qc b1,qc (λ q=>c41 (q.imp (λ h=>(u41 c).1 h) λ h=>(Jt c).1 h))]
   rw [hbr] at hk;simp only [↓qh,qq,reduceIte,reduceEqDiff,w11,w18,w23,w27,w33,e8,zo,n1,n2,n3,n4,e0];exact hk _ _ hbe0 (λ x=>zg) (Fr.refl _) λ n q5 q11 q12 q34=>look (l:=[(34,_),(34,_),(12,_),(12,_),(11,_),(5,_)]) (by intro z hz;simp at hz;rcases hz with rfl|rfl|rfl|rfl|rfl|rfl<;>simp<;>omega)
theorem mc {H0 H:AHeap} {b:Nat} {tv:AV} {xs s:List UInt8} (h:WS H0 H b tv xs) (hs:ia s) (hl:xs.length+s.length<=100000000000) :
 ye M xh [.ptr b 0,.str s] H λ v H'=>WS H0 H' b tv (xs++s)/\BK b H H':=by
 refine qub ?_;obtain ⟨w0,w36,w5,-,-,-,-,-⟩:=qnl M ⟨none,xh⟩;have hlo:=h.fr.next
 have hbi:=h.hi;simp only [↓qh,qq,reduceIte,reduceEqDiff,w0,q7u];have hf1:Fr Em H (H.alloc (.cW s 0)):=(Fr.refl H).alloc _;have hob:∀ x,iX (H.alloc (.cW s 0)) b x ↔ iX H b x:=λ x=>by
  obtain ⟨⟨p,buf,h1,h2,h3,h4,h5⟩,lo,hi,ty⟩:=h;rw [iX.iff h1,iX.iff (show (H.alloc (.cW s 0)).get b=_ by rw [rN hi];exact h1)]
 refine bS.intro (λ k E' Hc=>∃ p,E'=[(7,.ptr H.next 0),(0,.ptr b 0),(1,.str s)]/\k=s.length-p/\p<=s.length/\Hc.get H.next=some (.cW s p)/\H.next<Hc.next /\
  BE false yo H0 Hc b xs [tv,.int .i64 (scan (xs++s.take p) (0,0)).1,.int .i64 (scan (xs++s.take p) (0,0)).2]/\(∀ x,iX Hc b x ↔ iX H b x)/\Fr (On b) H Hc) ?_ ?_
 ·refine ⟨_,_,⟨0,rfl,rfl,by omega,qp ..,by rw [xk];omega,?_,hob,hf1.mono λ _ _ q=>q.elim⟩,by simp only [↓qh,qq,reduceIte,reduceEqDiff]⟩;rw [zt,kh];exact h.em hf1
 rintro k E' Hc ⟨p,rfl,rfl,hp,hI,hIn,hbe,hon,hfr⟩;have hI0:¬ iX Hc b H.next:=λ q=>h.off (qf _) ((hon _).1 q)
 rcases kg p s.length with aT|hge
 ·obtain ⟨c,hc⟩:∃ c,s[p]? = some c:=⟨s[p],by simp [aT]⟩
  have h128:=hs c (xv hc);obtain ⟨hbe2,hon2⟩:=hbe.gT hI0 hlo (.cW s (p+1));have hsb:=q9m (xs++s.take p) 0 0;rw [qg,ky] at hsb;simp only [↓qh,qq,reduceIte,reduceEqDiff,w5,xee hI hc h128,zo];refine xfc (M:=M) (p:=p) (c:=c) (rest:=[]) (s:=s) (I:=0) (H:=H) hbe2 (by omega) rfl rfl λ H2 E2 hbe3 hon3 hf3 hE=>?_;have e7:lk E2 7=some (.ptr H.next 0):=by rw [hE 7 (by omega) (by omega) (by omega) (by omega)];rfl
  have e0:lk E2 0=some (.ptr b 0):=by rw [hE 0 (by omega) (by omega) (by omega) (by omega)];rfl
  have e1:lk E2 1=some (.str s):=by rw [hE 1 (by omega) (by omega) (by omega) (by omega)];rfl
  have hbI:b ≠ H.next:=by omega
  simp only [↓qh,qq,reduceIte,reduceEqDiff];refine ⟨_,_,⟨p+1,rfl,rfl,by omega,?_,?_,?_,λ x=>(hon3 x).trans ((hon2 x).trans (hon x)),?_⟩,by simp only [↓qh,qq,reduceIte,reduceEqDiff,e7,e0,e1],by omega⟩
  ·rw [hf3.aj _ (by rw [FB];exact hIn) (λ q=>hbI q.symm),xd]
  ·exact qe (by rw [FB];exact hIn) hf3.next
  ·have e:s.take (p+1)=s.take p ++ [c]:=by rw [Dj,hc];rfl
   rw [e,<-qt,tC];exact hbe3
  ·exact (hfr.set (W:=On b) (.inr (qf _)) _).trans hf3 λ x q=>.inl q
 ·have hpe:p=s.length:=by omega
  subst hpe;rw [Jq] at hbe;simp only [↓qh,qq,reduceIte,reduceEqDiff,w5,w36,xed hI (qf _),zo,qi];refine C3.q (NF (M:=M) (s:=s) hbe (by omega)) λ v H2 ⟨hb2,hk2⟩=>?_;simp only [↓qh,qq,reduceIte,reduceEqDiff];refine ⟨hb2,xz hfr.next hk2.1,λ c hc hn=>?_⟩;have hn':¬ iX Hc b c:=λ q=>hn ((hon c).1 q);obtain ⟨r1,r2⟩:=hk2.2 c (qe hc hfr.next) hn';refine ⟨r1.trans (hfr.aj c hc λ q=>hn (.inl q)),r2⟩
end Go.Am
namespace Go.Am
open Lang Go.Proofs
variable {M:aO} [MK M]
instance (s:List UInt8):Decidable (ia s):=inferInstanceAs (Decidable (∀ c ∈ s,c.toNat<128))
theorem xez (o:Nat):ia (nY o):=by unfold nY;(repeat' split)<;>(intro c hc;simp at hc;subst hc;decide)
theorem xap (o:Nat):ia (py o):=by unfold py;(repeat' split)<;>(intro c hc;simp at hc;rcases hc with rfl|rfl|rfl|rfl<;>decide)
theorem Jj {a b:List UInt8} (ha:ia a) (hb:ia b):ia (a++b):=λ c hc=>(zy.1 hc).elim (ha c) (hb c)
theorem q4f:∀ (k n:Nat),n<10 ^ (k+1)->ia (dec n)
 | 0,n,h=>by rw [dec_lt (by simpa using h)];intro c hc;rw [yk.1 hc,FD];have:n<10:=by simpa using h
             omega
 | k+1,n,h=>by
  by_cases h1:n<10
  ·rw [dec_lt h1];intro c hc;rw [yk.1 hc,FD];omega
  ·rw [dec_ge (by omega)];refine Jj (q4f k _ (by rw [yU] at h;omega)) ?_;intro c hc;rw [yk.1 hc,FD];omega
theorem xb2 {H:AHeap} {o:Nat} (h1:4<=o) (h2:o<=10):ye M Hk [.int .i64 (o:Int)] H λ v H'=>v=.str (nY o)/\Fr Em H H':=by
 refine q5b ?_;have hb:Op.buildSlice oG 7 [.str []] [(0,1),(1,1),(2,1),(3,1),(4,1),(5,1),(6,1)] [.str [43],.str [45],.str [42],.str [38],.str [94],.str [60,60],.str [62,62]]=some (.row ([[43],[45],[42],[38],[94],[60,60],[62,62]].map AV.str) oG (0,0) true,Op.sliceTo 7 7):=rfl;have hw:=q6h H [[43],[45],[42],[38],[94],[60,60],[62,62]] oG 7 (0,0) true rfl;have hi:([[43],[45],[42],[38],[94],[60,60],[62,62]]:List (List UInt8))[o-4]? = some (nY o):=by
  rcases (show o=4\/o=5\/o=6\/o=7\/o=8\/o=9\/o=10 by omega) with rfl|rfl|rfl|rfl|rfl|rfl|rfl<;>rfl
 have ws:ae .i64 ((o:Int)-4)=((o-4:Nat):Int):=by rw [zk (by omega) (by omega)];omega
 have e1:=hw.idx hi (z:=((o-4:Nat):Int)) rfl .i64;have e2:=hw.gU q8x hi (by decide);have hn:Op.sliceTo 7 7 H.next=.slice H.next 0 7 7:=rfl
 simp only [↓qh,qq,reduceIte,reduceEqDiff,q5c,hb,ws,hn,e1,e2,sI];exact (Fr.refl H).alloc _
theorem Aj:¬ (45:UInt8)=43 /\ ¬ (94:UInt8)=43 /\ ¬ (94:UInt8)=45 /\ ¬ (42:UInt8)=43 /\ ¬ (42:UInt8)=45 /\ ¬ (42:UInt8)=94 /\ ¬ (38:UInt8)=43 /\ ¬ (38:UInt8)=45 /\ ¬ (38:UInt8)=94 /\ ¬ (38:UInt8)=42 /\ ¬ (60:UInt8)=43 /\ ¬ (60:UInt8)=45 /\ ¬ (60:UInt8)=94 /\ ¬ (60:UInt8)=42 /\ ¬ (60:UInt8)=38 /\ ¬ (62:UInt8)=43 /\ ¬ (62:UInt8)=45 /\ ¬ (62:UInt8)=94 /\ ¬ (62:UInt8)=42 /\ ¬ (62:UInt8)=38 /\ ¬ (62:UInt8)=60:=by decide
theorem xe1 {H:AHeap} {o:Nat} (h1:4<=o) (h2:o<=10):ye M Ge [.str (nY o)] H λ v H'=>v=.tuple [.int .i64 (o:Int),.int .i64 (rowOf o:Int)]/\H'=H:=by
 refine q7b ?_;rcases (show o=4\/o=5\/o=6\/o=7\/o=8\/o=9\/o=10 by omega) with rfl|rfl|rfl|rfl|rfl|rfl|rfl
 all_goals
  simp only [nY,rowOf,reduceIte,reduceEqDiff,or_false,or_true,false_or,true_or];simp only [↓qh,qq,reduceIte,reduceEqDiff,q7c,xc,Aj,reduceCtorEq,nq]
  first|rfl|exact ⟨rfl,rfl⟩|trivial
structure WC (H0:AHeap) (tv:AV) (ts:List Nd):Prop where
 nd:eT H0 tv ts
 pow:kD H0
 pl:jo<H0.next
 len:ts.length<=2000
theorem WC.Of {H0 H:AHeap} {tv:AV} {ts:List Nd} (h:WC H0 tv ts) (f:Fr Em H0 H):kD H/\jo<H.next:=⟨(f.cells h.pl id).trans h.pow,qe h.pl f.next⟩
structure Loc (H:AHeap) (b c:Nat) (r:List AV) (e:Nat):Prop where
 get:H.get c=some (OR r e)
 off:¬ iX H b c
 lt:c<H.next
theorem Loc.step {H H':AHeap} {b c e:Nat} {r:List AV} (h:Loc H b c r e) (k:BK b H H'):Loc H' b c r e:=by
 obtain ⟨q1,q2⟩:=k.2 c h.lt h.off;exact ⟨q1.trans h.get,q2,qe h.lt k.1⟩
theorem Loc.ld {H:AHeap} {b c e:Nat} {r:List AV} (h:Loc H b c r e) (o:Nat):Op.aa [.ptr c o] H=r[o]?:=j8 (qy h.get) o
theorem WS.tv {H0 H:AHeap} {b:Nat} {tv:AV} {xs:List UInt8} (h:WS H0 H b tv xs):Op.aa [.ptr b 2] H=some tv:=by
 obtain ⟨⟨p,buf,h1,_⟩,_⟩:=h;rw [j8 (qy h1)];rfl
theorem rV {H0 H:AHeap} {b i:Nat} {tv:AV} {ts:List Nd} {xs:List UInt8} {x:Nd} (hc:WC H0 tv ts) (h:WS H0 H b tv xs) (hx:ts[i]? = some x):∃ a,cU eB 1 H0 a x.kids/\Op.aa [.ptr b 2] H=some tv /\
 (∀ k,Op.aJ 3 [tv,.int k (i:Int)]=some (.ptr (dK tv) (eU 3 tv i)))/\Op.au 3 [.ptr (dK tv) (eU 3 tv i)] H=some (gj x a) /\
 Op.store 3 [.ptr H.next 0,gj x a] (H.alloc (OR [.int .i64 0,.int .u64 0,.nils] xf))=some (.undef,H.alloc (OR [.int .i64 x.k,.int .u64 x.n,a] xf)) /\
 WS H0 (H.alloc (OR [.int .i64 x.k,.int .u64 x.n,a] xf)) b tv xs/\Loc (H.alloc (OR [.int .i64 x.k,.int .u64 x.n,a] xf)) b H.next [.int .i64 x.k,.int .u64 x.n,a] xf/\BK b H (H.alloc (OR [.int .i64 x.k,.int .u64 x.n,a] xf)):=by
 obtain ⟨a,h1,h2,h3,h4,_⟩:=hc.nd.vP hx h.fr;have f:Fr Em H (H.alloc (OR [.int .i64 x.k,.int .u64 x.n,a] xf)):=(Fr.refl H).alloc _;have hk:=BK.fr (b:=b) f h.hi;refine ⟨a,h1,h.tv,h3,h4,JI H x h2 xf,h.em f,⟨qp ..,λ q=>?_,by rw [xk];omega⟩,hk⟩;refine h.off (qf _) ?_;rcases q with q|⟨p,buf,rest,T,q1,q2⟩
 ·exact .inl q
 ·rw [rN h.hi] at q1;exact .inr ⟨p,buf,rest,T,q1,q2⟩
theorem qZ {H0 H:AHeap} {a:AV} {kids:List Int} (h:cU eB 1 H0 a kids) (f:Fr Em H0 H) {i:Nat} {x:Int} (hx:kids[i]? = some x) {z:Int} (hz:z=(i:Int)):(∀ k,Op.aJ 1 [a,.int k z]=some (.ptr (dK a) (eU 1 a i)))/\Op.aa [.ptr (dK a) (eU 1 a i)] H=some (.int .i64 x):=by subst hz;exact (h.em f).tE hx
theorem q1k (v:Nat) (h:v<=7):Op.fB [.int .i32 ((97+v:Nat):Int)]=some (.str (letter v)):=by
 have e1:kB 0 ((97+v:Nat):Int)=true:=by rw [pN];simp;omega
 have e2:oC ((97+v:Nat):Int) 128=true:=by rw [p8];simp;omega
 simp only [Op.fB,e1,e2,kp,ql,yB];rfl
theorem qw2 (v:Nat) (h:v<=7):ia (letter v):=by
 intro c hc;unfold letter at hc;rw [yk.1 hc,FD];omega
theorem Ex.pM (o:Nat) (x y:Ex) (d:Nat):(Ex.bin o x y).cR d=par (rowOf o<d) [40]++(x.cR (rowOf o)++(([32]++nY o ++ [32])++(y.cR (rowOf o+1)++par (rowOf o<d) [41]))):=by
 simp only [Ex.cR,qt]
theorem xT (o:Nat):rowOf o<=2:=by unfold rowOf;split<;>omega
abbrev qA:Nat:=10000000000
theorem Cv {H0:AHeap} {tv:AV} {ts:List Nd} (hc:WC H0 tv ts):∀ (x:Ex) {H:AHeap} {b bb d:Nat} {xs:List UInt8},bj ts bb (x.enc bb)->x.ok->x.small->d<=100->WS H0 H b tv xs->xs.length+30*x.sz<=qA ->
 ye M jj [.ptr b 0,.int .i64 ((bb+x.sz-1:Nat):Int),.int .i64 (d:Int)] H λ v H'=>WS H0 H' b tv (xs++x.cR d)/\BK b H H'
 | .num n,H,b,bb,d,xs,hs,ho,hsm,hd,h,hl=>by
  refine L7 ?_;obtain ⟨hnd,-⟩:=bj.nd (x:=.e (.num n)) hs;have hsm:n<18446744073709551616:=hsm;obtain ⟨a,-,e1,e2,e3,e4,h1,l1,k1⟩:=rV hc h hnd;simp only [It.nd,It.kn,It.ks,aH,It.sz,Ex.sz,ints,kw] at e2 e3 e4 h1 l1 k1;have hl:xs.length+30*1<=10000000000:=hl;generalize H.alloc (OR [.int .i64 1,.int .u64 (n:Nat),a] xf)=H1 at *;have t1:=j0 (show (1:Int)=1 from rfl);obtain ⟨p1,p2⟩:=hc.Of h1.fr;simp only [↓qh,qq,reduceIte,reduceEqDiff,we,Ex.sz,qi,e1,e2,e3,e4,l1.ld,t1];refine C3.q (qx6 (M:=M) p1 p2 hsm) λ v H2 ⟨hv,hf2⟩=>?_;subst hv;have hl20:=q4o hsm;refine C3.q (mc (M:=M) (h1.em hf2) (q4f 19 n (qe hsm (by decide))) (by omega)) λ v H3 ⟨h3,k3⟩=>?_;simp only [↓qh,qq,reduceIte,reduceEqDiff,we];exact ⟨h3,(k1.trans (BK.fr hf2 h1.hi)).trans k3⟩
 | .var w,H,b,bb,d,xs,hs,ho,hsm,hd,h,hl=>by
  refine L7 ?_;obtain ⟨hnd,-⟩:=bj.nd (x:=.e (.var w)) hs;have ho:w<=7:=ho;obtain ⟨a,-,e1,e2,e3,e4,h1,l1,k1⟩:=rV hc h hnd;simp only [It.nd,It.kn,It.ks,aH,It.sz,Ex.sz,ints,kw] at e2 e3 e4 h1 l1 k1;have hl:xs.length+30*1<=10000000000:=hl;generalize H.alloc (OR [.int .i64 2,.int .u64 (w:Nat),a] xf)=H1 at *;have w1:ae .u64 (97+(w:Int))=((97+w:Nat):Int):=by rw [ww (by omega) (by omega)];omega
  have w2:ae .i32 ((97+w:Nat):Int)=((97+w:Nat):Int):=by rw [q6i];omega
  simp only [↓qh,qq,reduceIte,reduceEqDiff,we,Ex.sz,qi,e1,e2,e3,e4,l1.ld,Int.reduceEq,w1,w2,q1k w ho];refine C3.q (mc (M:=M) h1 (qw2 w ho) (by simp [letter];omega)) λ v H3 ⟨h3,k3⟩=>?_;simp only [↓qh,qq,reduceIte,reduceEqDiff,we];exact ⟨h3,k1.trans k3⟩
 | .load x,H,b,bb,d,xs,hs,ho,hsm,hd,h,hl=>by
  refine L7 ?_;obtain ⟨hnd,hks⟩:=bj.nd (x:=.e (.load x)) hs;have hsx:bj ts bb (x.enc bb):=hks.cons.1;obtain ⟨a,ha,e1,e2,e3,e4,h1,l1,k1⟩:=rV hc h hnd;have hnd':(It.e (.load x)).nd bb=⟨3,0,[((bb+x.sz-1:Nat):Int)]⟩:=by simp [It.nd,It.kn,It.ks,aH,ints,It.sz]
  rw [hnd'] at ha e3 e4 h1 l1 k1;have hsz:(Ex.load x).sz=x.sz+1:=rfl;rw [hsz] at hl;unfold qA at hl;simp only [It.sz] at e2 e3;simp only at e4 h1 l1 k1;generalize H.alloc (OR [.int .i64 3,.int .u64 0,a] xf)=H1 at *;simp only [↓qh,qq,reduceIte,reduceEqDiff,we,qi,e1,e2,e3,e4,l1.ld,Int.reduceEq];refine C3.q (mc (M:=M) (s:=[108,111,97,100,40]) h1 (by decide) (by simp;omega)) λ v H2 ⟨h2,k2⟩=>?_;have l2:=l1.step k2;obtain ⟨i2,i3⟩:=qZ ha h2.fr (i:=0) rfl (z:=0) rfl;simp only [↓qh,qq,reduceIte,reduceEqDiff,we,l2.ld,i2 .i64,i3];refine C3.q (Cv hc x (d:=0) hsx ho hsm (by omega) h2 (by unfold qA;simp;omega)) λ v H3 ⟨h3,k3⟩=>?_;have htl:=x.bK 0 hsm;simp only [↓qh,qq,reduceIte,reduceEqDiff,we];refine C3.q (mc (M:=M) (s:=[41]) h3 (by decide) (by simp;omega)) λ v H4 ⟨h4,k4⟩=>?_;simp only [↓qh,qq,reduceIte,reduceEqDiff,we];refine ⟨?_,((k1.trans k2).trans k3).trans k4⟩
  simpa only [Ex.cR,qt] using h4
 | .bin o x y,H,b,bb,d,xs,hs,ho,hsm,hd,h,hl=>by
  refine L7 ?_;obtain ⟨hnd,hks⟩:=bj.nd (x:=.e (.bin o x y)) hs;have hsx:bj ts bb (x.enc bb):=hks.cons.1;have hsy:bj ts (bb+x.sz) (y.enc (bb+x.sz)):=hks.cons.2.cons.1;obtain ⟨o4,o10,hox,hoy⟩:=ho;obtain ⟨a,ha,e1,e2,e3,e4,h1,l1,k1⟩:=rV hc h hnd;have hnd':(It.e (.bin o x y)).nd bb=⟨o,0,[((bb+x.sz-1:Nat):Int),((bb+x.sz+y.sz-1:Nat):Int)]⟩:=by simp [It.nd,It.kn,It.ks,aH,ints,It.sz]
  rw [hnd'] at ha e3 e4 h1 l1 k1;have hsz:(Ex.bin o x y).sz=x.sz+y.sz+1:=rfl;rw [hsz] at hl;unfold qA at hl;simp only [It.sz] at e2 e3;simp only at e4 h1 l1 k1;generalize H.alloc (OR [.int .i64 (o:Nat),.int .u64 0,a] xf)=H1 at *;have t1:¬ (o:Int)=1:=by omega
  have t2:¬ (o:Int)=2:=by omega
  have t3:¬ (o:Int)=3:=by omega
  obtain ⟨w0,w9,w21,w25,w31,w35⟩:=we M ⟨none,jj⟩;simp only [↓qh,qq,reduceIte,reduceEqDiff,w0,w9,w21,qi,e1,e2,e3,e4,l1.ld,t1,t2,t3];refine C3.q (xb2 (M:=M) o4 o10) λ v H2 ⟨hv,hf2⟩=>?_;subst hv;have k2:=BK.fr (b:=b) hf2 h1.hi;have h2:=h1.em hf2;have l2:=l1.step k2;refine C3.q (xe1 (M:=M) o4 o10) λ v H3 ⟨hv,hh⟩=>?_;subst hv;subst hh;have hxt:=x.bK (rowOf o) hsm.1;have hyt:=y.bK (rowOf o+1) hsm.2;have hrw:=xT o;have hsl:=xe0 o;have wr:ae .i64 ((rowOf o:Int)+1)=((rowOf o+1:Nat):Int):=by rw [zk (by omega) (by omega)];omega
  have c1:Op.bin .add [.str [32],.str (nY o)]=some (.str (32::nY o)):=pX [32] _ (by simp;omega);have c2:Op.bin .add [.str (32::nY o),.str [32]]=some (.str (32::(nY o ++ [32]))):=pX (32::nY o) [32] (by simp;omega);have mid:∀ (H4:AHeap) (E:Env) (zs:List UInt8),zs=xs++par (rowOf o<d) [40]->WS H0 H4 b tv zs->Loc H4 b H.next [.int .i64 (o:Nat),.int .u64 0,a] xf->BK b H H4->lk E 0=some (.ptr b 0)->lk E 6=some (.ptr H.next 0)->lk E 9=some (.int .i64 (rowOf o:Int))->lk E 7=some (.str (nY o))->lk E 2=some (.int .i64 (d:Int)) ->
   W M ⟨none,jj⟩ (jw 31) true (aR 0 (aU M [] (rL λ v H'=>WS H0 H' b tv (xs++(Ex.bin o x y).cR d)/\BK b H H'))) E [] H4:=by
   intro H4 E zs hzs h4 l4 k4 r0 r6 r9 r7 r2;have hzl:zs.length<=xs.length+1:=by rw [hzs,qg];have:=(xei (rowOf o<d)).1;omega
   obtain ⟨i1,i2⟩:=qZ ha h4.fr (i:=0) rfl (z:=0) rfl;simp only [↓qh,qq,reduceIte,reduceEqDiff,w31,r0,r6,r9,l4.ld,i1 .i64,i2];refine C3.q (Cv hc x (d:=rowOf o) hsx hox hsm.1 (by omega) h4 (by unfold qA;omega)) λ v H5 ⟨h5,k5⟩=>?_;have l5:=l4.step k5;simp only [↓qh,qq,reduceIte,reduceEqDiff,r0,r7,c1,c2];refine C3.q (mc (M:=M) (s:=32::(nY o ++ [32])) h5 (Jj (a:=[32]) (by decide) (Jj (xez o) (by decide))) (by simp;omega)) λ v H6 ⟨h6,k6⟩=>?_;have l6:=l5.step k6;obtain ⟨j1,j2⟩:=qZ ha h6.fr (i:=1) rfl (z:=1) rfl;simp only [↓qh,qq,reduceIte,reduceEqDiff,w35,r0,r6,r9,l6.ld,j1 .i64,j2,wr];have h6':WS H0 H6 b tv (zs++x.cR (rowOf o)++([32]++nY o ++ [32])):=h6;refine C3.q (Cv hc y (d:=rowOf o+1) hsy hoy hsm.2 (by omega) h6' (by unfold qA;simp;omega)) λ v H7 ⟨h7,k7⟩=>?_;have kk:=((k4.trans k5).trans k6).trans k7
   by_cases aT:rowOf o<d
   ·have q1:(rowOf o:Int)<(d:Int):=by omega
    simp only [↓qh,qq,reduceIte,reduceEqDiff,r9,r2,r0,q1];refine C3.q (mc (M:=M) (s:=[41]) h7 (by decide) (by simp;omega)) λ v H8 ⟨h8,k8⟩=>?_;simp only [↓qh,qq,reduceIte,reduceEqDiff];refine ⟨?_,kk.trans k8⟩;rw [Ex.pM];rw [hzs] at h8
    simpa only [par,aT,iW,qt] using h8
   ·have q1:¬ (rowOf o:Int)<(d:Int):=by omega
    simp only [↓qh,qq,reduceIte,reduceEqDiff,r9,r2,q1];refine ⟨?_,kk⟩;rw [Ex.pM];rw [hzs] at h7
    simpa only [par,aT,ve,qt,kh,zn] using h7
  by_cases aT:rowOf o<d
  ·have q1:(rowOf o:Int)<(d:Int):=by omega
   simp only [↓qh,qq,reduceIte,reduceEqDiff,zo,w25,q1];refine C3.q (mc (M:=M) (s:=[40]) h2 (by decide) (by simp;omega)) λ v H4 ⟨h4,k4⟩=>?_;simp only [↓qh,qq,reduceIte,reduceEqDiff];exact mid H4 _ _ (by simp [par,aT]) h4 (l2.step k4) ((k1.trans k2).trans k4) rfl rfl rfl rfl rfl
  ·have q1:¬ (rowOf o:Int)<(d:Int):=by omega
   simp only [↓qh,qq,reduceIte,reduceEqDiff,zo,w25,q1];exact mid _ _ _ (by simp [par,aT]) h2 l2 (k1.trans k2) rfl rfl rfl rfl rfl
end Go.Am
namespace Go.Am
open Lang Go.Proofs
variable {M:aO} [MK M]
theorem q4z (d:Nat):ia (ind d):=λ c hc=>by rw [(List.mem_replicate.1 hc).2];decide
theorem xc8 {H0 H:AHeap} {tv:AV} {ts:List Nd} (hc:WC H0 tv ts) (x:Cn) {b bb:Nat} {xs:List UInt8} (hs:bj ts bb (x.enc bb)) (ho:x.ok) (hsm:x.small) (h:WS H0 H b tv xs) (hl:xs.length+30*x.sz<=qA) :
 ye M GM [.ptr b 0,.int .i64 ((bb+x.sz-1:Nat):Int)] H λ v H'=>WS H0 H' b tv (xs++x.cR)/\BK b H H':=by
 refine qt6 ?_;obtain ⟨hnd,hks⟩:=bj.nd (x:=.c x) hs;have hsx:bj ts bb (x.a.enc bb):=hks.cons.1;have hsy:bj ts (bb+x.a.sz) (x.b.enc (bb+x.a.sz)):=hks.cons.2.cons.1;obtain ⟨o4,o10,hox,hoy⟩:=ho;obtain ⟨a,ha,e1,e2,e3,e4,h1,l1,k1⟩:=rV hc h hnd;have hnd':(It.c x).nd bb=⟨x.k,0,[((bb+x.a.sz-1:Nat):Int),((bb+x.a.sz+x.b.sz-1:Nat):Int)]⟩:=by simp [It.nd,It.kn,It.ks,aH,ints,It.sz]
 rw [hnd'] at ha e3 e4 h1 l1 k1;have hsz:x.sz=x.a.sz+x.b.sz+1:=rfl;rw [hsz] at hl;unfold qA at hl;simp only [It.sz] at e2 e3;simp only at e4 h1 l1 k1;generalize H.alloc (OR [.int .i64 (x.k:Nat),.int .u64 0,a] xf)=H1 at *;obtain ⟨i1,i2⟩:=qZ ha h1.fr (i:=0) rfl (z:=0) rfl;simp only [↓qh,qq,reduceIte,reduceEqDiff,LO,qi,e1,e2,e3,e4,l1.ld,i1 .i64,i2];refine C3.q (Cv hc x.a (d:=0) hsx hox hsm.1 (by omega) h1 (by unfold qA;omega)) λ v H2 ⟨h2,k2⟩=>?_;have hxt:=x.a.bK 0 hsm.1;have l2:=l1.step k2;have hbs:Op.buildSlice oG 3 [.str []] [(0,1),(1,1),(2,1)] [.str [32,61,61,32],.str [32,33,61,32],.str [32,60,32]]=some (.row ([[32,61,61,32],[32,33,61,32],[32,60,32]].map AV.str) oG (0,0) true,Op.sliceTo 3 3):=rfl;have hf3:Fr Em H2 (H2.alloc (.row ([[32,61,61,32],[32,33,61,32],[32,60,32]].map AV.str) oG (0,0) true)):=(Fr.refl H2).alloc _;have h3:=h2.em hf3;have k3:=BK.fr (b:=b) hf3 h2.hi;have l3:=l2.step k3;have hw:=q6h H2 [[32,61,61,32],[32,33,61,32],[32,60,32]] oG 3 (0,0) true rfl;have hi:([[32,61,61,32],[32,33,61,32],[32,60,32]]:List (List UInt8))[x.k-11]? = some (py x.k):=by
  rcases (show x.k=11\/x.k=12\/x.k=13 by omega) with q|q|q<;>rw [q]<;>rfl
 have ws:ae .i64 ((x.k:Int)-11)=((x.k-11:Nat):Int):=by rw [zk (by omega) (by omega)];omega
 have f1:=hw.idx hi (z:=((x.k-11:Nat):Int)) rfl .i64;have f2:=hw.gU q8x hi (by decide);have hn:Op.sliceTo 3 3 H2.next=.slice H2.next 0 3 3:=rfl
 simp only [↓qh,qq,reduceIte,reduceEqDiff,LO,hbs,hn,l3.ld,ws,f1,f2,sI];have hcl:=q8v x.k;refine C3.q (mc (M:=M) (s:=py x.k) h3 (xap _) (by simp;omega)) λ v H4 ⟨h4,k4⟩=>?_;have l4:=l3.step k4;obtain ⟨j1,j2⟩:=qZ ha h4.fr (i:=1) rfl (z:=1) rfl;simp only [↓qh,qq,reduceIte,reduceEqDiff,LO,l4.ld,j1 .i64,j2];refine C3.q (Cv hc x.b (d:=0) hsy hoy hsm.2 (by omega) h4 (by unfold qA;simp;omega)) λ v H5 ⟨h5,k5⟩=>?_;simp only [↓qh,qq,reduceIte,reduceEqDiff,LO];refine ⟨?_,(((k1.trans k2).trans k3).trans k4).trans k5⟩
 simpa only [Cn.cR,qt] using h5
def SP (M:aO) (H0:AHeap) (tv:AV) (ts:List Nd) (s:Lang.St):Prop:=∀ (H:AHeap) (b bb d:Nat) (xs:List UInt8),bj ts bb (s.enc bb)->s.ok->s.small->d+s.sz<=4000->WS H0 H b tv xs->xs.length+(s.cR d).length<=1000000000 ->
 ye M jk [.ptr b 0,.int .i64 ((bb+s.sz-1:Nat):Int),.int .i64 (d:Int)] H λ v H'=>WS H0 H' b tv (xs++s.cR d)/\BK b H H'
def av:Ls->List Lang.St
 | .nil=>[]
 | .cons s l=>s::av l
theorem NR:∀ l:Ls,l.kL=(av l).map It.s
 | .nil=>rfl
 | .cons s l=>by simp [Ls.kL,av,NR l]
def ll (d:Nat) (s:Lang.St):List UInt8:=ind d++s.cR d ++ [10]
theorem xfb (d:Nat):∀ l:Ls,l.cR d=(av l).flatMap (ll d)
 | .nil=>rfl
 | .cons s l=>by simp [Ls.cR,av,ll,xfb d l]
theorem Lb:∀ l:Ls,l.ok -> ∀ s ∈ av l,s.ok
 | .nil,_,s,h=>by cases h
 | .cons x l,ho,s,h=>by
  rcases x8.1 h with rfl|h
  ·exact ho.1
  ·exact Lb l ho.2 s h
theorem OO:∀ l:Ls,l.small -> ∀ s ∈ av l,s.small
 | .nil,_,s,h=>by cases h
 | .cons x l,ho,s,h=>by
  rcases x8.1 h with rfl|h
  ·exact ho.1
  ·exact OO l ho.2 s h
theorem vQ:∀ l:Ls,∀ s ∈ av l,s.sz<=l.sz
 | .nil,s,h=>by cases h
 | .cons x l,s,h=>by
  simp only [Ls.sz];rcases x8.1 h with rfl|h
  ·omega
  ·have:=vQ l s h;omega
theorem KX:∀ l:Ls,(av l).length<=l.sz
 | .nil=>qf 0
 | .cons s l=>by have:=KX l;have:=s.pos;simp only [av,Ls.sz,qn];omega
theorem MI {ts:List Nd} {bb:Nat} {l:Ls} (hs:bj ts bb (l.enc bb)) {j:Nat} {s:Lang.St} (h:(av l)[j]? = some s):∃ c,(ints (l.ends bb))[j]? = some ((c+s.sz-1:Nat):Int)/\bj ts c (s.enc c):=by
 have h':l.kL[j]? = some (.s s):=by rw [NR,xj,h];rfl
 obtain ⟨c,h1,h2,h3,u,v,h4,h5⟩:=K5 l.kL bb j (.s s) h';refine ⟨c,by rw [ints,xj,l.fv,h1];rfl,?_⟩;rw [l.ni,h4] at hs;exact (hs.right (c:=c) h5.symm).left
theorem Nw (l:Ls) (bb:Nat):(ints (l.ends bb)).length=(av l).length:=by
 rw [ints,vo,l.fv,nV,NR,vo]
theorem q2v {α:Type} (f:α->List UInt8) (l:List α) (j:Nat) {x:α} (h:l[j]? = some x):((l.take j).flatMap f).length+(f x).length<=(l.flatMap f).length:=by
 have e:=congrArg (λ k=>(List.flatMap f k).length) (BC j l);simp only [Eo,qg] at e;rw [Lj h,jl,qg] at e;omega
theorem xdy {H0:AHeap} {tv:AV} {ts:List Nd} (hc:WC H0 tv ts) (l:Ls) (hsp:∀ s ∈ av l,SP M H0 tv ts s) {H:AHeap} {b bb d:Nat} {xs:List UInt8} (hs:bj ts bb (l.cu bb)) (ho:l.ok) (hsm:l.small) (hd:d+l.sz<=4000) (h:WS H0 H b tv xs) (hl:xs.length+(l.cR d).length<=1000000000) :
 ye M CR [.ptr b 0,.int .i64 ((bb+l.sz:Nat):Int),.int .i64 (d:Int)] H λ v H'=>WS H0 H' b tv (xs++l.cR d)/\BK b H H':=by
 refine qt9 ?_;obtain ⟨hnd,-⟩:=bj.nd (x:=.l l) hs;have hse:bj ts bb (l.enc bb):=hs.left;have hsz:(It.l l).sz=l.sz+1:=rfl;rw [hsz,show bb+(l.sz+1)-1=bb+l.sz by omega] at hnd;have hnd':(It.l l).nd bb=⟨20,0,ints (l.ends bb)⟩:=by simp [It.nd,It.kn,It.ks,Ls.fv]
 rw [hnd'] at hnd;obtain ⟨a,ha,h2,h3,h4,_,_,h7⟩:=hc.nd.vP hnd h.fr;have hal:=ha.len;rw [Nw] at hal;have hlen:=KX l;rw [xfb] at hl ⊢;simp only [↓qh,qq,reduceIte,reduceEqDiff,Gg,qi,h.tv,h3,h7,hal];refine bS.intro (λ k E' H'=>∃ j,E'=[(17,.int .i64 (j:Nat)),(16,.int .i64 ((av l).length:Nat)),(15,a),(0,.ptr b 0),(2,.int .i64 (d:Int))]/\k=(av l).length-j/\j<=(av l).length/\WS H0 H' b tv (xs++((av l).take j).flatMap (ll d))/\BK b H H') ?_ ?_
 ·exact ⟨_,_,⟨0,rfl,rfl,by omega,by simpa using h,BK.refl _ _⟩,by simp only [↓qh,qq,reduceIte,reduceEqDiff]⟩
 rintro k E' Hc ⟨j,rfl,rfl,hj,hw,hk⟩;rcases kg j (av l).length with aT|hge
 ·have q1:(j:Int)<((av l).length:Nat):=by omega
  obtain ⟨s,hsj⟩:∃ s,(av l)[j]? = some s:=⟨(av l)[j],by simp [aT]⟩
  have hm:=xv hsj;obtain ⟨c,hkc,hsc⟩:=MI hse hsj;obtain ⟨i1,i2⟩:=qZ ha hw.fr hkc (z:=(j:Int)) rfl;have hfl:=q2v (ll d) (av l) j hsj;have hll:(ll d s).length=2*d+(s.cR d).length+1:=by simp [ll,sr];omega
  have hszs:=vQ l s hm;simp only [↓qh,qq,reduceIte,reduceEqDiff,Gg,q1,i1 .i64,i2];refine C3.q (qx8 (M:=M) (d:=d) (by omega)) λ v H2 ⟨hv,hf2⟩=>?_;subst hv;refine C3.q (mc (M:=M) (hw.em hf2) (q4z d) (by rw [sr,qg];omega)) λ v H3 ⟨h3,k3⟩=>?_;simp only [↓qh,qq,reduceIte,reduceEqDiff,Gg];refine C3.q (hsp s hm _ _ _ _ _ hsc (Lb l ho s hm) (OO l hsm s hm) (by omega) h3 (by simp only [qg,sr];omega)) λ v H4 ⟨h4,k4⟩=>?_;simp only [↓qh,qq,reduceIte,reduceEqDiff,Gg];refine C3.q (mc (M:=M) (s:=[10]) h4 (by decide) (by simp only [qg,sr,qn,qw];omega)) λ v H5 ⟨h5,k5⟩=>?_;have wj:ae .i64 ((j:Int)+1)=((j+1:Nat):Int):=by rw [zk (by omega) (by omega)];omega
  simp only [↓qh,qq,reduceIte,reduceEqDiff,Gg,wj];refine ⟨_,_,⟨j+1,rfl,rfl,by omega,?_,((hk.trans (BK.fr hf2 hw.hi)).trans k3).trans (k4.trans k5)⟩,by simp only [↓qh,qq,reduceIte,reduceEqDiff],by omega⟩;rw [Dj,hsj,Eo]
  simpa [ll,qt] using h5
 ·have hje:j=(av l).length:=by omega
  subst hje;have q1:¬ (((av l).length:Nat):Int)<((av l).length:Nat):=by omega
  rw [Jq] at hw;simp only [↓qh,qq,reduceIte,reduceEqDiff,Gg,q1];exact ⟨hw,hk⟩
def gH (l:Ls) (d:Nat):List UInt8:=[123,10]++l.cR (d+1)++(ind d ++ [125])
theorem Nm {H0:AHeap} {tv:AV} {ts:List Nd} (hc:WC H0 tv ts) (l:Ls) (hsp:∀ s ∈ av l,SP M H0 tv ts s) {H:AHeap} {b bb d:Nat} {xs:List UInt8} (hs:bj ts bb (l.cu bb)) (ho:l.ok) (hsm:l.small) (hd:d+1+l.sz<=4000) (h:WS H0 H b tv xs) (hl:xs.length+(gH l d).length<=1000000000) :
 ye M vk [.ptr b 0,.int .i64 ((bb+l.sz:Nat):Int),.int .i64 (d:Int)] H λ v H'=>WS H0 H' b tv (xs++gH l d)/\BK b H H':=by
 refine qss ?_;have hbl:(gH l d).length=2+(l.cR (d+1)).length+(2*d+1):=by simp [gH,sr];omega
 have wd:ae .i64 ((d:Int)+1)=((d+1:Nat):Int):=by rw [zk (by omega) (by omega)];omega
 simp only [↓qh,qq,reduceIte,reduceEqDiff,Iz];refine C3.q (mc (M:=M) (s:=[123,10]) h (by decide) (by simp;omega)) λ v H2 ⟨h2,k2⟩=>?_;simp only [↓qh,qq,reduceIte,reduceEqDiff,Iz,wd];refine C3.q (xdy hc l hsp (d:=d+1) hs ho hsm (by omega) h2 (by simp;omega)) λ v H3 ⟨h3,k3⟩=>?_;simp only [↓qh,qq,reduceIte,reduceEqDiff,Iz];refine C3.q (qx8 (M:=M) (d:=d) (by omega)) λ v H4 ⟨hv,hf4⟩=>?_;subst hv;have hcat:Op.bin .add [.str (ind d),.str [125]]=some (.str (ind d ++ [125])):=pX _ _ (by simp [sr];omega);simp only [↓qh,qq,reduceIte,reduceEqDiff,Iz,hcat];refine C3.q (mc (M:=M) (s:=ind d ++ [125]) (h3.em hf4) (Jj (q4z d) (by decide)) (by simp [sr];omega)) λ v H5 ⟨h5,k5⟩=>?_;simp only [↓qh,qq,reduceIte,reduceEqDiff,Iz];refine ⟨?_,((k2.trans k3).trans (BK.fr hf4 h3.hi)).trans k5⟩
 simpa only [gH,qt] using h5
theorem yS (H:AHeap) {k:Int} {w:List UInt8} (hk:k=16/\w=[105,102,32,40]\/k=17/\w=[119,104,105,108,101,32,40]):∃ o,Op.buildSlice oG 2 [.str []] [(0,1),(1,1)] [.str [105,102,32,40],.str [119,104,105,108,101,32,40]]=some (o,Op.sliceTo 2 2) /\
 Op.aJ 1 [Op.sliceTo 2 2 H.next,.int .i64 (ae .i64 (k-16))]=some (.ptr H.next (k-16).toNat)/\Op.aa [.ptr H.next (k-16).toNat] (H.alloc o)=some (.str w):=by
 refine ⟨.row [.str [105,102,32,40],.str [119,104,105,108,101,32,40]] oG (0,0) true,rfl,?_,?_⟩
 ·rcases hk with ⟨rfl,rfl⟩|⟨rfl,rfl⟩<;>rfl
 ·rw [nD];rcases hk with ⟨rfl,rfl⟩|⟨rfl,rfl⟩<;>rfl
end Go.Am
