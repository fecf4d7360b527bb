/- LqO3: NmA NmB LpH LpI LpJ. -/
import Derived.Test.YtbimikjajohflaaDoorAmOCodeO
import Derived.Test.YtbimikjajohflaaDoorAmOLqO0
import Derived.Test.YtbimikjajohflaaDoorAmOLqO2
set_option linter.unusedVariables false
set_option linter.unusedSimpArgs false
set_option maxRecDepth 100000
set_option linter.unusedSectionVars false
namespace Go.Am
open Lang (dec)
variable {M:Mac} [MK M]
theorem sm0 {k:IntKind} {i:Nat} (h:i<100):Op.indexStr [.str ww,.int k ((i*2:Nat):Int)]=some (.int .u8 ((48+i / 10:Nat):Int)):=by
 have key:∀ i:Fin 100,ww[i.1*2]? = some (UInt8.ofNat (48+i.1 / 10)):=by decide +kernel
 rw [qew rfl (key ⟨i,h⟩),Tr.ofNat_lt (by dsimp;omega)]
theorem sm1 {k:IntKind} {i:Nat} (h:i<100):Op.indexStr [.str ww,.int k ((i*2+1:Nat):Int)]=some (.int .u8 ((48+i % 10:Nat):Int)):=by
 have key:∀ i:Fin 100,ww[i.1*2+1]? = some (UInt8.ofNat (48+i.1 % 10)):=by decide +kernel
 rw [qew rfl (key ⟨i,h⟩),Tr.ofNat_lt (by dsimp;omega)]
theorem st1 {H:AHeap} {b e:Nat} {c:List AV} {p:Nat} {k:IntKind} {v:Int} (h:p<c.length):Op.store 1 [.ptr b p,.int k v] (H.set b (OR c e))=some (.undef,H.set b (OR (c.set p (.int k v)) e)):=by
 rw [qda (o:=p) (n:=1) (v:=.int k v) (ji ..) rfl (by omega) rfl,qwp]
 congr 3
 rw [yw,xi h]
 simp [AV.cells]
theorem st0 {H:AHeap} {b e:Nat} {c:List AV} {p:Nat} {k:IntKind} {v:Int} (hg:H.get b=some (OR c e)) (h:p<c.length):Op.store 1 [.ptr b p,.int k v] H=some (.undef,H.set b (OR (c.set p (.int k v)) e)):=by
 rw [qda (o:=p) (n:=1) (v:=.int k v) hg rfl (by omega) rfl]
 congr 3
 rw [yw,xi h]
 simp [AV.cells]
theorem ix {b o n c i:Nat} {k:IntKind} (h:i<n):Op.indexSl 1 [.slice b o n c,.int k (i:Int)]=some (.ptr b (o+i)):=by
 have h1:=qes h
 simp [Op.indexSl,lenV,qin (z:=(i:Int)) rfl h,elemAt,h1]
def Dg (c:List AV) (o k d n:Nat):Prop:=c.length=24 /\ ∀ j,k<=j->j<=d->c[o+j]? = some (.int .u8 ((dig n (d-j):Nat):Int))
theorem Dg.step {c:List AV} {o k d n v:Nat} (h:Dg c o (k+1) d n) (hv:v=dig n (d-k)) (ho:o+k<24):Dg (c.set (o+k) (.int .u8 (v:Int))) o k d n:=by
 refine ⟨by rw [jb];exact h.1,fun j h1 h2=>?_⟩
 have hl:=h.1
 rw [List.getElem?_set]
 by_cases e:k=j
 ·subst e;rw [xi rfl,xi (by omega),hv]
 ·rw [qt (by omega),h.2 j (by omega) h2]
theorem Dg.steps {c:List AV} {o k d n v:Nat} (h:Dg c o (k+1) d n) (hv:v=dig n (d-k)) (ho:o+k<24) {i:Nat} (hi:i=o+k):Dg (c.set i (.int .u8 (v:Int))) o k d n:=by subst hi;exact h.step hv ho
structure Tl (H0 H:AHeap) (b o d e:Nat) (n r u:Nat) (c:List AV):Prop where
 fu:u=n / 10 ^ (d+1-r)
 lt:u<10 ^ r
 le:r<=d+1
 od:o+d+1<=24
 get:H.get b=some (OR c e)
 st:∀ c2,H.set b (OR c2 e)=H0.set b (OR c2 e)
 dg:Dg c o r d n
def TlQ (H0:AHeap) (b o d e n:Nat) (v:AV) (H':AHeap):Prop:=∃ c',H'=H0.set b (OR c' e)/\Dg c' o 0 d n
theorem Tl.dig {H0 H:AHeap} {b o d e n r u:Nat} {c:List AV} (h:Tl H0 H b o d e n r u c) (i:Nat):Am.dig n (d+1-r+i)=48+u / 10 ^ i % 10:=by rw [<-q40,<-h.fu];rfl
theorem Tl.next {H0 H:AHeap} {b o d e n r u k:Nat} {c c2:List AV} (h:Tl H0 H b o d e n r u c) (hk:k<=r) (hd:Dg c2 o (r-k) d n):Tl H0 (H0.set b (OR c2 e)) b o d e n (r-k) (u / 10 ^ k) c2:=by
 obtain ⟨h1,h2,h3,h4,h5,h6,h7⟩:=h
 refine ⟨?_,?_,by omega,h4,ji ..,fun c2=>qwp ..,hd⟩
 ·rw [h1,show d+1-(r-k)=d+1-r+k by omega,qd9,qa3]
 ·have e1:10 ^ r=10 ^ (r-k)*10 ^ k:=by rw [<-qd9];congr 1;omega
  rw [e1] at h2;exact Nat.div_lt_of_lt_mul (by rw [Nat.mul_comm];exact h2)
theorem tail1 {H0 H:AHeap} {b o d cp e n r u:Nat} {c:List AV} {E:Env} {ctx:Ctx} (h:Tl H0 H b o d e n r u c) (hH:r=0 -> ∃ c',H=H0.set b (OR c' e)/\c'=c) (hr:r<2) (e0:lk E 0=some (.slice b o (d+1) cp)) (e4:lk E 4=some (.int .i64 (r:Nat))) (e12:lk E 12=some (.int .u32 (u:Nat))) :
 W M ctx (qj 61) true (FIN3 M [] (RT3 (TlQ H0 b o d e n))) E [] H:=by
 have hcl:=h.dg.1
 have hod:=h.od
 by_cases h1:r=0
 ·subst h1
  obtain ⟨c',rfl,rfl⟩:=hH rfl
  have e5:¬ (0:Int)<((0:Nat):Int):=by omega
  simp (disch:=first|omega|(simp only [jb];omega)) only [↓qh,qx,reduceIte,Nat.reduceEqDiff,z6,e4,e5]
  exact ⟨_,rfl,h.dg⟩
 ·have hr1:r=1:=by omega
  subst hr1
  have e5:(0:Int)<((1:Nat):Int):=by omega
  have hu:u<10:=by simpa using h.lt
  have i0:=ix (b:=b) (o:=o) (n:=d+1) (c:=cp) (i:=0) (k:=.i64) (by omega)
  rw [show ((0:Nat):Int)=0 from rfl] at i0
  simp (disch:=first|omega|(simp only [jb];omega)) only [↓qh,qx,reduceIte,Nat.reduceEqDiff,z6,e4,e5,e0,e12,w_48,w_u8,i0,st0 h.get,h.st]
  have g0:=h.dig 0
  exact ⟨_,rfl,h.dg.steps (v:=48+u) (by rw [show d-0=d+1-1+0 by omega,g0];simp;omega) (by omega) rfl⟩
theorem tail2 {H0 H:AHeap} {b o d cp e n r u:Nat} {c:List AV} {E:Env} {ctx:Ctx} (h:Tl H0 H b o d e n r u c) (hH:r=0 -> ∃ c',H=H0.set b (OR c' e)/\c'=c) (hr:r<4) (e0:lk E 0=some (.slice b o (d+1) cp)) (e4:lk E 4=some (.int .i64 (r:Nat))) (e12:lk E 12=some (.int .u32 (u:Nat))) :
 W M ctx (qj 49) true (FIN3 M [] (RT3 (TlQ H0 b o d e n))) E [] H:=by
 obtain ⟨-,-,-,-,-,-,w49,-,-,-,-,-,-⟩:=z6 M ctx
 have hcl:=h.dg.1
 have hod:=h.od
 have hle:=h.le
 by_cases h1:2<=r
 ·have e5:(2:Int)<=(r:Int):=by omega
  have hu:u<10000:=qi h.lt (Nat.pow_le_pow_right (by decide) (show r<=4 by omega))
  have g0:=h.dig 0
  have g1:=h.dig 1
  simp only [Nat.reducePow] at g0 g1
  have s1:=(show Dg c o (r-1+1) d n by rw [show r-1+1=r by omega];exact h.dg).steps (v:=48+u % 100 % 10) (by rw [show d-(r-1)=d+1-r+0 by omega,g0];omega) (by omega) (i:=o+(r-1)) rfl
  have s2:=(show Dg _ o (r-2+1) d n by rw [show r-2+1=r-1 by omega];exact s1).steps (v:=48+u % 100 / 10) (by rw [show d-(r-2)=d+1-r+1 by omega,g1];omega) (by omega) (i:=o+(r-2)) rfl
  simp (disch:=first|omega|(simp only [jb];omega)) only [↓qh,qx,reduceIte,Nat.reduceEqDiff,w49,e4,e5,e0,e12,n_rem,qzx,q02,q01,q03,w_u32,Int.reduceToNat,sm0,sm1,ix,st0 h.get,h.st,st1]
  exact tail1 (cp:=cp) (h.next h1 s2) (fun _=>⟨_,rfl,rfl⟩) (by omega) (by simp only [↓qh,qx,reduceIte,Nat.reduceEqDiff,e0]) (by simp only [↓qh,qx,reduceIte,Nat.reduceEqDiff]) (by simp only [↓qh,qx,reduceIte,Nat.reduceEqDiff])
 ·have e5:¬ (2:Int)<=(r:Int):=by omega
  simp (disch:=first|omega|(simp only [jb];omega)) only [↓qh,qx,reduceIte,Nat.reduceEqDiff,w49,e4,e5]
  exact tail1 h hH (by omega) e0 e4 e12
theorem tail4 {H0 H:AHeap} {b o d cp e n r u:Nat} {c:List AV} {E:Env} {ctx:Ctx} (h:Tl H0 H b o d e n r u c) (hH:r=0 -> ∃ c',H=H0.set b (OR c' e)/\c'=c) (hr:r<8) (e0:lk E 0=some (.slice b o (d+1) cp)) (e4:lk E 4=some (.int .i64 (r:Nat))) (e12:lk E 12=some (.int .u32 (u:Nat))) :
 W M ctx (qj 33) true (FIN3 M [] (RT3 (TlQ H0 b o d e n))) E [] H:=by
 obtain ⟨-,-,-,-,w33,-,-,w39,-,-,w43,-,-⟩:=z6 M ctx
 have hcl:=h.dg.1
 have hod:=h.od
 have hle:=h.le
 by_cases h1:4<=r
 ·have e5:(4:Int)<=(r:Int):=by omega
  have hu:u<100000000:=qi h.lt (Nat.pow_le_pow_right (by decide) (show r<=8 by omega))
  have g0:=h.dig 0
  have g1:=h.dig 1
  have g2:=h.dig 2
  have g3:=h.dig 3
  simp only [Nat.reducePow] at g0 g1 g2 g3
  have s1:=(show Dg c o (r-1+1) d n by rw [show r-1+1=r by omega];exact h.dg).steps (v:=48+u % 10000 % 100 % 10) (by rw [show d-(r-1)=d+1-r+0 by omega,g0];omega) (by omega) (i:=o+(r-1)) rfl
  have s2:=(show Dg _ o (r-2+1) d n by rw [show r-2+1=r-1 by omega];exact s1).steps (v:=48+u % 10000 % 100 / 10) (by rw [show d-(r-2)=d+1-r+1 by omega,g1];omega) (by omega) (i:=o+(r-2)) rfl
  have s3:=(show Dg _ o (r-3+1) d n by rw [show r-3+1=r-2 by omega];exact s2).steps (v:=48+u % 10000 / 100 % 10) (by rw [show d-(r-3)=d+1-r+2 by omega,g2];omega) (by omega) (i:=o+(r-3)) rfl
  have s4:=(show Dg _ o (r-4+1) d n by rw [show r-4+1=r-3 by omega];exact s3).steps (v:=48+u % 10000 / 100 / 10) (by rw [show d-(r-4)=d+1-r+3 by omega,g3];omega) (by omega) (i:=o+(r-4)) rfl
  simp (disch:=first|omega|(simp only [jb];omega)) only [↓qh,qx,reduceIte,Nat.reduceEqDiff,w33,w39,w43,e4,e5,e0,e12,n_rem,qzx,q02,q01,q03,w_u32,Int.reduceToNat,sm0,sm1,ix,st0 h.get,h.st,st1]
  exact tail2 (cp:=cp) (h.next h1 s4) (fun _=>⟨_,rfl,rfl⟩) (by omega) (by simp only [↓qh,qx,reduceIte,Nat.reduceEqDiff,e0]) (by simp only [↓qh,qx,reduceIte,Nat.reduceEqDiff]) (by simp only [↓qh,qx,reduceIte,Nat.reduceEqDiff])
 ·have e5:¬ (4:Int)<=(r:Int):=by omega
  simp (disch:=first|omega|(simp only [jb];omega)) only [↓qh,qx,reduceIte,Nat.reduceEqDiff,w33,w39,w43,e4,e5]
  exact tail2 h hH (by omega) e0 e4 e12
theorem qy9 {H:AHeap} {b o d cp e:Nat} {c:List AV} {n:Nat} (hg:H.get b=some (OR c e)) (hc:c.length=24) (ho:o+d+1<=24) (hn:n<10 ^ (d+1)) (hn64:n<18446744073709551616) :
 yv M jp [.slice b o (d+1) cp,.int .u64 (n:Int)] H (TlQ H b o d e n):=by
 refine qgw ?_
 have l1:Op.lenSl [.slice b o (d+1) cp]=some (.int .i64 ((d+1:Nat):Int)):=rfl
 simp only [↓qh,qx,reduceIte,Nat.reduceEqDiff,z6,l1]
 refine LOOP3.intro (fun r E H'=>∃ k u c',E=[(0,.slice b o (d+1) cp),(1,.int .u64 (u:Nat)),(4,.int .i64 (k:Nat))]/\r=k/\k<=d+1/\u=n / 10 ^ (d+1-k)/\u<10 ^ k/\(H'=H/\k=d+1/\c'=c\/H'=H.set b (OR c' e))/\Dg c' o k d n) ?_ ?_
 ·exact ⟨_,_,⟨d+1,n,c,rfl,rfl,by omega,by simp,hn,.inl ⟨rfl,rfl,rfl⟩,hc,fun j h1 h2=>by omega⟩,by simp only [↓qh,qx,reduceIte,Nat.reduceEqDiff]⟩
 rintro r E H' ⟨k,u,c',rfl,rfl,hk,hu,hul,hH,hd⟩
 have hu64:u<18446744073709551616:=by rw [hu];exact Nat.lt_of_le_of_lt (qd8 ..) hn64
 have hg':H'.get b=some (OR c' e):=by
  rcases hH with ⟨rfl,_,rfl⟩|rfl
  ·exact hg
  ·exact ji ..
 have hset:∀ c2,H'.set b (OR c2 e)=H.set b (OR c2 e):=fun c2=>by
  rcases hH with ⟨rfl,_,_⟩|rfl
  ·rfl
  ·rw [qwp]
 have hcl:=hd.1
 simp only [↓qh,qx,reduceIte,Nat.reduceEqDiff,z6]
 refine IF3.dec (fun hge=>?_) (fun hlt=>?_)
 ·have hge:8<=r:=by omega
  simp (disch:=first|omega|(simp only [jb];omega)) only [↓qh,qx,reduceIte,Nat.reduceEqDiff,z6,n_rem,n_quo64,qzx,q02,q01,q03,w_u32,Int.reduceToNat,sm0,sm1,ix,st0 hg',hset,st1,jb,hcl]
  have hk8:r=(r-8)+8:=by omega
  refine ⟨_,_,⟨r-8,u / 100000000,_,rfl,rfl,by omega,?_,?_,.inr rfl,?_⟩,by simp only [↓qh,qx,reduceIte,Nat.reduceEqDiff],by omega⟩
  ·have e8:d+1-(r-8)=(d+1-r)+8:=by omega
   rw [hu,e8,qd9,qa3]
  ·have:10 ^ r=10 ^ (r-8)*100000000:=by conv=>lhs;rw [hk8,qd9]
   rw [this] at hul;exact Nat.div_lt_of_lt_mul (by rw [Nat.mul_comm];exact hul)
  ·have hdg:∀ i,dig n (d+1-r+i)=48+u / 10 ^ i % 10:=fun i=>by rw [<-q40,<-hu];rfl
   have g0:=hdg 0
   have g1:=hdg 1
   have g2:=hdg 2
   have g3:=hdg 3
   have g4:=hdg 4
   have g5:=hdg 5
   have g6:=hdg 6
   have g7:=hdg 7
   simp only [Nat.reducePow] at g0 g1 g2 g3 g4 g5 g6 g7
   have s1:=(show Dg c' o (r-1+1) d n by rw [show r-1+1=r by omega];exact hd).steps (v:=48+u % 100000000 % 10000 % 100 % 10) (by rw [show d-(r-1)=d+1-r+0 by omega,g0];omega) (by omega) (i:=o+(r-1)) rfl
   have s2:=(show Dg _ o (r-2+1) d n by rw [show r-2+1=r-1 by omega];exact s1).steps (v:=48+u % 100000000 % 10000 % 100 / 10) (by rw [show d-(r-2)=d+1-r+1 by omega,g1];omega) (by omega) (i:=o+(r-2)) rfl
   have s3:=(show Dg _ o (r-3+1) d n by rw [show r-3+1=r-2 by omega];exact s2).steps (v:=48+u % 100000000 % 10000 / 100 % 10) (by rw [show d-(r-3)=d+1-r+2 by omega,g2];omega) (by omega) (i:=o+(r-3)) rfl
   have s4:=(show Dg _ o (r-4+1) d n by rw [show r-4+1=r-3 by omega];exact s3).steps (v:=48+u % 100000000 % 10000 / 100 / 10) (by rw [show d-(r-4)=d+1-r+3 by omega,g3];omega) (by omega) (i:=o+(r-4)) rfl
   have s5:=(show Dg _ o (r-5+1) d n by rw [show r-5+1=r-4 by omega];exact s4).steps (v:=48+u % 100000000 / 10000 % 100 % 10) (by rw [show d-(r-5)=d+1-r+4 by omega,g4];omega) (by omega) (i:=o+(r-5)) rfl
   have s6:=(show Dg _ o (r-6+1) d n by rw [show r-6+1=r-5 by omega];exact s5).steps (v:=48+u % 100000000 / 10000 % 100 / 10) (by rw [show d-(r-6)=d+1-r+5 by omega,g5];omega) (by omega) (i:=o+(r-6)) rfl
   have s7:=(show Dg _ o (r-7+1) d n by rw [show r-7+1=r-6 by omega];exact s6).steps (v:=48+u % 100000000 / 10000 / 100 % 10) (by rw [show d-(r-7)=d+1-r+6 by omega,g6];omega) (by omega) (i:=o+(r-7)) rfl
   have s8:=(show Dg _ o (r-8+1) d n by rw [show r-8+1=r-7 by omega];exact s7).steps (v:=48+u % 100000000 / 10000 / 100 / 10) (by rw [show d-(r-8)=d+1-r+7 by omega,g7];omega) (by omega) (i:=o+(r-8)) rfl
   exact s8
 ·have hlt:r<8:=by omega
  have hu7:u<100000000:=qi hul (Nat.pow_le_pow_right (by decide) (show r<=8 by omega))
  obtain ⟨-,-,w31,-,-,-,-,-,-,-,-,-,-⟩:=z6 M ⟨none,jp⟩
  simp only [↓qh,qx,reduceIte,Nat.reduceEqDiff,w31,w_u32 (show u<4294967296 by omega)]
  refine tail4 (cp:=cp) ⟨hu,hul,hk,ho,hg',hset,hd⟩ (fun h0=>?_) hlt (by simp only [↓qh,qx,reduceIte,Nat.reduceEqDiff]) (by simp only [↓qh,qx,reduceIte,Nat.reduceEqDiff]) (by simp only [↓qh,qx,reduceIte,Nat.reduceEqDiff])
  rcases hH with ⟨_,h1,_⟩|h1
  ·omega
  ·exact ⟨c',h1,rfl⟩
end Go.Am
namespace Go.Am
open Lang (dec)
variable {M:Mac} [MK M]
def l8 (x:Nat):Nat:=(qn1.getD x 0).toNat
theorem l8_ok:∀ x:Fin 256,qn1[x.1]? = some (UInt8.ofNat (l8 x.1))/\l8 x.1<=8/\(1<=x.1->1<=l8 x.1/\2 ^ (l8 x.1-1)<=x.1)/\x.1<2 ^ l8 x.1:=by decide +kernel
theorem l8_ix {k:IntKind} {x:Nat} (h:x<256):Op.indexStr [.str qn1,.int k (x:Int)]=some (.int .u8 ((l8 x:Nat):Int)):=by
 obtain ⟨h1,h2,_⟩:=l8_ok ⟨x,h⟩
 rw [qew rfl h1,Tr.ofNat_lt (by dsimp at h2 ⊢;omega)]
def LenQ (n:Nat) (v:AV):Prop:=∃ L:Nat,v=.int .i64 (L:Nat)/\1<=L/\L<=64/\2 ^ (L-1)<=n/\n<2 ^ L
theorem len_end {base m n:Nat} (h0:base<=56) (h1:n / 2 ^ base=m) (h2:1<=m) (h3:m<256):LenQ n (.int .i64 ((base:Int)+((l8 m:Nat):Int))):=by
 obtain ⟨q1,q2,q3,q4⟩:=l8_ok ⟨m,h3⟩
 obtain ⟨q3,q5⟩:=q3 h2
 dsimp at q2 q3 q4 q5
 refine ⟨base+l8 m,by rw [Int.natCast_add],by omega,by omega,?_,?_⟩
 ·rw [show base+l8 m-1=(l8 m-1)+base by omega,qd9]
  rw [<-h1] at q5 ⊢
  exact x3 (zi _ q5) (Nat.div_mul_le_self ..)
 ·rw [Nat.add_comm,qd9]
  exact (Nat.div_lt_iff_lt_mul (Nat.pow_pos (by decide))).1 (by rw [h1];exact q4)
theorem shr32 (a:Nat):Op.bin .shr [.int .u64 (a:Int),.int .u64 32]=some (.int .u64 ((a / 4294967296:Nat):Int)):=n_shr (k:=.u64) (k':=.u64) (n:=32) (by decide)
theorem shr16 (a:Nat):Op.bin .shr [.int .u64 (a:Int),.int .u64 16]=some (.int .u64 ((a / 65536:Nat):Int)):=n_shr (k:=.u64) (k':=.u64) (n:=16) (by decide)
theorem shr8 (a:Nat):Op.bin .shr [.int .u64 (a:Int),.int .u64 8]=some (.int .u64 ((a / 256:Nat):Int)):=n_shr (k:=.u64) (k':=.u64) (n:=8) (by decide)
theorem shr18 (a:Nat):Op.bin .shr [.int .i64 (a:Int),.int .u64 18]=some (.int .i64 ((a / 262144:Nat):Int)):=n_shr (k:=.i64) (k':=.u64) (n:=18) (by decide)
theorem q5i {E:Env} {ctx:Ctx} {base m n:Nat} {H:AHeap} {Q:AV->AHeap->Prop} (h0:base<=56) (h1:n / 2 ^ base=m) (h2:1<=m) (h3:m<256) (e2:lk E 2=some (.int .i64 (base:Nat))) (e0:lk E 0=some (.int .u64 (m:Nat))) (hq:∀ v,LenQ n v->Q v H) :
 W M ctx (jg 26) true (FIN3 M [.tmp 2] (RT3 Q)) E [] H:=by
 have hl:=(l8_ok ⟨m,h3⟩).2.1
 dsimp at hl
 simp (disch:=first|omega|(simp only [jb];omega)) only [↓qh,qx,reduceIte,Nat.reduceEqDiff,qeu,e2,e0,w_u8,l8_ix,w_i64]
 have e:wrapI .i64 ((base:Int)+((l8 m:Nat):Int))=(base:Int)+((l8 m:Nat):Int):=jn (by omega) (by omega)
 rw [e];exact hq _ (len_end h0 h1 h2 h3)
theorem q5h {E:Env} {ctx:Ctx} {base m n:Nat} {H:AHeap} {Q:AV->AHeap->Prop} (h0:base<=48) (h1:n / 2 ^ base=m) (h2:1<=m) (h3:m<65536) (e2:lk E 2=some (.int .i64 (base:Nat))) (e0:lk E 0=some (.int .u64 (m:Nat))) (hq:∀ v,LenQ n v->Q v H) :
 W M ctx (jg 18) true (FIN3 M [.tmp 2] (RT3 Q)) E [] H:=by
 obtain ⟨-,-,-,w18,-⟩:=qeu M ctx
 have e8:wrapI .i64 ((base:Int)+8)=((base+8:Nat):Int):=by rw [jn (by omega) (by omega)];omega
 by_cases h:256<=m
 ·have e5:(256:Int)<=(m:Int):=by omega
  simp only [↓qh,qx,reduceIte,Nat.reduceEqDiff,w18,e0,e2,e5,shr8,e8]
  exact q5i (n:=n) (base:=base+8) (m:=m / 256) (by omega) (by rw [qd9,<-qa3,h1]) (by omega) (by omega) (by simp only [↓qh,qx,reduceIte,Nat.reduceEqDiff]) (by simp only [↓qh,qx,reduceIte,Nat.reduceEqDiff]) hq
 ·have e5:¬ (256:Int)<=(m:Int):=by omega
  simp only [↓qh,qx,reduceIte,Nat.reduceEqDiff,w18,e0,e2,e5]
  exact q5i (n:=n) (by omega) h1 h2 (by omega) e2 e0 hq
theorem q5g {E:Env} {ctx:Ctx} {base m n:Nat} {H:AHeap} {Q:AV->AHeap->Prop} (h0:base<=32) (h1:n / 2 ^ base=m) (h2:1<=m) (h3:m<4294967296) (e2:lk E 2=some (.int .i64 (base:Nat))) (e0:lk E 0=some (.int .u64 (m:Nat))) (hq:∀ v,LenQ n v->Q v H) :
 W M ctx (jg 10) true (FIN3 M [.tmp 2] (RT3 Q)) E [] H:=by
 obtain ⟨-,-,w10,-,-⟩:=qeu M ctx
 have e8:wrapI .i64 ((base:Int)+16)=((base+16:Nat):Int):=by rw [jn (by omega) (by omega)];omega
 by_cases h:65536<=m
 ·have e5:(65536:Int)<=(m:Int):=by omega
  simp only [↓qh,qx,reduceIte,Nat.reduceEqDiff,w10,e0,e2,e5,shr16,e8]
  exact q5h (n:=n) (base:=base+16) (m:=m / 65536) (by omega) (by rw [qd9,<-qa3,h1]) (by omega) (by omega) (by simp only [↓qh,qx,reduceIte,Nat.reduceEqDiff]) (by simp only [↓qh,qx,reduceIte,Nat.reduceEqDiff]) hq
 ·have e5:¬ (65536:Int)<=(m:Int):=by omega
  simp only [↓qh,qx,reduceIte,Nat.reduceEqDiff,w10,e0,e2,e5]
  exact q5h (n:=n) (by omega) h1 h2 (by omega) e2 e0 hq
theorem q2f {H:AHeap} {n:Nat} (h1:1<=n) (h2:n<18446744073709551616):yv M qa8 [.int .u64 (n:Int)] H fun v H'=>LenQ n v/\H'=H:=by
 refine qpx ?_
 obtain ⟨w0,w2,-,-,-⟩:=qeu M ⟨none,qa8⟩
 by_cases h:4294967296<=n
 ·have e5:(4294967296:Int)<=(n:Int):=by omega
  simp only [↓qh,qx,reduceIte,Nat.reduceEqDiff,w0,w2,e5,shr32]
  exact q5g (n:=n) (base:=32) (m:=n / 4294967296) (by omega) rfl (by omega) (by omega) rfl rfl fun v hv=>⟨hv,rfl⟩
 ·have e5:¬ (4294967296:Int)<=(n:Int):=by omega
  simp only [↓qh,qx,reduceIte,Nat.reduceEqDiff,w0,w2,e5]
  exact q5g (n:=n) (base:=0) (m:=n) (by omega) (by simp) h1 (by omega) rfl rfl fun v hv=>⟨hv,rfl⟩
def qL (L:Nat):Nat:=L*78913 / 262144
theorem qL_ok:∀ L:Fin 65,1<=L.1->qL L.1<=19/\2 ^ L.1<=10 ^ (qL L.1+1)/\(1<=qL L.1->10 ^ (qL L.1-1)<=2 ^ (L.1-1)):=by decide +kernel
theorem q26 {H:AHeap} {L:Nat} (h:L<=64):yv M ky [.int .i64 (L:Int)] H fun v H'=>v=.int .i64 ((qL L:Nat):Int)/\H'=H:=by
 refine qh8 ?_
 have e:wrapI .i64 ((L:Int)*78913)=((L*78913:Nat):Int):=by rw [jn (by omega) (by omega)];omega
 simp only [↓qh,qx,reduceIte,Nat.reduceEqDiff,qh9,e,shr18]
 rfl
theorem qud {H:AHeap} {q:Bool}:yv M kx [.bool q] H fun v H'=>v=.int .i64 ((cond q 1 0:Nat):Int)/\H'=H:=by
 refine qh5 ?_
 cases q<;>(simp only [↓qh,qx,reduceIte,Nat.reduceEqDiff,qh6];try rfl)
def PowT (H:AHeap):Prop:=H.cellsAt zt=some ((List.range 20).map fun k:Nat=>AV.int .u64 ((10 ^ k:Nat):Int))
theorem PowT.at {H:AHeap} (h:PowT H) {k:Nat} (hk:k<=19):Op.indexArr 20 1 [.ptr zt 0,.int .i64 (k:Int)]=some (.ptr zt k)/\Op.load1 [.ptr zt k] H=some (.int .u64 ((10 ^ k:Nat):Int)):=by
 have e:0+k*1=k:=by omega
 refine ⟨by rw [q3e rfl (show k<20 by omega),e],?_⟩
 rw [vo h,xh,List.getElem?_range (by omega)];rfl
theorem qty {H:AHeap} {n:Nat} (hp:PowT H) (h1:1<=n) (h2:n<18446744073709551616):yv M kz [.int .u64 (n:Int)] H fun v H'=>∃ d:Nat,v=.int .i64 ((d+1:Nat):Int)/\H'=H/\d<=19/\n<10 ^ (d+1)/\10 ^ d<=n:=by
 refine qib ?_
 simp only [↓qh,qx,reduceIte,Nat.reduceEqDiff,yx]
 refine C3.q (q2f (M:=M) h1 h2) fun v H' ⟨⟨L,hv,l1,l2,l3,l4⟩,hH⟩=>?_
 subst hv;subst hH
 refine C3.q (q26 (M:=M) l2) fun v H' ⟨hv,hH⟩=>?_
 subst hv;subst hH
 obtain ⟨q1,q2,q3⟩:=qL_ok ⟨L,by omega⟩ l1
 dsimp at q1 q2 q3
 generalize qL L=q at q1 q2 q3
 obtain ⟨n1,n2⟩:=hp.at q1
 have hlt:n<10 ^ (q+1):=qi l4 q2
 by_cases h:10 ^ q<=n
 ·have e:((10 ^ q:Nat):Int)<=(n:Int):=by exact_mod_cast h
  simp only [↓qh,qx,reduceIte,Nat.reduceEqDiff,yx,n1,n2,e]
  refine C3.q (qud (M:=M)) fun v H' ⟨hv,hH⟩=>?_
  subst hv;subst hH
  have ew:wrapI .i64 ((q:Int)+((1:Nat):Int))=((q+1:Nat):Int):=by rw [jn (by omega) (by omega)];omega
  simp only [↓qh,qx,reduceIte,Nat.reduceEqDiff,yx,ew]
  refine ⟨q,rfl,?_,hlt,h⟩
  have:10 ^ q<10 ^ 20:=Nat.lt_of_le_of_lt h (Nat.lt_trans h2 (by decide))
  have:=(Nat.pow_lt_pow_iff_right (a:=10) (by decide)).1 this
  omega
 ·have e:¬ ((10 ^ q:Nat):Int)<=(n:Int):=by exact_mod_cast h
  simp only [↓qh,qx,reduceIte,Nat.reduceEqDiff,yx,n1,n2,e]
  refine C3.q (qud (M:=M)) fun v H' ⟨hv,hH⟩=>?_
  subst hv;subst hH
  have q0:1<=q:=by
   rcases Nat.eq_zero_or_pos q with rfl|q0
   ·simp at h;omega
   ·exact q0
  have ew:wrapI .i64 ((q:Int)+0)=((q-1+1:Nat):Int):=by rw [jn (by omega) (by omega)];omega
  simp only [↓qh,qx,reduceIte,Nat.reduceEqDiff,yx,ew]
  exact ⟨q-1,rfl,by omega,by rw [show q-1+1=q by omega];omega,x3 (q3 q0) l3⟩
theorem q3v {H:AHeap} {n:Nat} (h:n<100):yv M y8 [.int .i64 (n:Int)] H fun v H'=>v=.str (dec n)/\H'=H:=by
 refine qkc ?_
 by_cases h1:n<10
 ·have e:(n:Int)<10:=by omega
  have key:∀ i:Fin 10,((qrq.take (i.1+1)).drop i.1)=[UInt8.ofNat (48+i.1)]/\i.1+1<=qrq.length:=by decide +kernel
  obtain ⟨k1,k2⟩:=key ⟨n,h1⟩
  dsimp only at k1 k2
  simp (disch:=first|omega|(simp only [jb];omega)) only [↓qh,qx,reduceIte,Nat.reduceEqDiff,qfu,e,w_inc64]
  rw [qnp (a:=n) (b:=n+1) (by omega) k2,k1]
  simp only [↓qh,qx,reduceIte,Nat.reduceEqDiff]
  rw [Lang.dec_lt h1]
 ·have e:¬ (n:Int)<10:=by omega
  have key:∀ i:Fin 100,((ww.take (i.1*2+2)).drop (i.1*2))=[UInt8.ofNat (48+i.1 / 10),UInt8.ofNat (48+i.1 % 10)]/\i.1*2+2<=ww.length:=by decide +kernel
  obtain ⟨k1,k2⟩:=key ⟨n,h⟩
  dsimp only at k1 k2
  have e2:wrapI .i64 ((n:Int)*2)=((n*2:Nat):Int):=by rw [jn (by omega) (by omega)];omega
  have e3:wrapI .i64 (((n*2:Nat):Int)+2)=((n*2+2:Nat):Int):=by rw [jn (by omega) (by omega)];omega
  simp only [↓qh,qx,reduceIte,Nat.reduceEqDiff,qfu,e,e2,e3]
  rw [qnp (a:=n*2) (b:=n*2+2) (by omega) k2,k1]
  simp only [↓qh,qx,reduceIte,Nat.reduceEqDiff]
  rw [Lang.dec_ge (by omega),Lang.dec_lt (show n / 10<10 by omega)];rfl
theorem q6u {H:AHeap} {b o d cp e n:Nat} {c:List AV} (hg:H.get b=some (OR c e)) (hd:Dg c o 0 d n) (hn:n<10 ^ (d+1)) (hn':d=0\/10 ^ d<=n) (ho:o+d+1<=24):Op.strOfBytes [.slice b o (d+1) cp] H=some (.str (dec n)):=by
 have hl:=qvg d n hn hn'
 have hc:=hd.1
 have key:(c.drop o).take (d+1)=(dec n).map fun c=>AV.int .u8 c.toNat:=by
  refine List.ext_getElem? fun j=>?_
  by_cases hj:j<=d
  ·rw [wc,xi (by omega),vz,hd.2 j (j8 _) hj,xh,q4y d n hn hn' j hj]
   show _=some (AV.int .u8 (((UInt8.ofNat (dig n (d-j))).toNat:Nat):Int))
   rw [Tr.ofNat_lt (by unfold dig;omega)]
  ·rw [vd (by rw [z9];omega),vd (by rw [xf];omega)]
 have hs:firstCells H 1 (d+1) (.slice b o (d+1) cp)=some ((dec n).map fun c=>AV.int .u8 c.toNat):=by
  have:Nat.beq (d+1) 0=false:=qcf (by omega)
  simp only [firstCells,this,qy,yu]
  rw [q1m (jk hg) (by omega),key]
 have hv:lenV (.slice b o (d+1) cp)=some (d+1):=rfl
 simp only [Op.strOfBytes,hv,qf,hs,qnc]
theorem qw4 {H:AHeap} {n:Nat} (hp:PowT H) (hl:zt<H.next) (hn:n<18446744073709551616):yv M kh [.int .u64 (n:Int),.int .i64 10] H fun v H'=>v=.str (dec n)/\Fr Em H H':=by
 refine qhi ?_
 by_cases h1:n<100
 ·have e:(n:Int)<100:=by omega
  simp (maxSteps:=4000000) (disch:=first|(simp only [jj,km];done) | (simp only [jj,km];omega) | omega) only [↓qh,qx,q33,qk,qu,jx,zr,jw,zq,qam,wy,Nat.reduceAdd,Nat.reduceSub,Nat.reduceLeDiff,Int.reduceLT,Int.reduceLE,Int.reduceEq,reduceIte,Nat.reduceEqDiff,qac,e]
  simp (disch:=first|omega|(simp only [jb];omega)) only [↓qh,qx,reduceIte,Nat.reduceEqDiff,w_i64]
  refine C3.q (q3v (M:=M) h1) fun v H' ⟨hv,hH⟩=>?_
  subst hv;subst hH
  simp only [↓qh,qx,reduceIte,Nat.reduceEqDiff]
  exact Fr.refl _
 ·have e:¬ (n:Int)<100:=by omega
  simp (maxSteps:=4000000) (disch:=first|(simp only [jj,km];done) | (simp only [jj,km];omega) | omega) only [↓qh,qx,q33,qk,qu,jx,zr,jw,zq,qam,wy,Nat.reduceAdd,Nat.reduceSub,Nat.reduceLeDiff,Int.reduceLT,Int.reduceLE,Int.reduceEq,reduceIte,Nat.reduceEqDiff,qac,e]
  have hf1:Fr Em H (H.alloc (.row (List.replicate 24 (.int .u8 0)) q4m (0,0) true)):=(Fr.refl H).alloc _
  have hp1:PowT (H.alloc (.row (List.replicate 24 (.int .u8 0)) q4m (0,0) true)):=(hf1.cells hl (fun h=>h)).trans hp
  refine C3.q (qty (M:=M) hp1 (by omega) hn) fun v H' ⟨d,hv,hH,d1,d2,d3⟩=>?_
  subst hv;subst hH
  have e1:Op.sliceArr 24 1 [none,some 0,none] [.ptr H.next 0,.int .i64 ((d+1:Nat):Int)]=some (.slice H.next 0 (d+1) 24):=qz1 (by omega) (by decide)
  simp only [↓qh,qx,reduceIte,Nat.reduceEqDiff,qac,e1]
  refine C3.q (qy9 (M:=M) (xr ..) (by simp) (by omega) d2 hn) fun v H' ⟨c',hH,hd⟩=>?_
  subst hH
  simp only [↓qh,qx,reduceIte,Nat.reduceEqDiff,qac,e1,q6u (ji ..) hd d2 (.inr d3) (by omega)]
  first|exact ⟨rfl,hf1.set (.inr (qg _)) _⟩|exact hf1.set (.inr (qg _)) _
theorem qrr {H:AHeap} {n:Nat} (hp:PowT H) (hl:zt<H.next) (hn:n<18446744073709551616):yv M qav [.int .u64 (n:Int),.int .i64 10] H fun v H'=>v=.str (dec n)/\Fr Em H H':=by
 refine qmw ?_
 simp only [↓qh,qx,reduceIte,Nat.reduceEqDiff,qht]
 refine C3.q (qw4 (M:=M) hp hl hn) fun v H' ⟨hv,hf⟩=>?_
 subst hv
 simp only [↓qh,qx,reduceIte,Nat.reduceEqDiff,qht]
 exact hf
end Go.Am
namespace Go.Am
open Lang Go.Proofs
variable {M:Mac} [MK M]
theorem q1t:∀ (s:List UInt8) (o p:Int),o-s.length<=(scan s (o,p)).1/\(scan s (o,p)).1<=o+s.length/\(scan s (o,p)).2<=max p (o+s.length)/\p<=(scan s (o,p)).2
 | [],o,p=>by simp [scan];omega
 | c::s,o,p=>by
  have:=q1t s (brk c o p).1 (brk c o p).2
  have hb:((brk c o p).1=o+1/\(brk c o p).2=max p (o+1))\/((brk c o p).1=o-1/\(brk c o p).2=p)\/((brk c o p).1=o/\(brk c o p).2=p):=by
   unfold brk;split
   ·exact .inl ⟨rfl,rfl⟩
   ·split
    ·exact .inr (.inl ⟨rfl,rfl⟩)
    ·exact .inr (.inr ⟨rfl,rfl⟩)
  have e:scan (c::s) (o,p)=scan s ((brk c o p).1,(brk c o p).2):=rfl
  rw [e,qk]
  rcases hb with ⟨h1,h2⟩|⟨h1,h2⟩|⟨h1,h2⟩<;>rw [h1,h2] at this ⊢<;>omega
section
variable {q:Bool} {T:Nat} {H0 H H':AHeap} {b:Nat} {xs:List UInt8} {rest:List AV}
theorem BE.setOff (h:BE q T H0 H b xs rest) {c:Nat} (hc:¬ BOn H b c) (hl:H0.next<=c) (o:AObj):BE q T H0 (H.set c o) b xs rest /\ ∀ x,BOn (H.set c o) b x ↔ BOn H b x:=by
 obtain ⟨⟨p,buf,h1,h2,h3,h4,h5⟩,lo,hi,ty⟩:=h
 rw [BOn.iff h1] at hc
 have g:(H.set c o).get b=some (OR (p::buf::rest) T):=by rw [qgt (fun k=>hc (.inl k))];exact h1
 exact ⟨⟨⟨p,buf,g,h2,h3.setOff hl (fun k=>hc (.inr k)) _,h4,h5⟩,lo,hi,ty⟩,fun x=>by rw [BOn.iff g,BOn.iff h1]⟩
end
abbrev WS (H0 H:AHeap) (b:Nat) (tv:AV) (xs:List UInt8):Prop:=BE false kq H0 H b xs [tv,.int .i64 (scan xs (0,0)).1,.int .i64 (scan xs (0,0)).2]
theorem max2 (a b:Int):Op.minmax true [.int .i64 a,.int .i64 b]=some (.int .i64 (max a b)):=by
 simp only [Op.minmax,Op.minmaxGo,qf,qn,qhq]
 by_cases q:a<b
 ·rw [qb8 q,qn];congr 2;omega
 ·rw [wq q,qy];congr 2;omega
theorem q1y (c:UInt8) (n:Nat) (h:n<256):c=UInt8.ofNat n ↔ c.toNat=n:=by
 constructor
 ·rintro rfl;rw [ju];exact qcn h
 ·intro e;rw [<-e];simp
theorem u40 (c:UInt8):c=40 ↔ c.toNat=40:=q1y c 40 (by omega)
theorem u41 (c:UInt8):c=41 ↔ c.toNat=41:=q1y c 41 (by omega)
theorem u123 (c:UInt8):c=123 ↔ c.toNat=123:=q1y c 123 (by omega)
theorem u125 (c:UInt8):c=125 ↔ c.toNat=125:=q1y c 125 (by omega)
def ascii (s:List UInt8):Prop:=∀ c ∈ s,c.toNat<128
theorem q6z {H0 H Hc:AHeap} {b I p:Nat} {tv:AV} {xs s:List UInt8} {rest:List AV} {c:UInt8} {Q:Post3} {E:Env} {o k:Int} (hbe:BE false kq H0 Hc b xs [tv,.int .i64 o,.int .i64 k]) (ho:-1000000000000<o/\o<1000000000000) (e0:lk E 0=some (.ptr b 0)) (e8:lk E 8=some (.tuple [.bool true,.int .i64 (p:Nat),.int .i32 c.toNat]))
 (hk:∀ H' E',BE false kq H0 H' b xs [tv,.int .i64 (brk c o k).1,.int .i64 (brk c o k).2]->(∀ x,BOn H' b x ↔ BOn Hc b x)->Fr (On b) Hc H'->(∀ n,n ≠ 5->n ≠ 11->n ≠ 12->n ≠ 34->lk E' n=lk E n)->Q .normal E' [] H') :
 W M ⟨none,xc⟩ (za 11) true Q E [] Hc:=by
 obtain ⟨-,-,-,w11,w23,w18,w27,w33⟩:=qjt M ⟨none,xc⟩
 have hbe0:=hbe
 obtain ⟨⟨pp,buf,h1,h2,h3,h4,h5⟩,lo,hi,ty⟩:=hbe
 have look:∀ {l:Env} {n:Nat},(∀ z ∈ l,z.1 ≠ n)->lk (l++E) n=lk E n:=by
  intro l n hl
  induction l with
  | nil=>rfl
  | cons z l ih=>rw [z8,qe2,qt (hl z (by simp))];exact ih fun y hy=>hl y (by simp [hy])
 have L:∀ o':Nat,Op.load1 [.ptr b o'] Hc=[pp,buf,tv,AV.int .i64 o,.int .i64 k][o']?:=fun o'=>vo (jk h1) o'
 have e3:∀ v:Int,Op.store 1 [.ptr b 3,.int .i64 v] Hc=some (.undef,Hc.set b (OR [pp,buf,tv,.int .i64 v,.int .i64 k] kq)):=fun v=>qda h1 rfl (by simp) rfl
 have fin:∀ (o' k':Int) (G:AHeap),G=Hc.set b (OR [pp,buf,tv,.int .i64 o',.int .i64 k'] kq)->BE false kq H0 G b xs [tv,.int .i64 o',.int .i64 k']/\(∀ x,BOn G b x ↔ BOn Hc b x)/\Fr (On b) Hc G:=by
  intro o' k' G hG;subst hG
  obtain ⟨r1,r2⟩:=hbe0.put (rest':=[tv,.int .i64 o',.int .i64 k']) h1 rfl
  exact ⟨r1,fun x=>by rw [BOn.iff (ji ..),BOn.iff h1],(Fr.refl Hc).set (W:=On b) (.inl rfl) _⟩
 by_cases c40:c.toNat=40\/c.toNat=123
 ·have hbr:brk c o k=(o+1,max k (o+1)):=by unfold brk;rw [xi (c40.imp (fun h=>(u40 c).2 h) fun h=>(u123 c).2 h)]
  have w:wrapI .i64 (o+1)=o+1:=jn (by omega) (by omega)
  have g1:(Hc.set b (OR [pp,buf,tv,.int .i64 (o+1),.int .i64 k] kq)).get b=some (OR [pp,buf,tv,.int .i64 (o+1),.int .i64 k] kq):=ji ..
  have L1:∀ o':Nat,Op.load1 [.ptr b o'] (Hc.set b (OR [pp,buf,tv,.int .i64 (o+1),.int .i64 k] kq))=[pp,buf,tv,AV.int .i64 (o+1),.int .i64 k][o']?:=fun o'=>vo (jk g1) o'
  have e4:Op.store 1 [.ptr b 4,.int .i64 (max k (o+1))] (Hc.set b (OR [pp,buf,tv,.int .i64 (o+1),.int .i64 k] kq))=some (.undef,(Hc.set b (OR [pp,buf,tv,.int .i64 (o+1),.int .i64 k] kq)).set b (OR [pp,buf,tv,.int .i64 (o+1),.int .i64 (max k (o+1))] kq)):=qda g1 rfl (by simp) rfl
  obtain ⟨f1,f2,f3⟩:=fin (o+1) (max k (o+1)) _ (qwp Hc b _ _)
  rw [hbr] at hk
  by_cases q:c.toNat=40
  ·have t1:=vf (show ((c.toNat:Nat):Int)=40 by omega)
   simp only [↓qh,qx,reduceIte,Nat.reduceEqDiff,w11,w18,w23,e8,zu,t1,e0,qp,L,w,e3,L1,max2,e4]
   exact hk _ _ f1 f2 f3 fun n q5 q11 q12 q34=>look (l:=[(12,_),(11,_),(5,_)]) (by intro z hz;simp at hz;rcases hz with rfl|rfl|rfl<;>simp<;>omega)
  ·have t1:¬ ((c.toNat:Nat):Int)=40:=by omega
   have t2:=vf (show ((c.toNat:Nat):Int)=123 by omega)
   simp only [↓qh,qx,reduceIte,Nat.reduceEqDiff,w11,w18,w23,e8,zu,t1,t2,e0,qp,L,w,e3,L1,max2,e4]
   exact hk _ _ f1 f2 f3 fun n q5 q11 q12 q34=>look (l:=[(12,_),(12,_),(11,_),(5,_)]) (by intro z hz;simp at hz;rcases hz with rfl|rfl|rfl|rfl<;>simp<;>omega)
 ·have n1:¬ ((c.toNat:Nat):Int)=40:=by omega
  have n2:¬ ((c.toNat:Nat):Int)=123:=by omega
  have b1:¬ (c=40\/c=123):=fun q=>c40 (q.imp (fun h=>(u40 c).1 h) fun h=>(u123 c).1 h)
  by_cases c41:c.toNat=41\/c.toNat=125
  ·have hbr:brk c o k=(o-1,k):=by unfold brk;rw [qt b1,xi (c41.imp (fun h=>(u41 c).2 h) fun h=>(u125 c).2 h)]
   have w:wrapI .i64 (o-1)=o-1:=jn (by omega) (by omega)
   obtain ⟨f1,f2,f3⟩:=fin (o-1) k _ rfl
   rw [hbr] at hk
   by_cases q:c.toNat=41
   ·have t1:=vf (show ((c.toNat:Nat):Int)=41 by omega)
    simp only [↓qh,qx,reduceIte,Nat.reduceEqDiff,w11,w18,w23,w27,w33,e8,zu,n1,n2,t1,e0,qp,L,w,e3]
    exact hk _ _ f1 f2 f3 fun n q5 q11 q12 q34=>look (l:=[(34,_),(12,_),(12,_),(11,_),(5,_)]) (by intro z hz;simp at hz;rcases hz with rfl|rfl|rfl|rfl|rfl<;>simp<;>omega)
   ·have t1:¬ ((c.toNat:Nat):Int)=41:=by omega
    have t2:=vf (show ((c.toNat:Nat):Int)=125 by omega)
    simp only [↓qh,qx,reduceIte,Nat.reduceEqDiff,w11,w18,w23,w27,w33,e8,zu,n1,n2,t1,t2,e0,qp,L,w,e3]
    exact hk _ _ f1 f2 f3 fun n q5 q11 q12 q34=>look (l:=[(34,_),(34,_),(12,_),(12,_),(11,_),(5,_)]) (by intro z hz;simp at hz;rcases hz with rfl|rfl|rfl|rfl|rfl|rfl<;>simp<;>omega)
  ·have n3:¬ ((c.toNat:Nat):Int)=41:=by omega
   have n4:¬ ((c.toNat:Nat):Int)=125:=by omega
   have hbr:brk c o k=(o,k):=by unfold brk;rw [qt b1,qt (fun q=>c41 (q.imp (fun h=>(u41 c).1 h) fun h=>(u125 c).1 h))]
   rw [hbr] at hk
   simp only [↓qh,qx,reduceIte,Nat.reduceEqDiff,w11,w18,w23,w27,w33,e8,zu,n1,n2,n3,n4,e0]
   exact hk _ _ hbe0 (fun x=>js) (Fr.refl _) fun n q5 q11 q12 q34=>look (l:=[(34,_),(34,_),(12,_),(12,_),(11,_),(5,_)]) (by intro z hz;simp at hz;rcases hz with rfl|rfl|rfl|rfl|rfl|rfl<;>simp<;>omega)
theorem vv {H0 H:AHeap} {b:Nat} {tv:AV} {xs s:List UInt8} (h:WS H0 H b tv xs) (hs:ascii s) (hl:xs.length+s.length<=100000000000) :
 yv M xc [.ptr b 0,.str s] H fun v H'=>WS H0 H' b tv (xs++s)/\BK b H H':=by
 refine qo4 ?_
 obtain ⟨w0,w36,w5,-,-,-,-,-⟩:=qjt M ⟨none,xc⟩
 have hlo:=h.fr.next
 have hbi:=h.hi
 simp only [↓qh,qx,reduceIte,Nat.reduceEqDiff,w0,q0c]
 have hf1:Fr Em H (H.alloc (.strIter s 0)):=(Fr.refl H).alloc _
 have hob:∀ x,BOn (H.alloc (.strIter s 0)) b x ↔ BOn H b x:=fun x=>by
  obtain ⟨⟨p,buf,h1,h2,h3,h4,h5⟩,lo,hi,ty⟩:=h
  rw [BOn.iff h1,BOn.iff (show (H.alloc (.strIter s 0)).get b=_ by rw [qfq hi];exact h1)]
 refine LOOP3.intro (fun k E' Hc=>∃ p,E'=[(7,.ptr H.next 0),(0,.ptr b 0),(1,.str s)]/\k=s.length-p/\p<=s.length/\Hc.get H.next=some (.strIter s p)/\H.next<Hc.next /\
  BE false kq H0 Hc b xs [tv,.int .i64 (scan (xs++s.take p) (0,0)).1,.int .i64 (scan (xs++s.take p) (0,0)).2]/\(∀ x,BOn Hc b x ↔ BOn H b x)/\Fr (On b) H Hc) ?_ ?_
 ·refine ⟨_,_,⟨0,rfl,rfl,by omega,xr ..,by rw [ze];omega,?_,hob,hf1.mono fun _ _ q=>q.elim⟩,by simp only [↓qh,qx,reduceIte,Nat.reduceEqDiff]⟩
  rw [jx,j7];exact h.em hf1
 rintro k E' Hc ⟨p,rfl,rfl,hp,hI,hIn,hbe,hon,hfr⟩
 have hI0:¬ BOn Hc b H.next:=fun q=>h.off (qg _) ((hon _).1 q)
 rcases ke p s.length with hlt|hge
 ·obtain ⟨c,hc⟩:∃ c,s[p]? = some c:=⟨s[p],by simp [hlt]⟩
  have h128:=hs c (zh hc)
  obtain ⟨hbe2,hon2⟩:=hbe.setOff hI0 hlo (.strIter s (p+1))
  have hsb:=q1t (xs++s.take p) 0 0
  rw [qe,z9] at hsb
  simp only [↓qh,qx,reduceIte,Nat.reduceEqDiff,w5,q5w hI hc h128,zu]
  refine q6z (M:=M) (p:=p) (c:=c) (rest:=[]) (s:=s) (I:=0) (H:=H) hbe2 (by omega) rfl rfl fun H2 E2 hbe3 hon3 hf3 hE=>?_
  have e7:lk E2 7=some (.ptr H.next 0):=by rw [hE 7 (by omega) (by omega) (by omega) (by omega)];rfl
  have e0:lk E2 0=some (.ptr b 0):=by rw [hE 0 (by omega) (by omega) (by omega) (by omega)];rfl
  have e1:lk E2 1=some (.str s):=by rw [hE 1 (by omega) (by omega) (by omega) (by omega)];rfl
  have hbI:b ≠ H.next:=by omega
  simp only [↓qh,qx,reduceIte,Nat.reduceEqDiff]
  refine ⟨_,_,⟨p+1,rfl,rfl,by omega,?_,?_,?_,fun x=>(hon3 x).trans ((hon2 x).trans (hon x)),?_⟩,by simp only [↓qh,qx,reduceIte,Nat.reduceEqDiff,e7,e0,e1],by omega⟩
  ·rw [hf3.keep _ (by rw [qmo];exact hIn) (fun q=>hbI q.symm),ji]
  ·exact qi (by rw [qmo];exact hIn) hf3.next
  ·have e:s.take (p+1)=s.take p ++ [c]:=by rw [vk,hc];rfl
   rw [e,<-qo,qbr]
   exact hbe3
  ·exact (hfr.set (W:=On b) (.inr (qg _)) _).trans hf3 fun x q=>.inl q
 ·have hpe:p=s.length:=by omega
  subst hpe
  rw [qbu] at hbe
  simp only [↓qh,qx,reduceIte,Nat.reduceEqDiff,w5,w36,q5v hI (qg _),zu,qp]
  refine C3.q (qna (M:=M) (s:=s) hbe (by omega)) fun v H2 ⟨hb2,hk2⟩=>?_
  simp only [↓qh,qx,reduceIte,Nat.reduceEqDiff]
  refine ⟨hb2,x3 hfr.next hk2.1,fun c hc hn=>?_⟩
  have hn':¬ BOn Hc b c:=fun q=>hn ((hon c).1 q)
  obtain ⟨r1,r2⟩:=hk2.2 c (qi hc hfr.next) hn'
  refine ⟨r1.trans (hfr.keep c hc fun q=>hn (.inl q)),r2⟩
end Go.Am
namespace Go.Am
open Lang Go.Proofs
variable {M:Mac} [MK M]
instance (s:List UInt8):Decidable (ascii s):=inferInstanceAs (Decidable (∀ c ∈ s,c.toNat<128))
theorem q6j (o:Nat):ascii (sgn o):=by unfold sgn;(repeat' split)<;>(intro c hc;simp at hc;subst hc;decide)
theorem q2v (o:Nat):ascii (csgn o):=by unfold csgn;(repeat' split)<;>(intro c hc;simp at hc;rcases hc with rfl|rfl|rfl|rfl<;>decide)
theorem qlo {a b:List UInt8} (ha:ascii a) (hb:ascii b):ascii (a++b):=fun c hc=>(xj.1 hc).elim (ha c) (hb c)
theorem qw7:∀ (k n:Nat),n<10 ^ (k+1)->ascii (dec n)
 | 0,n,h=>by rw [dec_lt (by simpa using h)];intro c hc;rw [xb.1 hc,ju];have:n<10:=by simpa using h
             omega
 | k+1,n,h=>by
  by_cases h1:n<10
  ·rw [dec_lt h1];intro c hc;rw [xb.1 hc,ju];omega
  ·rw [dec_ge (by omega)]
   refine qlo (qw7 k _ (by rw [qbh] at h;omega)) ?_
   intro c hc;rw [xb.1 hc,ju];omega
theorem q3t {H:AHeap} {o:Nat} (h1:4<=o) (h2:o<=10):yv M qfp [.int .i64 (o:Int)] H fun v H'=>v=.str (sgn o)/\Fr Em H H':=by
 refine qx0 ?_
 have hb:Op.buildSlice yp 7 [.str []] [(0,1),(1,1),(2,1),(3,1),(4,1),(5,1),(6,1)] [.str [43],.str [45],.str [42],.str [38],.str [94],.str [60,60],.str [62,62]]=some (.row ([[43],[45],[42],[38],[94],[60,60],[62,62]].map AV.str) yp (0,0) true,Op.sliceTo 7 7):=rfl
 have hw:=qy6 H [[43],[45],[42],[38],[94],[60,60],[62,62]] yp 7 (0,0) true rfl
 have hi:([[43],[45],[42],[38],[94],[60,60],[62,62]]:List (List UInt8))[o-4]? = some (sgn o):=by
  rcases (show o=4\/o=5\/o=6\/o=7\/o=8\/o=9\/o=10 by omega) with rfl|rfl|rfl|rfl|rfl|rfl|rfl<;>rfl
 have ws:wrapI .i64 ((o:Int)-4)=((o-4:Nat):Int):=by rw [jn (by omega) (by omega)];omega
 have e1:=hw.idx hi (z:=((o-4:Nat):Int)) rfl .i64
 have e2:=hw.load0 q1f hi (by decide)
 have hn:Op.sliceTo 7 7 H.next=.slice H.next 0 7 7:=rfl
 simp only [↓qh,qx,reduceIte,Nat.reduceEqDiff,qx1,hb,ws,hn,e1,e2,encS]
 exact (Fr.refl H).alloc _
theorem sign_ne:¬ (45:UInt8)=43 /\ ¬ (94:UInt8)=43 /\ ¬ (94:UInt8)=45 /\ ¬ (42:UInt8)=43 /\ ¬ (42:UInt8)=45 /\ ¬ (42:UInt8)=94 /\ ¬ (38:UInt8)=43 /\ ¬ (38:UInt8)=45 /\ ¬ (38:UInt8)=94 /\ ¬ (38:UInt8)=42 /\ ¬ (60:UInt8)=43 /\ ¬ (60:UInt8)=45 /\ ¬ (60:UInt8)=94 /\ ¬ (60:UInt8)=42 /\ ¬ (60:UInt8)=38 /\ ¬ (62:UInt8)=43 /\ ¬ (62:UInt8)=45 /\ ¬ (62:UInt8)=94 /\ ¬ (62:UInt8)=42 /\ ¬ (62:UInt8)=38 /\ ¬ (62:UInt8)=60:=by decide
theorem q6l {H:AHeap} {o:Nat} (h1:4<=o) (h2:o<=10):yv M qea [.str (sgn o)] H fun v H'=>v=.tuple [.int .i64 (o:Int),.int .i64 (rowOf o:Int)]/\H'=H:=by
 refine qsk ?_
 rcases (show o=4\/o=5\/o=6\/o=7\/o=8\/o=9\/o=10 by omega) with rfl|rfl|rfl|rfl|rfl|rfl|rfl
 all_goals
  simp only [sgn,rowOf,reduceIte,Nat.reduceEqDiff,or_false,or_true,false_or,true_or]
  simp only [↓qh,qx,reduceIte,Nat.reduceEqDiff,qdg,qz,sign_ne,reduceCtorEq,qcc]
  first|rfl|exact ⟨rfl,rfl⟩|trivial
structure WC (H0:AHeap) (tv:AV) (ts:List Nd):Prop where
 nd:Nds H0 tv ts
 pow:PowT H0
 pl:zt<H0.next
 len:ts.length<=2000
theorem WC.powE {H0 H:AHeap} {tv:AV} {ts:List Nd} (h:WC H0 tv ts) (f:Fr Em H0 H):PowT H/\zt<H.next:=⟨(f.cells h.pl id).trans h.pow,qi h.pl f.next⟩
structure Loc (H:AHeap) (b c:Nat) (r:List AV) (e:Nat):Prop where
 get:H.get c=some (OR r e)
 off:¬ BOn H b c
 lt:c<H.next
theorem Loc.step {H H':AHeap} {b c e:Nat} {r:List AV} (h:Loc H b c r e) (k:BK b H H'):Loc H' b c r e:=by
 obtain ⟨q1,q2⟩:=k.2 c h.lt h.off
 exact ⟨q1.trans h.get,q2,qi h.lt k.1⟩
theorem Loc.ld {H:AHeap} {b c e:Nat} {r:List AV} (h:Loc H b c r e) (o:Nat):Op.load1 [.ptr c o] H=r[o]?:=vo (jk h.get) o
theorem WS.tv {H0 H:AHeap} {b:Nat} {tv:AV} {xs:List UInt8} (h:WS H0 H b tv xs):Op.load1 [.ptr b 2] H=some tv:=by
 obtain ⟨⟨p,buf,h1,_⟩,_⟩:=h
 rw [vo (jk h1)];rfl
theorem qhm {H0 H:AHeap} {b i:Nat} {tv:AV} {ts:List Nd} {xs:List UInt8} {x:Nd} (hc:WC H0 tv ts) (h:WS H0 H b tv xs) (hx:ts[i]? = some x):∃ a,SlT encI 1 H0 a x.kids/\Op.load1 [.ptr b 2] H=some tv /\
 (∀ k,Op.indexSl 3 [tv,.int k (i:Int)]=some (.ptr (slB tv) (slO 3 tv i)))/\Op.loadN 3 [.ptr (slB tv) (slO 3 tv i)] H=some (nodeV x a) /\
 Op.store 3 [.ptr H.next 0,nodeV x a] (H.alloc (OR [.int .i64 0,.int .u64 0,.nils] zj))=some (.undef,H.alloc (OR [.int .i64 x.k,.int .u64 x.n,a] zj)) /\
 WS H0 (H.alloc (OR [.int .i64 x.k,.int .u64 x.n,a] zj)) b tv xs/\Loc (H.alloc (OR [.int .i64 x.k,.int .u64 x.n,a] zj)) b H.next [.int .i64 x.k,.int .u64 x.n,a] zj/\BK b H (H.alloc (OR [.int .i64 x.k,.int .u64 x.n,a] zj)):=by
 obtain ⟨a,h1,h2,h3,h4,_⟩:=hc.nd.getF hx h.fr
 have f:Fr Em H (H.alloc (OR [.int .i64 x.k,.int .u64 x.n,a] zj)):=(Fr.refl H).alloc _
 have hk:=BK.fr (b:=b) f h.hi
 refine ⟨a,h1,h.tv,h3,h4,q1p H x h2 zj,h.em f,⟨xr ..,fun q=>?_,by rw [ze];omega⟩,hk⟩
 refine h.off (qg _) ?_
 rcases q with q|⟨p,buf,rest,T,q1,q2⟩
 ·exact .inl q
 ·rw [qfq h.hi] at q1;exact .inr ⟨p,buf,rest,T,q1,q2⟩
theorem qkd {H0 H:AHeap} {a:AV} {kids:List Int} (h:SlT encI 1 H0 a kids) (f:Fr Em H0 H) {i:Nat} {x:Int} (hx:kids[i]? = some x) {z:Int} (hz:z=(i:Int)):(∀ k,Op.indexSl 1 [a,.int k z]=some (.ptr (slB a) (slO 1 a i)))/\Op.load1 [.ptr (slB a) (slO 1 a i)] H=some (.int .i64 x):=by subst hz;exact (h.em f).getI hx
theorem qun (v:Nat) (h:v<=7):Op.strOfInt [.int .i32 ((97+v:Nat):Int)]=some (.str (letter v)):=by
 have e1:leI 0 ((97+v:Nat):Int)=true:=by rw [qju];simp;omega
 have e2:ltI ((97+v:Nat):Int) 128=true:=by rw [qhq];simp;omega
 simp only [Op.strOfInt,e1,e2,jt,qn,qc0];rfl
theorem qqp (v:Nat) (h:v<=7):ascii (letter v):=by
 intro c hc;unfold letter at hc;rw [xb.1 hc,ju];omega
theorem Ex.txt_bin (o:Nat) (x y:Ex) (d:Nat):(Ex.bin o x y).txt d=par (rowOf o<d) [40]++(x.txt (rowOf o)++(([32]++sgn o ++ [32])++(y.txt (rowOf o+1)++par (rowOf o<d) [41]))):=by
 simp only [Ex.txt,qo]
theorem rowOf_le (o:Nat):rowOf o<=2:=by unfold rowOf;split<;>omega
abbrev big:Nat:=10000000000
theorem qg7 {H0:AHeap} {tv:AV} {ts:List Nd} (hc:WC H0 tv ts):∀ (x:Ex) {H:AHeap} {b bb d:Nat} {xs:List UInt8},Seg ts bb (x.enc bb)->x.ok->x.small->d<=100->WS H0 H b tv xs->xs.length+30*x.sz<=big ->
 yv M jc [.ptr b 0,.int .i64 ((bb+x.sz-1:Nat):Int),.int .i64 (d:Int)] H fun v H'=>WS H0 H' b tv (xs++x.txt d)/\BK b H H'
 | .num n,H,b,bb,d,xs,hs,ho,hsm,hd,h,hl=>by
  refine qd6 ?_
  obtain ⟨hnd,-⟩:=Seg.nd (x:=.e (.num n)) hs
  have hsm:n<18446744073709551616:=hsm
  obtain ⟨a,-,e1,e2,e3,e4,h1,l1,k1⟩:=qhm hc h hnd
  simp only [It.nd,It.kn,It.ks,endsF,It.sz,Ex.sz,ints,yb] at e2 e3 e4 h1 l1 k1
  have hl:xs.length+30*1<=10000000000:=hl
  generalize H.alloc (OR [.int .i64 1,.int .u64 (n:Nat),a] zj)=H1 at *
  have t1:=vf (show (1:Int)=1 from rfl)
  obtain ⟨p1,p2⟩:=hc.powE h1.fr
  simp only [↓qh,qx,reduceIte,Nat.reduceEqDiff,yy,Ex.sz,qp,e1,e2,e3,e4,l1.ld,t1]
  refine C3.q (qrr (M:=M) p1 p2 hsm) fun v H2 ⟨hv,hf2⟩=>?_
  subst hv
  have hl20:=qxb hsm
  refine C3.q (vv (M:=M) (h1.em hf2) (qw7 19 n (qi hsm (by decide))) (by omega)) fun v H3 ⟨h3,k3⟩=>?_
  simp only [↓qh,qx,reduceIte,Nat.reduceEqDiff,yy]
  exact ⟨h3,(k1.trans (BK.fr hf2 h1.hi)).trans k3⟩
 | .var w,H,b,bb,d,xs,hs,ho,hsm,hd,h,hl=>by
  refine qd6 ?_
  obtain ⟨hnd,-⟩:=Seg.nd (x:=.e (.var w)) hs
  have ho:w<=7:=ho
  obtain ⟨a,-,e1,e2,e3,e4,h1,l1,k1⟩:=qhm hc h hnd
  simp only [It.nd,It.kn,It.ks,endsF,It.sz,Ex.sz,ints,yb] at e2 e3 e4 h1 l1 k1
  have hl:xs.length+30*1<=10000000000:=hl
  generalize H.alloc (OR [.int .i64 2,.int .u64 (w:Nat),a] zj)=H1 at *
  have w1:wrapI .u64 (97+(w:Int))=((97+w:Nat):Int):=by rw [qd7 (by omega) (by omega)];omega
  have w2:wrapI .i32 ((97+w:Nat):Int)=((97+w:Nat):Int):=by rw [qy7];omega
  simp only [↓qh,qx,reduceIte,Nat.reduceEqDiff,yy,Ex.sz,qp,e1,e2,e3,e4,l1.ld,Int.reduceEq,w1,w2,qun w ho]
  refine C3.q (vv (M:=M) h1 (qqp w ho) (by simp [letter];omega)) fun v H3 ⟨h3,k3⟩=>?_
  simp only [↓qh,qx,reduceIte,Nat.reduceEqDiff,yy]
  exact ⟨h3,k1.trans k3⟩
 | .load x,H,b,bb,d,xs,hs,ho,hsm,hd,h,hl=>by
  refine qd6 ?_
  obtain ⟨hnd,hks⟩:=Seg.nd (x:=.e (.load x)) hs
  have hsx:Seg ts bb (x.enc bb):=hks.cons.1
  obtain ⟨a,ha,e1,e2,e3,e4,h1,l1,k1⟩:=qhm hc h hnd
  have hnd':(It.e (.load x)).nd bb=⟨3,0,[((bb+x.sz-1:Nat):Int)]⟩:=by simp [It.nd,It.kn,It.ks,endsF,ints,It.sz]
  rw [hnd'] at ha e3 e4 h1 l1 k1
  have hsz:(Ex.load x).sz=x.sz+1:=rfl
  rw [hsz] at hl
  unfold big at hl
  simp only [It.sz] at e2 e3
  simp only at e4 h1 l1 k1
  generalize H.alloc (OR [.int .i64 3,.int .u64 0,a] zj)=H1 at *
  simp only [↓qh,qx,reduceIte,Nat.reduceEqDiff,yy,qp,e1,e2,e3,e4,l1.ld,Int.reduceEq]
  refine C3.q (vv (M:=M) (s:=[108,111,97,100,40]) h1 (by decide) (by simp;omega)) fun v H2 ⟨h2,k2⟩=>?_
  have l2:=l1.step k2
  obtain ⟨i2,i3⟩:=qkd ha h2.fr (i:=0) rfl (z:=0) rfl
  simp only [↓qh,qx,reduceIte,Nat.reduceEqDiff,yy,l2.ld,i2 .i64,i3]
  refine C3.q (qg7 hc x (d:=0) hsx ho hsm (by omega) h2 (by unfold big;simp;omega)) fun v H3 ⟨h3,k3⟩=>?_
  have htl:=x.txt_len 0 hsm
  simp only [↓qh,qx,reduceIte,Nat.reduceEqDiff,yy]
  refine C3.q (vv (M:=M) (s:=[41]) h3 (by decide) (by simp;omega)) fun v H4 ⟨h4,k4⟩=>?_
  simp only [↓qh,qx,reduceIte,Nat.reduceEqDiff,yy]
  refine ⟨?_,((k1.trans k2).trans k3).trans k4⟩
  simpa only [Ex.txt,qo] using h4
 | .bin o x y,H,b,bb,d,xs,hs,ho,hsm,hd,h,hl=>by
  refine qd6 ?_
  obtain ⟨hnd,hks⟩:=Seg.nd (x:=.e (.bin o x y)) hs
  have hsx:Seg ts bb (x.enc bb):=hks.cons.1
  have hsy:Seg ts (bb+x.sz) (y.enc (bb+x.sz)):=hks.cons.2.cons.1
  obtain ⟨o4,o10,hox,hoy⟩:=ho
  obtain ⟨a,ha,e1,e2,e3,e4,h1,l1,k1⟩:=qhm hc h hnd
  have hnd':(It.e (.bin o x y)).nd bb=⟨o,0,[((bb+x.sz-1:Nat):Int),((bb+x.sz+y.sz-1:Nat):Int)]⟩:=by simp [It.nd,It.kn,It.ks,endsF,ints,It.sz]
  rw [hnd'] at ha e3 e4 h1 l1 k1
  have hsz:(Ex.bin o x y).sz=x.sz+y.sz+1:=rfl
  rw [hsz] at hl
  unfold big at hl
  simp only [It.sz] at e2 e3
  simp only at e4 h1 l1 k1
  generalize H.alloc (OR [.int .i64 (o:Nat),.int .u64 0,a] zj)=H1 at *
  have t1:¬ (o:Int)=1:=by omega
  have t2:¬ (o:Int)=2:=by omega
  have t3:¬ (o:Int)=3:=by omega
  obtain ⟨w0,w9,w21,w25,w31,w35⟩:=yy M ⟨none,jc⟩
  simp only [↓qh,qx,reduceIte,Nat.reduceEqDiff,w0,w9,w21,qp,e1,e2,e3,e4,l1.ld,t1,t2,t3]
  refine C3.q (q3t (M:=M) o4 o10) fun v H2 ⟨hv,hf2⟩=>?_
  subst hv
  have k2:=BK.fr (b:=b) hf2 h1.hi
  have h2:=h1.em hf2
  have l2:=l1.step k2
  refine C3.q (q6l (M:=M) o4 o10) fun v H3 ⟨hv,hh⟩=>?_
  subst hv;subst hh
  have hxt:=x.txt_len (rowOf o) hsm.1
  have hyt:=y.txt_len (rowOf o+1) hsm.2
  have hrw:=rowOf_le o
  have hsl:=q6k o
  have wr:wrapI .i64 ((rowOf o:Int)+1)=((rowOf o+1:Nat):Int):=by rw [jn (by omega) (by omega)];omega
  have c1:Op.bin .add [.str [32],.str (sgn o)]=some (.str (32::sgn o)):=o_cat [32] _ (by simp;omega)
  have c2:Op.bin .add [.str (32::sgn o),.str [32]]=some (.str (32::(sgn o ++ [32]))):=o_cat (32::sgn o) [32] (by simp;omega)
  have mid:∀ (H4:AHeap) (E:Env) (zs:List UInt8),zs=xs++par (rowOf o<d) [40]->WS H0 H4 b tv zs->Loc H4 b H.next [.int .i64 (o:Nat),.int .u64 0,a] zj->BK b H H4->lk E 0=some (.ptr b 0)->lk E 6=some (.ptr H.next 0)->lk E 9=some (.int .i64 (rowOf o:Int))->lk E 7=some (.str (sgn o))->lk E 2=some (.int .i64 (d:Int)) ->
   W M ⟨none,jc⟩ (jm 31) true (BLK3 0 (FIN3 M [] (RT3 fun v H'=>WS H0 H' b tv (xs++(Ex.bin o x y).txt d)/\BK b H H'))) E [] H4:=by
   intro H4 E zs hzs h4 l4 k4 r0 r6 r9 r7 r2
   have hzl:zs.length<=xs.length+1:=by rw [hzs,qe];have:=(q52 (rowOf o<d)).1;omega
   obtain ⟨i1,i2⟩:=qkd ha h4.fr (i:=0) rfl (z:=0) rfl
   simp only [↓qh,qx,reduceIte,Nat.reduceEqDiff,w31,r0,r6,r9,l4.ld,i1 .i64,i2]
   refine C3.q (qg7 hc x (d:=rowOf o) hsx hox hsm.1 (by omega) h4 (by unfold big;omega)) fun v H5 ⟨h5,k5⟩=>?_
   have l5:=l4.step k5
   simp only [↓qh,qx,reduceIte,Nat.reduceEqDiff,r0,r7,c1,c2]
   refine C3.q (vv (M:=M) (s:=32::(sgn o ++ [32])) h5 (qlo (a:=[32]) (by decide) (qlo (q6j o) (by decide))) (by simp;omega)) fun v H6 ⟨h6,k6⟩=>?_
   have l6:=l5.step k6
   obtain ⟨j1,j2⟩:=qkd ha h6.fr (i:=1) rfl (z:=1) rfl
   simp only [↓qh,qx,reduceIte,Nat.reduceEqDiff,w35,r0,r6,r9,l6.ld,j1 .i64,j2,wr]
   have h6':WS H0 H6 b tv (zs++x.txt (rowOf o)++([32]++sgn o ++ [32])):=h6
   refine C3.q (qg7 hc y (d:=rowOf o+1) hsy hoy hsm.2 (by omega) h6' (by unfold big;simp;omega)) fun v H7 ⟨h7,k7⟩=>?_
   have kk:=((k4.trans k5).trans k6).trans k7
   by_cases hlt:rowOf o<d
   ·have q1:(rowOf o:Int)<(d:Int):=by omega
    simp only [↓qh,qx,reduceIte,Nat.reduceEqDiff,r9,r2,r0,q1]
    refine C3.q (vv (M:=M) (s:=[41]) h7 (by decide) (by simp;omega)) fun v H8 ⟨h8,k8⟩=>?_
    simp only [↓qh,qx,reduceIte,Nat.reduceEqDiff]
    refine ⟨?_,kk.trans k8⟩
    rw [Ex.txt_bin]
    rw [hzs] at h8
    simpa only [par,hlt,qa0,qo] using h8
   ·have q1:¬ (rowOf o:Int)<(d:Int):=by omega
    simp only [↓qh,qx,reduceIte,Nat.reduceEqDiff,r9,r2,q1]
    refine ⟨?_,kk⟩
    rw [Ex.txt_bin]
    rw [hzs] at h7
    simpa only [par,hlt,yg,qo,j7,x8] using h7
  by_cases hlt:rowOf o<d
  ·have q1:(rowOf o:Int)<(d:Int):=by omega
   simp only [↓qh,qx,reduceIte,Nat.reduceEqDiff,zu,w25,q1]
   refine C3.q (vv (M:=M) (s:=[40]) h2 (by decide) (by simp;omega)) fun v H4 ⟨h4,k4⟩=>?_
   simp only [↓qh,qx,reduceIte,Nat.reduceEqDiff]
   exact mid H4 _ _ (by simp [par,hlt]) h4 (l2.step k4) ((k1.trans k2).trans k4) rfl rfl rfl rfl rfl
  ·have q1:¬ (rowOf o:Int)<(d:Int):=by omega
   simp only [↓qh,qx,reduceIte,Nat.reduceEqDiff,zu,w25,q1]
   exact mid _ _ _ (by simp [par,hlt]) h2 l2 (k1.trans k2) rfl rfl rfl rfl rfl
end Go.Am
namespace Go.Am
open Lang Go.Proofs
variable {M:Mac} [MK M]
theorem qxm (d:Nat):ascii (ind d):=fun c hc=>by rw [(List.mem_replicate.1 hc).2];decide
theorem q4t {H0 H:AHeap} {tv:AV} {ts:List Nd} (hc:WC H0 tv ts) (x:Cn) {b bb:Nat} {xs:List UInt8} (hs:Seg ts bb (x.enc bb)) (ho:x.ok) (hsm:x.small) (h:WS H0 H b tv xs) (hl:xs.length+30*x.sz<=big) :
 yv M qbn [.ptr b 0,.int .i64 ((bb+x.sz-1:Nat):Int)] H fun v H'=>WS H0 H' b tv (xs++x.txt)/\BK b H H':=by
 refine qoz ?_
 obtain ⟨hnd,hks⟩:=Seg.nd (x:=.c x) hs
 have hsx:Seg ts bb (x.a.enc bb):=hks.cons.1
 have hsy:Seg ts (bb+x.a.sz) (x.b.enc (bb+x.a.sz)):=hks.cons.2.cons.1
 obtain ⟨o4,o10,hox,hoy⟩:=ho
 obtain ⟨a,ha,e1,e2,e3,e4,h1,l1,k1⟩:=qhm hc h hnd
 have hnd':(It.c x).nd bb=⟨x.k,0,[((bb+x.a.sz-1:Nat):Int),((bb+x.a.sz+x.b.sz-1:Nat):Int)]⟩:=by simp [It.nd,It.kn,It.ks,endsF,ints,It.sz]
 rw [hnd'] at ha e3 e4 h1 l1 k1
 have hsz:x.sz=x.a.sz+x.b.sz+1:=rfl
 rw [hsz] at hl
 unfold big at hl
 simp only [It.sz] at e2 e3
 simp only at e4 h1 l1 k1
 generalize H.alloc (OR [.int .i64 (x.k:Nat),.int .u64 0,a] zj)=H1 at *
 obtain ⟨i1,i2⟩:=qkd ha h1.fr (i:=0) rfl (z:=0) rfl
 simp only [↓qh,qx,reduceIte,Nat.reduceEqDiff,qd5,qp,e1,e2,e3,e4,l1.ld,i1 .i64,i2]
 refine C3.q (qg7 hc x.a (d:=0) hsx hox hsm.1 (by omega) h1 (by unfold big;omega)) fun v H2 ⟨h2,k2⟩=>?_
 have hxt:=x.a.txt_len 0 hsm.1
 have l2:=l1.step k2
 have hbs:Op.buildSlice yp 3 [.str []] [(0,1),(1,1),(2,1)] [.str [32,61,61,32],.str [32,33,61,32],.str [32,60,32]]=some (.row ([[32,61,61,32],[32,33,61,32],[32,60,32]].map AV.str) yp (0,0) true,Op.sliceTo 3 3):=rfl
 have hf3:Fr Em H2 (H2.alloc (.row ([[32,61,61,32],[32,33,61,32],[32,60,32]].map AV.str) yp (0,0) true)):=(Fr.refl H2).alloc _
 have h3:=h2.em hf3
 have k3:=BK.fr (b:=b) hf3 h2.hi
 have l3:=l2.step k3
 have hw:=qy6 H2 [[32,61,61,32],[32,33,61,32],[32,60,32]] yp 3 (0,0) true rfl
 have hi:([[32,61,61,32],[32,33,61,32],[32,60,32]]:List (List UInt8))[x.k-11]? = some (csgn x.k):=by
  rcases (show x.k=11\/x.k=12\/x.k=13 by omega) with q|q|q<;>rw [q]<;>rfl
 have ws:wrapI .i64 ((x.k:Int)-11)=((x.k-11:Nat):Int):=by rw [jn (by omega) (by omega)];omega
 have f1:=hw.idx hi (z:=((x.k-11:Nat):Int)) rfl .i64
 have f2:=hw.load0 q1f hi (by decide)
 have hn:Op.sliceTo 3 3 H2.next=.slice H2.next 0 3 3:=rfl
 simp only [↓qh,qx,reduceIte,Nat.reduceEqDiff,qd5,hbs,hn,l3.ld,ws,f1,f2,encS]
 have hcl:=q1d x.k
 refine C3.q (vv (M:=M) (s:=csgn x.k) h3 (q2v _) (by simp;omega)) fun v H4 ⟨h4,k4⟩=>?_
 have l4:=l3.step k4
 obtain ⟨j1,j2⟩:=qkd ha h4.fr (i:=1) rfl (z:=1) rfl
 simp only [↓qh,qx,reduceIte,Nat.reduceEqDiff,qd5,l4.ld,j1 .i64,j2]
 refine C3.q (qg7 hc x.b (d:=0) hsy hoy hsm.2 (by omega) h4 (by unfold big;simp;omega)) fun v H5 ⟨h5,k5⟩=>?_
 simp only [↓qh,qx,reduceIte,Nat.reduceEqDiff,qd5]
 refine ⟨?_,(((k1.trans k2).trans k3).trans k4).trans k5⟩
 simpa only [Cn.txt,qo] using h5
def SP (M:Mac) (H0:AHeap) (tv:AV) (ts:List Nd) (s:Lang.St):Prop:=∀ (H:AHeap) (b bb d:Nat) (xs:List UInt8),Seg ts bb (s.enc bb)->s.ok->s.small->d+s.sz<=4000->WS H0 H b tv xs->xs.length+(s.txt d).length<=1000000000 ->
 yv M jd [.ptr b 0,.int .i64 ((bb+s.sz-1:Nat):Int),.int .i64 (d:Int)] H fun v H'=>WS H0 H' b tv (xs++s.txt d)/\BK b H H'
def sts:Ls->List Lang.St
 | .nil=>[]
 | .cons s l=>s::sts l
theorem q0v:∀ l:Ls,l.its=(sts l).map It.s
 | .nil=>rfl
 | .cons s l=>by simp [Ls.its,sts,q0v l]
def lineT (d:Nat) (s:Lang.St):List UInt8:=ind d++s.txt d ++ [10]
theorem q6w (d:Nat):∀ l:Ls,l.txt d=(sts l).flatMap (lineT d)
 | .nil=>rfl
 | .cons s l=>by simp [Ls.txt,sts,lineT,q6w d l]
theorem sts_ok:∀ l:Ls,l.ok -> ∀ s ∈ sts l,s.ok
 | .nil,_,s,h=>by cases h
 | .cons x l,ho,s,h=>by
  rcases zg.1 h with rfl|h
  ·exact ho.1
  ·exact sts_ok l ho.2 s h
theorem qyz:∀ l:Ls,l.small -> ∀ s ∈ sts l,s.small
 | .nil,_,s,h=>by cases h
 | .cons x l,ho,s,h=>by
  rcases zg.1 h with rfl|h
  ·exact ho.1
  ·exact qyz l ho.2 s h
theorem sts_sz:∀ l:Ls,∀ s ∈ sts l,s.sz<=l.sz
 | .nil,s,h=>by cases h
 | .cons x l,s,h=>by
  simp only [Ls.sz]
  rcases zg.1 h with rfl|h
  ·omega
  ·have:=sts_sz l s h;omega
theorem q6v:∀ l:Ls,(sts l).length<=l.sz
 | .nil=>qg 0
 | .cons s l=>by have:=q6v l;have:=s.pos;simp only [sts,Ls.sz,qk];omega
theorem sts_at {ts:List Nd} {bb:Nat} {l:Ls} (hs:Seg ts bb (l.enc bb)) {j:Nat} {s:Lang.St} (h:(sts l)[j]? = some s):∃ c,(ints (l.ends bb))[j]? = some ((c+s.sz-1:Nat):Int)/\Seg ts c (s.enc c):=by
 have h':l.its[j]? = some (.s s):=by rw [q0v,xh,h];rfl
 obtain ⟨c,h1,h2,h3,u,v,h4,h5⟩:=qq9 l.its bb j (.s s) h'
 refine ⟨c,by rw [ints,xh,l.its_ends,h1];rfl,?_⟩
 rw [l.its_enc,h4] at hs
 exact (hs.right (c:=c) h5.symm).left
theorem ends_len (l:Ls) (bb:Nat):(ints (l.ends bb)).length=(sts l).length:=by
 rw [ints,xf,l.its_ends,qaq,q0v,xf]
theorem qvo {α:Type} (f:α->List UInt8) (l:List α) (j:Nat) {x:α} (h:l[j]? = some x):((l.take j).flatMap f).length+(f x).length<=(l.flatMap f).length:=by
 have e:=congrArg (fun k=>(List.flatMap f k).length) (qbg j l)
 simp only [vc,qe] at e
 rw [qxd h,jf,qe] at e
 omega
theorem q5j {H0:AHeap} {tv:AV} {ts:List Nd} (hc:WC H0 tv ts) (l:Ls) (hsp:∀ s ∈ sts l,SP M H0 tv ts s) {H:AHeap} {b bb d:Nat} {xs:List UInt8} (hs:Seg ts bb (l.encL bb)) (ho:l.ok) (hsm:l.small) (hd:d+l.sz<=4000) (h:WS H0 H b tv xs) (hl:xs.length+(l.txt d).length<=1000000000) :
 yv M qao [.ptr b 0,.int .i64 ((bb+l.sz:Nat):Int),.int .i64 (d:Int)] H fun v H'=>WS H0 H' b tv (xs++l.txt d)/\BK b H H':=by
 refine qo2 ?_
 obtain ⟨hnd,-⟩:=Seg.nd (x:=.l l) hs
 have hse:Seg ts bb (l.enc bb):=hs.left
 have hsz:(It.l l).sz=l.sz+1:=rfl
 rw [hsz,show bb+(l.sz+1)-1=bb+l.sz by omega] at hnd
 have hnd':(It.l l).nd bb=⟨20,0,ints (l.ends bb)⟩:=by simp [It.nd,It.kn,It.ks,Ls.its_ends]
 rw [hnd'] at hnd
 obtain ⟨a,ha,h2,h3,h4,_,_,h7⟩:=hc.nd.getF hnd h.fr
 have hal:=ha.len
 rw [ends_len] at hal
 have hlen:=q6v l
 rw [q6w] at hl ⊢
 simp only [↓qh,qx,reduceIte,Nat.reduceEqDiff,qbq,qp,h.tv,h3,h7,hal]
 refine LOOP3.intro (fun k E' H'=>∃ j,E'=[(17,.int .i64 (j:Nat)),(16,.int .i64 ((sts l).length:Nat)),(15,a),(0,.ptr b 0),(2,.int .i64 (d:Int))]/\k=(sts l).length-j/\j<=(sts l).length/\WS H0 H' b tv (xs++((sts l).take j).flatMap (lineT d))/\BK b H H') ?_ ?_
 ·exact ⟨_,_,⟨0,rfl,rfl,by omega,by simpa using h,BK.refl _ _⟩,by simp only [↓qh,qx,reduceIte,Nat.reduceEqDiff]⟩
 rintro k E' Hc ⟨j,rfl,rfl,hj,hw,hk⟩
 rcases ke j (sts l).length with hlt|hge
 ·have q1:(j:Int)<((sts l).length:Nat):=by omega
  obtain ⟨s,hsj⟩:∃ s,(sts l)[j]? = some s:=⟨(sts l)[j],by simp [hlt]⟩
  have hm:=zh hsj
  obtain ⟨c,hkc,hsc⟩:=sts_at hse hsj
  obtain ⟨i1,i2⟩:=qkd ha hw.fr hkc (z:=(j:Int)) rfl
  have hfl:=qvo (lineT d) (sts l) j hsj
  have hll:(lineT d s).length=2*d+(s.txt d).length+1:=by simp [lineT,qed];omega
  have hszs:=sts_sz l s hm
  simp only [↓qh,qx,reduceIte,Nat.reduceEqDiff,qbq,q1,i1 .i64,i2]
  refine C3.q (qru (M:=M) (d:=d) (by omega)) fun v H2 ⟨hv,hf2⟩=>?_
  subst hv
  refine C3.q (vv (M:=M) (hw.em hf2) (qxm d) (by rw [qed,qe];omega)) fun v H3 ⟨h3,k3⟩=>?_
  simp only [↓qh,qx,reduceIte,Nat.reduceEqDiff,qbq]
  refine C3.q (hsp s hm _ _ _ _ _ hsc (sts_ok l ho s hm) (qyz l hsm s hm) (by omega) h3 (by simp only [qe,qed];omega)) fun v H4 ⟨h4,k4⟩=>?_
  simp only [↓qh,qx,reduceIte,Nat.reduceEqDiff,qbq]
  refine C3.q (vv (M:=M) (s:=[10]) h4 (by decide) (by simp only [qe,qed,qk,qu];omega)) fun v H5 ⟨h5,k5⟩=>?_
  have wj:wrapI .i64 ((j:Int)+1)=((j+1:Nat):Int):=by rw [jn (by omega) (by omega)];omega
  simp only [↓qh,qx,reduceIte,Nat.reduceEqDiff,qbq,wj]
  refine ⟨_,_,⟨j+1,rfl,rfl,by omega,?_,((hk.trans (BK.fr hf2 hw.hi)).trans k3).trans (k4.trans k5)⟩,by simp only [↓qh,qx,reduceIte,Nat.reduceEqDiff],by omega⟩
  rw [vk,hsj,vc]
  simpa [lineT,qo] using h5
 ·have hje:j=(sts l).length:=by omega
  subst hje
  have q1:¬ (((sts l).length:Nat):Int)<((sts l).length:Nat):=by omega
  rw [qbu] at hw
  simp only [↓qh,qx,reduceIte,Nat.reduceEqDiff,qbq,q1]
  exact ⟨hw,hk⟩
def blkT (l:Ls) (d:Nat):List UInt8:=[123,10]++l.txt (d+1)++(ind d ++ [125])
theorem qvc {H0:AHeap} {tv:AV} {ts:List Nd} (hc:WC H0 tv ts) (l:Ls) (hsp:∀ s ∈ sts l,SP M H0 tv ts s) {H:AHeap} {b bb d:Nat} {xs:List UInt8} (hs:Seg ts bb (l.encL bb)) (ho:l.ok) (hsm:l.small) (hd:d+1+l.sz<=4000) (h:WS H0 H b tv xs) (hl:xs.length+(blkT l d).length<=1000000000) :
 yv M yj [.ptr b 0,.int .i64 ((bb+l.sz:Nat):Int),.int .i64 (d:Int)] H fun v H'=>WS H0 H' b tv (xs++blkT l d)/\BK b H H':=by
 refine qnl ?_
 have hbl:(blkT l d).length=2+(l.txt (d+1)).length+(2*d+1):=by simp [blkT,qed];omega
 have wd:wrapI .i64 ((d:Int)+1)=((d+1:Nat):Int):=by rw [jn (by omega) (by omega)];omega
 simp only [↓qh,qx,reduceIte,Nat.reduceEqDiff,qch]
 refine C3.q (vv (M:=M) (s:=[123,10]) h (by decide) (by simp;omega)) fun v H2 ⟨h2,k2⟩=>?_
 simp only [↓qh,qx,reduceIte,Nat.reduceEqDiff,qch,wd]
 refine C3.q (q5j hc l hsp (d:=d+1) hs ho hsm (by omega) h2 (by simp;omega)) fun v H3 ⟨h3,k3⟩=>?_
 simp only [↓qh,qx,reduceIte,Nat.reduceEqDiff,qch]
 refine C3.q (qru (M:=M) (d:=d) (by omega)) fun v H4 ⟨hv,hf4⟩=>?_
 subst hv
 have hcat:Op.bin .add [.str (ind d),.str [125]]=some (.str (ind d ++ [125])):=o_cat _ _ (by simp [qed];omega)
 simp only [↓qh,qx,reduceIte,Nat.reduceEqDiff,qch,hcat]
 refine C3.q (vv (M:=M) (s:=ind d ++ [125]) (h3.em hf4) (qlo (qxm d) (by decide)) (by simp [qed];omega)) fun v H5 ⟨h5,k5⟩=>?_
 simp only [↓qh,qx,reduceIte,Nat.reduceEqDiff,qch]
 refine ⟨?_,((k2.trans k3).trans (BK.fr hf4 h3.hi)).trans k5⟩
 simpa only [blkT,qo] using h5
theorem ifw_row (H:AHeap) {k:Int} {w:List UInt8} (hk:k=16/\w=[105,102,32,40]\/k=17/\w=[119,104,105,108,101,32,40]):∃ o,Op.buildSlice yp 2 [.str []] [(0,1),(1,1)] [.str [105,102,32,40],.str [119,104,105,108,101,32,40]]=some (o,Op.sliceTo 2 2) /\
 Op.indexSl 1 [Op.sliceTo 2 2 H.next,.int .i64 (wrapI .i64 (k-16))]=some (.ptr H.next (k-16).toNat)/\Op.load1 [.ptr H.next (k-16).toNat] (H.alloc o)=some (.str w):=by
 refine ⟨.row [.str [105,102,32,40],.str [119,104,105,108,101,32,40]] yp (0,0) true,rfl,?_,?_⟩
 ·rcases hk with ⟨rfl,rfl⟩|⟨rfl,rfl⟩<;>rfl
 ·rw [qa5];rcases hk with ⟨rfl,rfl⟩|⟨rfl,rfl⟩<;>rfl
end Go.Am
