/- NmK4: SrD SrE SrF. -/
import Derived.Test.YtiibohocdbaekaaGreatAmCNmK3
import Derived.Test.YtiibohocdbaekaaGreatAmCNmK0
set_option linter.unusedVariables false
set_option linter.unusedSimpArgs false
set_option linter.unusedSectionVars false
set_option maxRecDepth 100000
open Nat (reduceEqDiff)
namespace Go.Am
open Go.Proofs
variable {M:aA} [MK M]
structure QI (a b i j:Nat) (xs ys:List En) (P:Int):Prop where
 rp:RP a b xs ys
 i1:a+1<=i
 ij:i<=j+1
 j2:j<b
 pv:∀ z,ys[a]? = some z->z.line=P
 lo:∀ (k:Nat) (z:En),a+1<=k->k<i->ys[k]? = some z -> ¬ P<z.line
 hi:∀ (k:Nat) (z:En),j<k->k<b->ys[k]? = some z->P<z.line
theorem QI.up {a b i j:Nat} {xs ys:List En} {P:Int} (h:QI a b i j xs ys P) {x:En} (hx:ys[i]? = some x) (hc:¬ P<x.line) (hij:i<=j):QI a b (i+1) j xs ys P:=by
 refine ⟨h.rp,by have:=h.i1;omega,by omega,h.j2,h.pv,λ k z h1 h2 hz=>?_,h.hi⟩
 by_cases q:k=i
 ·subst q;rw [hx] at hz;injection hz with hz;subst hz;exact hc
 ·exact h.lo k z h1 (by omega) hz
theorem QI.down {a b i j:Nat} {xs ys:List En} {P:Int} (h:QI a b i j xs ys P) {x:En} (hx:ys[j]? = some x) (hc:P<x.line) (hij:i<=j):QI a b i (j-1) xs ys P:=by
 have:=h.i1;have:=h.j2;refine ⟨h.rp,h.i1,by omega,by omega,h.pv,h.lo,λ k z h1 h2 hz=>?_⟩
 by_cases q:k=j
 ·subst q;rw [hx] at hz;injection hz with hz;subst hz;exact hc
 ·exact h.hi k z (by omega) h2 hz
theorem QI.sw {a b i j:Nat} {xs ys:List En} {P:Int} (h:QI a b i j xs ys P) {x y:En} (hx:ys[i]? = some x) (hy:ys[j]? = some y) (hxc:P<x.line) (hyc:¬ P<y.line) (hij:i<=j):QI a b (i+1) (j-1) xs ((ys.set i y).set j x) P:=by
 have h1:=h.i1;have h2:=h.j2;have hne:i ≠ j:=λ q=>by subst q;rw [hx] at hy;injection hy with hy;subst hy;exact hyc hxc
 have li:=(qe.1 hx).1;have lj:=(qe.1 hy).1;refine ⟨h.rp.sw (by omega) (by omega) (by omega) (by omega) hx hy,by omega,by omega,by omega,λ z hz=>?_,λ k z k1 k2 hz=>?_,λ k z k1 k2 hz=>?_⟩
 ·rw [qm (by omega),qm (by omega)] at hz;exact h.pv z hz
 ·rw [qm (by omega)] at hz
  by_cases q:i=k
  ·subst q;rw [qu li] at hz;injection hz with hz;subst hz;exact hyc
  ·rw [qm q] at hz;exact h.lo k z k1 (by omega) hz
 ·by_cases q:j=k
  ·subst q;rw [qu (by rw [qv];exact lj)] at hz;injection hz with hz;subst hz;exact hxc
  ·rw [qm q,qm (by omega)] at hz;exact h.hi k z (by omega) k2 hz
section
variable {K:au} {D:List aD} {E:Env} {H0 H:AHeap} {v:AV} {xs ys:List En} {a b i j:Nat} {P:Int}
theorem Be (hd:Dt H v ys) (hf:Fr (aI v) H0 H) (hp:QI a b i j xs ys P) (hb:b<=xs.length) (hl:xs.length<=40) (hE:kW [(12,.int .i64 (j:Int)),(11,.int .i64 (i:Int)),(0,v),(1,.int .i64 (a:Int)),(2,.int .i64 (b:Int)),(4,bU)] E)
 (hk:∀ (m:Nat) (H':AHeap),Dt H' v ys->Fr (aI v) H0 H'->QI a b m j xs ys P->(m<=j -> ∀ z,ys[m]? = some z->P<z.line)->i<=m->K .normal [(12,.int .i64 (j:Int)),(11,.int .i64 (m:Int)),(0,v),(1,.int .i64 (a:Int)),(2,.int .i64 (b:Int)),(4,bU)] D H') :
 aR (W M ⟨none,zh⟩ (qad 13)) (cw 2 K) E D H:=by
 obtain ⟨-,-,-,-,-,-,w13,-,-,w19,-,-⟩:=yi M ⟨none,zh⟩;have hlen:=hp.rp.len;refine aR.intro (λ k E' Hc=>∃ (m:Nat),E'=[(12,.int .i64 (j:Int)),(11,.int .i64 (m:Int)),(0,v),(1,.int .i64 (a:Int)),(2,.int .i64 (b:Int)),(4,bU)]/\k=b+1-m/\i<=m/\QI a b m j xs ys P/\Dt Hc v ys/\Fr (aI v) H0 Hc) ⟨_,_,⟨i,rfl,rfl,qf _,hp,hd,hf⟩,hE⟩ ?_;rintro k E' Hc ⟨m,rfl,rfl,hmm,hp',hd',hf'⟩;have b1:=hp'.i1;have b2:=hp'.j2;have b3:=hp'.ij
 by_cases q:(m:Int)<=(j:Int)
 ·obtain ⟨x,hx,ix,lx⟩:=aZ hd' (i:=m) (by omega);obtain ⟨z,hz,iz,lz⟩:=aZ hd' (i:=a) (by omega);have hpz:=hp'.pv z hz;have wm:ak .i64 ((m:Int)+1)=((m+1:Nat):Int):=by rw [xm (by omega) (by omega)];omega
  simp only [↓qd,qp,aa,reduceIte,reduceEqDiff,w13,q,ix,lx,iz,lz];refine C3.q (ta (M:=M) z x) λ vc He ⟨hv,hfe⟩=>?_;rw [hv];have hde:Dt He v ys:=Own.em hd' hfe;have hfe':Fr (aI v) H0 He:=hf'.trans hfe λ _ q=>q.elim
  by_cases hc:z.line<x.line
  ·have hc':=mg.2 hc;simp only [↓qd,qp,aa,reduceIte,reduceEqDiff,hc'];exact hk m He hde hfe' hp' (λ _ y hy=>by rw [hx] at hy;injection hy with hy;subst hy;omega) hmm
  ·have hc':¬ gI z.line x.line<0:=λ q=>hc (mg.1 q);simp only [↓qd,qp,aa,reduceIte,reduceEqDiff,hc',w19,wm];exact ⟨_,_,⟨m+1,rfl,rfl,by omega,hp'.up hx (by omega) (by omega),hde,hfe'⟩,by simp only [↓qd,qp,aa,reduceIte,reduceEqDiff],by omega⟩
 ·simp only [↓qd,qp,aa,reduceIte,reduceEqDiff,w13,q];exact hk m Hc hd' hf' hp' (λ w=>by omega) hmm
theorem AE (hd:Dt H v ys) (hf:Fr (aI v) H0 H) (hp:QI a b i j xs ys P) (hb:b<=xs.length) (hl:xs.length<=40) (hE:kW [(12,.int .i64 (j:Int)),(11,.int .i64 (i:Int)),(0,v),(1,.int .i64 (a:Int)),(2,.int .i64 (b:Int)),(4,bU)] E)
 (hk:∀ (m:Nat) (H':AHeap),Dt H' v ys->Fr (aI v) H0 H'->QI a b i m xs ys P->(i<=m -> ∀ z,ys[m]? = some z -> ¬ P<z.line)->m<=j->K .normal [(12,.int .i64 (m:Int)),(11,.int .i64 (i:Int)),(0,v),(1,.int .i64 (a:Int)),(2,.int .i64 (b:Int)),(4,bU)] D H') :
 aR (W M ⟨none,zh⟩ (qad 24)) (cw 4 K) E D H:=by
 obtain ⟨-,-,-,-,-,-,-,-,w24,-,-,w30⟩:=yi M ⟨none,zh⟩;have hlen:=hp.rp.len;refine aR.intro (λ k E' Hc=>∃ (m:Nat),E'=[(12,.int .i64 (m:Int)),(11,.int .i64 (i:Int)),(0,v),(1,.int .i64 (a:Int)),(2,.int .i64 (b:Int)),(4,bU)]/\k=m+1/\m<=j/\QI a b i m xs ys P/\Dt Hc v ys/\Fr (aI v) H0 Hc) ⟨_,_,⟨j,rfl,rfl,qf _,hp,hd,hf⟩,hE⟩ ?_;rintro k E' Hc ⟨m,rfl,rfl,hmm,hp',hd',hf'⟩;have b1:=hp'.i1;have b2:=hp'.j2;have b3:=hp'.ij
 by_cases q:(i:Int)<=(m:Int)
 ·obtain ⟨x,hx,ix,lx⟩:=aZ hd' (i:=m) (by omega);obtain ⟨z,hz,iz,lz⟩:=aZ hd' (i:=a) (by omega);have hpz:=hp'.pv z hz;have wm:ak .i64 ((m:Int)-1)=((m-1:Nat):Int):=by rw [xm (by omega) (by omega)];omega
  simp only [↓qd,qp,aa,reduceIte,reduceEqDiff,w24,q,ix,lx,iz,lz];refine C3.q (ta (M:=M) z x) λ vc He ⟨hv,hfe⟩=>?_;rw [hv];have hde:Dt He v ys:=Own.em hd' hfe;have hfe':Fr (aI v) H0 He:=hf'.trans hfe λ _ q=>q.elim
  by_cases hc:z.line<x.line
  ·have hc':=mg.2 hc;simp only [↓qd,qp,aa,reduceIte,reduceEqDiff,hc',w30,wm];exact ⟨_,_,⟨m-1,rfl,rfl,by omega,hp'.down hx (by omega) (by omega),hde,hfe'⟩,by simp only [↓qd,qp,aa,reduceIte,reduceEqDiff],by omega⟩
  ·have hc':¬ gI z.line x.line<0:=λ q=>hc (mg.1 q);simp only [↓qd,qp,aa,reduceIte,reduceEqDiff,hc'];exact hk m He hde hfe' hp' (λ _ y hy=>by rw [hx] at hy;injection hy with hy;subst hy;omega) hmm
 ·simp only [↓qd,qp,aa,reduceIte,reduceEqDiff,w24,q];exact hk m Hc hd' hf' hp' (λ w=>by omega) hmm
end
theorem qmf {H:AHeap} {v:AV} {xs:List En} (h:Dt H v xs) {a b p:Nat} (hab:a+2<=b) (h1:a<=p) (h2:p<b) (hb:b<=xs.length) (hl:xs.length<=40) :
 zq M zh [v,.int .i64 (a:Int),.int .i64 (b:Int),.int .i64 (p:Int),bU] H λ r H'=>∃ (ys:List En) (bT:Nat) (P:Int),r=.int .i64 (bT:Int)/\Dt H' v ys/\Fr (aI v) H H'/\RP a b xs ys/\a<bT/\bT<=b/\(∀ z,xs[p]? = some z->z.line=P) /\
  (∀ (k:Nat) (z:En),a<=k->k<bT->ys[k]? = some z -> ¬ P<z.line)/\(∀ (k:Nat) (z:En),bT<=k->k<b->ys[k]? = some z->P<z.line):=by
 refine qcz ?_;obtain ⟨w0,w4,w6,w43,w9,w21,w13,w32,w24,w19,w38,w30⟩:=yi M ⟨none,zh⟩;obtain ⟨x,hx,ix,lx⟩:=aZ h (i:=a) (by omega);obtain ⟨y,hy,iy,ly⟩:=aZ h (i:=p) (by omega);obtain ⟨H1,H2,s1,s2,s3,s4⟩:=sX h hx hy;have wa:ak .i64 ((a:Int)+1)=((a+1:Nat):Int):=by rw [xm (by omega) (by omega)];omega
 have wb:ak .i64 ((b:Int)-1)=((b-1:Nat):Int):=by rw [xm (by omega) (by omega)];omega
 have hla:a<xs.length:=by omega
 have hlp:p<xs.length:=by omega
 have p0:QI a b (a+1) (b-1) xs ((xs.set a y).set p x) y.line:=by
  refine ⟨RP.refl.sw (qf _) (by omega) h1 h2 hx hy,qf _,by omega,by omega,λ z hz=>?_,λ k z k1 k2=>by omega,λ k z k1 k2=>by omega⟩
  by_cases q:p=a
  ·subst q;rw [qu (by rw [qv];exact hlp)] at hz;injection hz with hz;subst hz
   rw [hx] at hy;injection hy with hy;subst hy;rfl
  ·rw [qm q,qu hla] at hz;injection hz with hz;subst hz;rfl
 have hPy:∀ z,xs[p]? = some z->z.line=y.line:=λ z hz=>by rw [hy] at hz;injection hz with hz;subst hz;rfl
 obtain ⟨P,hP⟩:∃ P,P=y.line:=⟨_,rfl⟩
 rw [<-hP] at p0 hPy;simp only [↓qd,qp,aa,reduceIte,reduceEqDiff,w0,ix,lx,iy,ly,s1,s2,w4,wa,wb,w6];refine aR.intro (λ k E' Hc=>∃ (i j:Nat) (ys:List En),E'=[(12,.int .i64 (j:Int)),(11,.int .i64 (i:Int)),(0,v),(1,.int .i64 (a:Int)),(2,.int .i64 (b:Int)),(4,bU)]/\k=j+1/\QI a b i j xs ys P/\Dt Hc v ys/\Fr (aI v) H Hc) ⟨_,_,⟨a+1,b-1,_,rfl,rfl,p0,s3,s4⟩,by simp only [↓qd,qp,aa,reduceIte,reduceEqDiff]⟩ ?_;clear p0 s1 s2 s3 s4 ix lx iy ly;rintro k E' Hc ⟨i,j,ys,rfl,rfl,hp,hd,hf⟩;simp only [↓qd,qp,aa,reduceIte,reduceEqDiff,w9];refine Be (M:=M) hd hf hp hb hl (by simp only [↓qd,qp,aa,reduceIte,reduceEqDiff]) λ i Hb hdb hfb hpb hstop hmi=>?_;simp only [↓qd,qp,aa,reduceIte,reduceEqDiff,w21];refine AE (M:=M) hdb hfb hpb hb hl (by simp only [↓qd,qp,aa,reduceIte,reduceEqDiff]) λ j Hc hdc hfc hpc hstop2 hmj=>?_;have c1:=hpc.i1;have c2:=hpc.j2;have c3:=hpc.ij;have c4:=hpc.rp.len
 by_cases q:(j:Int)<(i:Int)
 ·simp only [↓qd,qp,aa,reduceIte,reduceEqDiff,w32,q,w43];refine ⟨ys,i,P,rfl,hdc,hfc,hpc.rp,by omega,by omega,hPy,λ k z k1 k2 hz=>?_,λ k z k1 k2 hz=>hpc.hi k z (by omega) k2 hz⟩
  by_cases e:k=a
  ·subst e;rw [hpc.pv z hz];omega
  ·exact hpc.lo k z (by omega) k2 hz
 obtain ⟨u,hu,iu,lu⟩:=aZ hdc (i:=i) (by omega);obtain ⟨w,hw,iw,lw⟩:=aZ hdc (i:=j) (by omega);obtain ⟨H5,H6,t1,t2,t3,t4⟩:=sX hdc hu hw;have p1:=hpc.sw hu hw (hstop (by have:=hpb.ij;omega) u hu) (hstop2 (by omega) w hw) (by omega);have wi:ak .i64 ((i:Int)+1)=((i+1:Nat):Int):=by rw [xm (by omega) (by omega)];omega
 have wj:ak .i64 ((j:Int)-1)=((j-1:Nat):Int):=by rw [xm (by omega) (by omega)];omega
 simp only [↓qd,qp,aa,reduceIte,reduceEqDiff,w32,q,w38,iu,lu,iw,lw,t1,t2,wi,wj];exact ⟨_,_,⟨i+1,j-1,_,rfl,rfl,p1,t3,hfc.trans t4 λ _ q=>.inl q⟩,by simp only [↓qd,qp,aa,reduceIte,reduceEqDiff],by omega⟩
theorem qtm {H:AHeap} {v:AV} {xs:List En} (h:Dt H v xs) {a b:Nat} (hab:a+2<=b) (hb:b<=xs.length) (hl:xs.length<=40) :
 zq M kw [v,.int .i64 (a:Int),.int .i64 (b:Int),bU] H λ r H'=>Fr Em H H' /\ ∃ q:Bool,r=.bool q/\(q=true->Ord En.line a b xs):=by
 refine qbt ?_;obtain ⟨w0,w4,-,w9,w15,-,w28,w20,w36,w26,-,-,-,-,-,-,-,-,-,-,-⟩:=qbu M ⟨none,kw⟩;have wa:ak .i64 ((a:Int)+1)=((a+1:Nat):Int):=by rw [xm (by omega) (by omega)];omega
 simp only [↓qd,qp,aa,reduceIte,reduceEqDiff,w0,wa,w4];refine aR.intro (λ k E' Hc=>E'=[(10,.int .i64 0),(9,.int .i64 ((a+1:Nat):Int)),(8,.bool false),(0,v),(1,.int .i64 (a:Int)),(2,.int .i64 (b:Int)),(3,bU)]/\Hc=H) ?_ ?_
 ·exact ⟨0,_,⟨rfl,rfl⟩,by simp only [↓qd,qp,aa,reduceIte,reduceEqDiff]⟩
 rintro k E' Hc ⟨rfl,rfl⟩;have c05:(0:Int)<5:=by decide
 simp only [↓qd,qp,aa,reduceIte,reduceEqDiff,w9,c05,w15];refine aR.intro (λ k E' Hd=>∃ i:Nat,E'=[(10,.int .i64 0),(9,.int .i64 (i:Int)),(8,.bool false),(0,v),(1,.int .i64 (a:Int)),(2,.int .i64 (b:Int)),(3,bU)]/\k=b+1-i/\a+1<=i/\i<=b/\Fr Em Hc Hd/\Ord En.line a i xs) ?_ ?_
 ·exact ⟨_,_,⟨a+1,rfl,rfl,by omega,by omega,Fr.refl _,λ i j x y h1 h2 h3=>by omega⟩,by simp only [↓qd,qp,aa,reduceIte,reduceEqDiff]⟩
 rintro k E' Hd ⟨i,rfl,rfl,h1,h2,hf,ho⟩;have hd:Dt Hd v xs:=Own.em h hf;have c50:(b:Int)-(a:Int)<50:=by omega
 have wc:ak .i64 ((b:Int)-(a:Int))=(b:Int)-(a:Int):=xm (by omega) (by omega)
 by_cases q:(i:Int)<(b:Int)
 ·obtain ⟨x,hx,ix,lx⟩:=aZ hd (i:=i) (by omega);obtain ⟨y,hy,iy,ly⟩:=aZ hd (i:=i-1) (by omega);have wj:ak .i64 ((i:Int)-1)=((i-1:Nat):Int):=by rw [xm (by omega) (by omega)];omega
  have wi:ak .i64 ((i:Int)+1)=((i+1:Nat):Int):=by rw [xm (by omega) (by omega)];omega
  have ne:¬ (i:Int)=(b:Int):=by omega
  simp only [↓qd,qp,aa,reduceIte,reduceEqDiff,w20,q,ix,lx,wj,iy,ly];refine C3.q (ta (M:=M) x y) λ vc He ⟨hv,hfe⟩=>?_;rw [hv];have hfe':Fr Em Hc He:=hf.trans hfe λ _ q=>q.elim
  by_cases hc:x.line<y.line
  ·have hc':=mg.2 hc;simp only [↓qd,qp,aa,reduceIte,reduceEqDiff,hc',w28,ne,w36,wc,c50];exact ⟨hfe',false,rfl,λ q=>by cases q⟩
  ·have hc':¬ gI x.line y.line<0:=λ q=>hc (mg.1 q);simp only [↓qd,qp,aa,reduceIte,reduceEqDiff,hc',w26,wi];refine ⟨_,_,⟨i+1,rfl,rfl,by omega,by omega,hfe',λ c d u w k1 k2 k3 hu hw=>?_⟩,by simp only [↓qd,qp,aa,reduceIte,reduceEqDiff],by omega⟩
   by_cases e:d=i
   ·rw [e,hx] at hw;injection hw with hw;subst hw
    by_cases e2:c=i-1
    ·rw [e2,hy] at hu;injection hu with hu;subst hu;omega
    ·have:=ho c (i-1) u y k1 (by omega) (by omega) hu hy;omega
   ·exact ho c d u w k1 k2 (by omega) hu hw
 ·have e:(i:Int)=(b:Int):=by omega
  have e':i=b:=by omega
  subst e';simp only [↓qd,qp,aa,reduceIte,reduceEqDiff,w20,q,w28,xc e];exact ⟨hf,true,rfl,λ _=>ho⟩
end Go.Am
namespace Go.Am
open Go.Proofs
variable {M:aA} [MK M]
theorem tN:∀ x:Fin 64,∃ L:Fin 8,MV[x.1]? = some (UInt8.ofNat L.1)/\x.1<2 ^ L.1/\(1<=x.1->2 ^ L.1<=2*x.1):=by decide +kernel
def MR (n:Nat) (v:AV):Prop:=∃ L:Nat,v=.int .i64 (L:Int)/\L<8/\n<2 ^ L/\(1<=n->2 ^ L<=2*n)
theorem qym {H:AHeap} {n:Nat} (h:n<64):zq M PB [.int .u64 (n:Int)] H λ v H'=>MR n v/\H'=H:=by
 refine qs9 ?_;obtain ⟨w0,w8⟩:=qta M ⟨none,PB⟩;simp only [↓qd,qp,aa,reduceIte,reduceEqDiff,w0,w8];obtain ⟨L,c1,c2,c3⟩:=tN ⟨n,h⟩;dsimp at c1 c2 c3;have hL:=L.2;have ix:Op.cr [.str MV,.int .u8 (n:Int)]=some (.int .u8 (L.1:Int)):=by
  rw [q32 rfl c1];have:(UInt8.ofNat L.1).toNat=L.1:=by rw [UInt8.toNat_ofNat'];omega
  rw [this]
 refine C3.q (R:=λ v H'=>v=.int .i64 (L.1:Int)/\H'=H) ?_ λ v H1 ⟨hv,hh⟩=>?_
 ·refine qop ?_;have e1:¬ (4294967296:Int)<=(n:Int):=by omega
  have e2:¬ (65536:Int)<=(n:Int):=by omega
  have e3:¬ (256:Int)<=(n:Int):=by omega
  have e4:ak .u8 (n:Int)=(n:Int):=PN (by omega);have e5:ak .i64 (L.1:Int)=(L.1:Int):=CW (by omega);have e6:ak .i64 (0+(L.1:Int))=(L.1:Int):=by rw [Int.zero_add];exact e5
  obtain ⟨w0,w2,w10,w18,w26⟩:=qoq M ⟨none,JK⟩;simp only [↓qd,qp,aa,reduceIte,reduceEqDiff,w0,w2,e1,w10,e2,w18,e3,w26,e4,ix,e5,e6]
 ·rw [hv,hh];simp only [↓qd,qp,aa,reduceIte,reduceEqDiff];exact ⟨L.1,rfl,by omega,c2,c3⟩
theorem zK (a b:Int):∃ c,Op.bin .xor [.int .u64 a,.int .u64 b]=some (.int .u64 c):=⟨_,rfl⟩
theorem CL (a b:Int) (h:0<=b):∃ c,Op.bin .shl [.int .u64 a,.int .u64 b]=some (.int .u64 c):=by
 obtain ⟨n,rfl⟩:=jb h;exact ⟨_,Df .u64 .u64 a n⟩
theorem Jn (a b:Int) (h:0<=b):∃ c,Op.bin .shr [.int .u64 a,.int .u64 b]=some (.int .u64 c):=by
 obtain ⟨n,rfl⟩:=jb h;exact ⟨_,I7 .u64 .u64 a n⟩
theorem IJ (a:Int) (m:Nat) (hm:m<256):∃ c:Nat,Op.bin .and [.int .u64 a,.int .u64 (m:Int)]=some (.int .u64 (c:Int))/\c<=m:=by
 obtain ⟨x,hx⟩:∃ x,x=(BitVec.ofInt 64 a &&& BitVec.ofInt 64 (m:Int)).toNat:=⟨_,rfl⟩
 have hxm:x<=m:=by
  rw [hx,BitVec.toNat_and];refine xj Nat.and_le_right ?_;have:BitVec.ofInt 64 (m:Int)=BitVec.ofNat 64 m:=rfl;rw [this,BitVec.toNat_ofNat];exact Nat.mod_le _ _
 refine ⟨x,?_,hxm⟩;have e:Op.bin .and [.int .u64 a,.int .u64 (m:Int)]=some (.int .u64 (ak .u64 ((BitVec.ofInt 64 a &&& BitVec.ofInt 64 (m:Int)).toNat:Int))):=rfl;rw [e,<-hx,nP (by omega)]
theorem tj {H:AHeap} {s e:Nat} {a:AV} (h:H.get s=some (OR [a] e)) {u:AV} (hu:aT u=true):Op.store 1 [.ptr s 0,u] H=some (.undef,H.set s (OR [u] e)):=by
 have hc:u.cells=[u]:=by cases u<;>first|rfl|cases hu
 have:=oS h (o:=0) (n:=1) (v:=u) (by rw [hc];rfl) (by simp) (by rw [hc,oQ];simpa using hu);rw [this,hc];rfl
def Jw (H:AHeap) (s:Nat):Prop:=∃ a:Int,H.get s=some (OR [.int .u64 a] ye)
theorem q6n {H:AHeap} {s:Nat} (h:Jw H s):zq M qfg [.ptr s 0] H λ v H'=>(∃ a:Int,v=.int .u64 a)/\Jw H' s/\Fr (On s) H H':=by
 obtain ⟨a,h⟩:=h;refine qka ?_;obtain ⟨a1,h1⟩:=CL a 13 (by decide);obtain ⟨a2,h2⟩:=zK a a1;obtain ⟨a3,h3⟩:=Jn a2 7 (by decide);obtain ⟨a4,h4⟩:=zK a2 a3;obtain ⟨a5,h5⟩:=CL a4 17 (by decide);obtain ⟨a6,h6⟩:=zK a4 a5;obtain ⟨H1,e1⟩:∃ X,X=H.set s (OR [.int .u64 a2] ye):=⟨_,rfl⟩
 obtain ⟨H2,e2⟩:∃ X,X=H1.set s (OR [.int .u64 a4] ye):=⟨_,rfl⟩
 obtain ⟨H3,e3⟩:∃ X,X=H2.set s (OR [.int .u64 a6] ye):=⟨_,rfl⟩
 have g1:H1.get s=some (OR [.int .u64 a2] ye):=by rw [e1,xb]
 have g2:H2.get s=some (OR [.int .u64 a4] ye):=by rw [e2,xb]
 have g3:H3.get s=some (OR [.int .u64 a6] ye):=by rw [e3,xb]
 have s1:=tj h (u:=.int .u64 a2) rfl;have s2:=tj g1 (u:=.int .u64 a4) rfl;have s3:=tj g2 (u:=.int .u64 a6) rfl;rw [<-e1] at s1;rw [<-e2] at s2;rw [<-e3] at s3;have l0:Op.ae [.ptr s 0] H=some (.int .u64 a):=xp (qz h) 0;have l1:Op.ae [.ptr s 0] H1=some (.int .u64 a2):=xp (qz g1) 0;have l2:Op.ae [.ptr s 0] H2=some (.int .u64 a4):=xp (qz g2) 0;have l3:Op.ae [.ptr s 0] H3=some (.int .u64 a6):=xp (qz g3) 0;simp only [↓qd,qp,aa,reduceIte,reduceEqDiff,qkb,qi,l0,h1,h2,s1,l1,h3,h4,s2,l2,h5,h6,s3,l3];have f:Fr (On s) H H1:=by rw [e1];exact (Fr.refl H).set (W:=On s) (.inl rfl) _
 have f2:Fr (On s) H1 H2:=by rw [e2];exact (Fr.refl H1).set (W:=On s) (.inl rfl) _
 have f3:Fr (On s) H2 H3:=by rw [e3];exact (Fr.refl H2).set (W:=On s) (.inl rfl) _
 exact ⟨⟨a6,rfl⟩,⟨a6,g3⟩,(f.trans f2 λ _ q=>.inl q).trans f3 λ _ q=>.inl q⟩
theorem q6z {H:AHeap} {n:Nat} (h1:1<=n) (h:n<64):zq M qex [.int .i64 (n:Int)] H λ v H'=>(∃ m:Nat,v=.int .u64 (m:Int)/\n<m/\m<=2*n)/\H'=H:=by
 refine qjm ?_;have e:ak .u64 (n:Int)=(n:Int):=nP (by omega);simp only [↓qd,qp,aa,reduceIte,reduceEqDiff,qjn,e];refine C3.q (qym (M:=M) h) λ v H1 ⟨⟨L,hv,hL,l1,l2⟩,hh⟩=>?_;rw [hv,hh];have hp:2 ^ L<=128:=by have:=l2 h1;omega
 have e2:Op.bin .shl [.int .u64 1,.int .i64 (L:Int)]=some (.int .u64 ((2 ^ L:Nat):Int)):=by
  rw [Df,Nat.min_eq_left (by show L<=64;omega),Int.one_mul];have:((2:Int) ^ L)=((2 ^ L:Nat):Int):=by simp
  rw [this,nP (by omega)]
 simp only [↓qd,qp,aa,reduceIte,reduceEqDiff,e2];exact ⟨2 ^ L,rfl,l1,l2 h1⟩
theorem q29 {H:AHeap} {v:AV} {xs:List En} (h:Dt H v xs) {a b:Nat} (hab:a+8<=b) (hb:b<=xs.length) (hl:xs.length<=40) :
 zq M zy [v,.int .i64 (a:Int),.int .i64 (b:Int),bU] H λ _ H'=>∃ ys,Dt H' v ys/\Fr (aI v) H H'/\RP a b xs ys:=by
 refine qc9 ?_;obtain ⟨w0,w5,w9,w13,w19,w30,w23,w29⟩:=qda M ⟨none,zy⟩;obtain ⟨l,hl'⟩:∃ l,l=b-a:=⟨_,rfl⟩
 have w1:ak .i64 ((b:Int)-(a:Int))=(l:Int):=by rw [xm (by omega) (by omega)];omega
 have q8:(8:Int)<=(l:Int):=by omega
 have wu:ak .u64 (l:Int)=(l:Int):=nP (by omega);obtain ⟨H1,e1⟩:∃ X,X=H.alloc (OR [.int .u64 0] ye):=⟨_,rfl⟩
 have g1:H1.get H.next=some (OR [.int .u64 0] ye):=by rw [e1,qw]
 have s1:=tj g1 (u:=.int .u64 (l:Int)) rfl;obtain ⟨H2,e2⟩:∃ X,X=H1.set H.next (OR [.int .u64 (l:Int)] ye):=⟨_,rfl⟩
 rw [<-e2] at s1;have f2:Fr Em H H2:=by rw [e2,e1];exact ((Fr.refl H).alloc _).set (.inr (qf _)) _
 have r2:Jw H2 H.next:=⟨(l:Int),by rw [e2,xb]⟩
 have n2:H.next<H2.next:=by rw [e2,e1];show H.next<H.next+1;omega
 have h2:Dt H2 v xs:=Own.em h f2;have off:¬ aI v H.next:=λ q=>by have:=Own.lt h _ q;omega
 have d1:Op.bin .quo [.int .i64 (l:Int),.int .i64 4]=some (.int .i64 ((l / 4:Nat):Int)):=by
  rw [pk .i64 _ _ (by decide),wx (by omega),xm (by omega) (by omega)];rfl
 have w4':ak .i64 (((l / 4:Nat):Int)*2)=((l / 4*2:Nat):Int):=by rw [xm (by omega) (by omega)];omega
 have w5':ak .i64 ((a:Int)+((l / 4*2:Nat):Int))=((a+l / 4*2:Nat):Int):=by rw [xm (by omega) (by omega)];omega
 have w6':ak .i64 (((a+l / 4*2:Nat):Int)-1)=((a+l / 4*2-1:Nat):Int):=by rw [xm (by omega) (by omega)];omega
 have w7':ak .i64 (((a+l / 4*2:Nat):Int)+1)=((a+l / 4*2+1:Nat):Int):=by rw [xm (by omega) (by omega)];omega
 simp only [↓qd,qp,aa,reduceIte,reduceEqDiff,w0,w1,q8,w5,wu,<-e1,s1];refine C3.q (q6z (M:=M) (n:=l) (by omega) (by omega)) λ vm H3 ⟨⟨m,hm,m1,m2⟩,hh⟩=>?_;rw [hm,hh];simp only [↓qd,qp,aa,reduceIte,reduceEqDiff,w9,d1,w4',w5',w6'];refine aR.intro (λ k E' Hc=>∃ (i:Nat) (ys:List En),E'=[(11,.int .i64 (i:Int)),(10,.int .u64 (m:Int)),(9,.ptr H.next 0),(8,.int .i64 (l:Int)),(0,v),(1,.int .i64 (a:Int))]/\k=a+l / 4*2+2-i/\a+l / 4*2-1<=i/\i<=a+l / 4*2+2/\Dt Hc v ys/\Jw Hc H.next/\H.next<Hc.next/\Fr (aI v) H Hc/\RP a b xs ys) ?_ ?_
 ·exact ⟨_,_,⟨a+l / 4*2-1,xs,rfl,rfl,by omega,by omega,h2,r2,n2,⟨f2.next,λ x hx _=>f2.ah x hx id⟩,.refl⟩,by simp only [↓qd,qp,aa,reduceIte,reduceEqDiff]⟩
 rintro k E' Hc ⟨i,ys,rfl,rfl,i1,i2,hd,hrn,hnx,hf,hr⟩;have hyl:=hr.len
 by_cases q:(i:Int)<=((a+l / 4*2+1:Nat):Int)
 ·simp only [↓qd,qp,aa,reduceIte,reduceEqDiff,w13,d1,w4',w5',w7',q,w19];refine C3.q (q6n (M:=M) hrn) λ vr Hd ⟨⟨x,hx⟩,hrn',hfd⟩=>?_;rw [hx];have hd':Dt Hd v ys:=Own.fr hd hfd λ y hy (q:y=H.next)=>off (q ▸ hy);have hf':Fr (aI v) H Hd:=hf.trans hfd λ y (q:y=H.next)=>.inr (by omega);have ws:ak .u64 ((m:Int)-1)=((m-1:Nat):Int):=by rw [show (m:Int)-1=((m-1:Nat):Int) by omega];exact nP (by omega)
  obtain ⟨c,hc,hcm⟩:=IJ x (m-1) (by omega);have wc:ak .i64 (c:Int)=(c:Int):=CW (by omega);have wi:ak .i64 ((i:Int)+1)=((i+1:Nat):Int):=by rw [xm (by omega) (by omega)];omega
  have fin:∀ o:Nat,o<l -> ∀ {E:Env},lk E 0=some v->lk E 11=some (.int .i64 (i:Int))->lk E 1=some (.int .i64 (a:Int))->lk E 12=some (.int .i64 (o:Int))->lk E 10=some (.int .u64 (m:Int))->lk E 9=some (.ptr H.next 0)->lk E 8=some (.int .i64 (l:Int)) ->
   W M ⟨none,zy⟩ (qal 29) true (cw 1 (cT (W M ⟨none,zy⟩ (qal 30)) (pY (λ k E' Hc=>∃ (i:Nat) (ys:List En),E'=[(11,.int .i64 (i:Int)),(10,.int .u64 (m:Int)),(9,.ptr H.next 0),(8,.int .i64 (l:Int)),(0,v),(1,.int .i64 (a:Int))]/\k=a+l / 4*2+2-i/\a+l / 4*2-1<=i/\i<=a+l / 4*2+2/\Dt Hc v ys/\Jw Hc H.next/\H.next<Hc.next/\Fr (aI v) H Hc/\RP a b xs ys) [] (a+l / 4*2+2-i) (cw 0 (c6 M [] (kO λ _ H'=>∃ ys,Dt H' v ys/\Fr (aI v) H H'/\RP a b xs ys)))))) E [] Hd:=by
   intro o ho E h0 h11 h1 h12 h10 h9 h8;have wo:ak .i64 ((a:Int)+(o:Int))=((a+o:Nat):Int):=by rw [xm (by omega) (by omega)];omega
   obtain ⟨u,hu,iu,lu⟩:=aZ hd' (i:=i) (by omega);obtain ⟨w,hw,iw,lw⟩:=aZ hd' (i:=a+o) (by omega);obtain ⟨H5,H6,t1,t2,t3,t4⟩:=sX hd' hu hw;simp only [↓qd,qp,aa,reduceIte,reduceEqDiff,w29,h0,h11,h1,h12,wo,iw,lw,iu,lu,t1,t2,w30,wi];refine ⟨_,_,⟨i+1,_,rfl,rfl,by omega,by omega,t3,?_,?_,hf'.trans t4 λ _ q=>.inl q,hr.sw (by omega) (by omega) (by omega) (by omega) hu hw⟩,by simp only [↓qd,qp,aa,reduceIte,reduceEqDiff,h0,h1,h8,h9,h10],by omega⟩
   ·obtain ⟨z,hz⟩:=hrn';exact ⟨z,by rw [t4.ah _ (qk hnx hfd.next) off];exact hz⟩
   ·exact qk hnx (xj hfd.next t4.next)
  by_cases ge:(l:Int)<=(c:Int)
  ·have wd:ak .i64 ((c:Int)-(l:Int))=((c-l:Nat):Int):=by rw [xm (by omega) (by omega)];omega
   simp only [↓qd,qp,aa,reduceIte,reduceEqDiff,ws,hc,wc,w23,ge,wd];exact fin (c-l) (by omega) rfl rfl rfl rfl rfl rfl rfl
  ·simp only [↓qd,qp,aa,reduceIte,reduceEqDiff,ws,hc,wc,w23,ge];exact fin c (by omega) rfl rfl rfl rfl rfl rfl rfl
 ·simp only [↓qd,qp,aa,reduceIte,reduceEqDiff,w13,d1,w4',w5',w7',q];exact ⟨ys,hd,hf,hr⟩
end Go.Am
namespace Go.Am
open Go.Proofs
variable {M:aA} [MK M]
def Hp (a lo hi:Nat) (xs:List En):Prop:=∀ (i c:Nat) (x y:En),lo<=i->(c=2*i+1\/c=2*i+2)->c<hi->xs[a+i]? = some x->xs[a+c]? = some y->y.line<=x.line
structure Fb (a lo hi r:Nat) (xs:List En):Prop where
 h:∀ (i c:Nat) (x y:En),lo<=i->i ≠ r->(c=2*i+1\/c=2*i+2)->c<hi->xs[a+i]? = some x->xs[a+c]? = some y->y.line<=x.line
 g:∀ (p c:Nat) (x y:En),lo<=p->(r=2*p+1\/r=2*p+2)->(c=2*r+1\/c=2*r+2)->c<hi->xs[a+p]? = some x->xs[a+c]? = some y->y.line<=x.line
theorem Fb.done {a lo hi r:Nat} {xs:List En} (h:Fb a lo hi r xs) (hr:∀ (c:Nat) (x y:En),(c=2*r+1\/c=2*r+2)->c<hi->xs[a+r]? = some x->xs[a+c]? = some y->y.line<=x.line):Hp a lo hi xs:=λ i c x y h1 h2 h3 hx hy=>by
 by_cases q:i=r
 ·subst q;exact hr c x y h2 h3 hx hy
 ·exact h.h i c x y h1 q h2 h3 hx hy
theorem Fb.sw {a lo hi r c:Nat} {xs:List En} (h:Fb a lo hi r xs) (hlo:lo<=r) (hc:c=2*r+1\/c=2*r+2) (hch:c<hi) {x y:En} (hx:xs[a+r]? = some x) (hy:xs[a+c]? = some y) (hxy:x.line<y.line)
 (hs:∀ (s:Nat) (z:En),(s=2*r+1\/s=2*r+2)->s<hi->xs[a+s]? = some z->z.line<=y.line):Fb a lo hi c ((xs.set (a+r) y).set (a+c) x):=by
 have hrc:r<c:=by omega
 have lr:=(qe.1 hx).1;have lc:=(qe.1 hy).1;have atr:((xs.set (a+r) y).set (a+c) x)[a+r]? = some y:=by rw [qm (by omega),qu lr]
 have atc:((xs.set (a+r) y).set (a+c) x)[a+c]? = some x:=by rw [qu (by rw [qv];exact lc)]
 have ato:∀ k,k ≠ r->k ≠ c->((xs.set (a+r) y).set (a+c) x)[a+k]? = xs[a+k]?:=λ k h1 h2=>by rw [qm (by omega),qm (by omega)]
 refine ⟨λ i d u w h1 h2 h3 h4 hu hw=>?_,λ p d u w h1 h2 h3 h4 hu hw=>?_⟩
 ·by_cases e1:i=r
  ·subst e1;rw [atr] at hu;injection hu with hu;subst hu
   by_cases e2:d=c
   ·subst e2;rw [atc] at hw;injection hw with hw;subst hw;omega
   ·rw [ato d (by omega) e2] at hw;exact hs d w h3 h4 hw
  ·rw [ato i e1 h2] at hu
   by_cases e2:d=r
   ·subst e2;rw [atr] at hw;injection hw with hw;subst hw
    exact h.g i c u y h1 (by omega) hc hch hu hy
   ·rw [ato d e2 (by omega)] at hw;exact h.h i d u w h1 e1 h3 h4 hu hw
 ·have:p=r:=by omega
  subst this;rw [atr] at hu;injection hu with hu;subst hu
  rw [ato d (by omega) (by omega)] at hw;exact h.h c d y w (by omega) (by omega) h3 h4 hy hw
theorem qze {H:AHeap} {v:AV} {xs:List En} (h:Dt H v xs) {a lo hi:Nat} (hlo:lo<=hi) (hb:a+hi<=xs.length) (hl:xs.length<=40) (hp:Hp a (lo+1) hi xs) :
 zq M km [v,.int .i64 (lo:Int),.int .i64 (hi:Int),.int .i64 (a:Int),bU] H λ _ H'=>∃ ys,Dt H' v ys/\Fr (aI v) H H'/\RP a (a+hi) xs ys/\Hp a lo hi ys:=by
 refine qeo ?_;obtain ⟨w0,w4,w7,w13,w19,w25⟩:=qep M ⟨none,km⟩;simp only [↓qd,qp,aa,reduceIte,reduceEqDiff,w0];refine aR.intro (λ k E' Hc=>∃ (r:Nat) (ys:List En),E'=[(10,.int .i64 (r:Int)),(0,v),(2,.int .i64 (hi:Int)),(3,.int .i64 (a:Int)),(4,bU)]/\k=hi+1-r/\lo<=r/\r<=hi/\Dt Hc v ys/\Fr (aI v) H Hc/\RP a (a+hi) xs ys/\Fb a lo hi r ys) ?_ ?_
 ·exact ⟨_,_,⟨lo,xs,rfl,rfl,by omega,hlo,h,Fr.refl _,.refl,⟨λ i c x y h1 h2 h3 h4 hx hy=>hp i c x y (by omega) h3 h4 hx hy,λ p c x y h1 h2=>by omega⟩⟩,by simp only [↓qd,qp,aa,reduceIte,reduceEqDiff]⟩
 rintro k E' Hc ⟨r,ys,rfl,rfl,r1,r2,hd,hf,hr,hx⟩;have hyl:=hr.len;have m1:ak .i64 (2*(r:Int))=((2*r:Nat):Int):=by rw [xm (by omega) (by omega)];omega
 have m2:ak .i64 (((2*r:Nat):Int)+1)=((2*r+1:Nat):Int):=by rw [xm (by omega) (by omega)];omega
 by_cases q:(hi:Int)<=((2*r+1:Nat):Int)
 ·simp only [↓qd,qp,aa,reduceIte,reduceEqDiff,w4,m1,m2,w7,q];exact ⟨ys,hd,hf,hr,hx.done λ c x y h1 h2=>by omega⟩
 have m3:ak .i64 (((2*r+1:Nat):Int)+1)=((2*r+2:Nat):Int):=by rw [xm (by omega) (by omega)];omega
 have m4:ak .i64 ((a:Int)+((2*r+1:Nat):Int))=((a+(2*r+1):Nat):Int):=by rw [xm (by omega) (by omega)];omega
 have m5:ak .i64 (((a+(2*r+1):Nat):Int)+1)=((a+(2*r+2):Nat):Int):=by rw [xm (by omega) (by omega)];omega
 have m6:ak .i64 ((a:Int)+(r:Int))=((a+r:Nat):Int):=by rw [xm (by omega) (by omega)];omega
 obtain ⟨x,hx0,ix,lx⟩:=aZ hd (i:=a+r) (by omega)
 -- behind the choice of the child
 have fin:∀ (c:Nat) (He:AHeap),(c=2*r+1\/c=2*r+2)->c<hi->Dt He v ys->Fr (aI v) H He->(∀ (s:Nat) (y z:En),(s=2*r+1\/s=2*r+2)->s<hi->ys[a+c]? = some y->ys[a+s]? = some z->z.line<=y.line) ->
  ∀ {E:Env},lk E 0=some v->lk E 10=some (.int .i64 (r:Int))->lk E 11=some (.int .i64 (c:Int))->lk E 2=some (.int .i64 (hi:Int))->lk E 3=some (.int .i64 (a:Int))->lk E 4=some bU ->
   W M ⟨none,km⟩ (qen 19) true (cw 1 (pY (λ k E' Hc=>∃ (r:Nat) (ys:List En),E'=[(10,.int .i64 (r:Int)),(0,v),(2,.int .i64 (hi:Int)),(3,.int .i64 (a:Int)),(4,bU)]/\k=hi+1-r/\lo<=r/\r<=hi/\Dt Hc v ys/\Fr (aI v) H Hc/\RP a (a+hi) xs ys/\Fb a lo hi r ys) [] (hi+1-r) (cw 0 (c6 M [] (kO λ _ H'=>∃ ys,Dt H' v ys/\Fr (aI v) H H'/\RP a (a+hi) xs ys/\Hp a lo hi ys))))) E [] He:=by
  intro c He hc hch hde hfe hmax E h0 h10 h11 h2 h3 h4;obtain ⟨y,hy,iy,ly⟩:=aZ hde (i:=a+c) (by omega);obtain ⟨x',hx',ix',lx'⟩:=aZ hde (i:=a+r) (by omega);have exx:x'=x:=by rw [hx0] at hx';injection hx' with hx';exact hx'.symm
  subst exx;have m7:ak .i64 ((a:Int)+(c:Int))=((a+c:Nat):Int):=by rw [xm (by omega) (by omega)];omega
  simp only [↓qd,qp,aa,reduceIte,reduceEqDiff,w19,h0,h10,h11,h3,h4,m6,m7,ix',lx',iy,ly];refine C3.q (ta (M:=M) x' y) λ vc Hg ⟨hv,hfg⟩=>?_;rw [hv];have hdg:Dt Hg v ys:=Own.em hde hfg;have hfg':Fr (aI v) H Hg:=hfe.trans hfg λ _ q=>q.elim
  by_cases hcmp:x'.line<y.line
  ·have hc':=mg.2 hcmp;obtain ⟨u,hu,iu,lu⟩:=aZ hdg (i:=a+r) (by omega);obtain ⟨w,hw,iw,lw⟩:=aZ hdg (i:=a+c) (by omega);obtain ⟨H5,H6,t1,t2,t3,t4⟩:=sX hdg hu hw;have e1:u=x':=by rw [hx'] at hu;injection hu with hu;exact hu.symm
   have e2:w=y:=by rw [hy] at hw;injection hw with hw;exact hw.symm
   subst e1;subst e2;simp only [↓qd,qp,aa,reduceIte,reduceEqDiff,hc',w25,h0,h10,h11,h3,m6,m7,iw,lw,iu,lu,t1,t2];exact ⟨_,_,⟨c,_,rfl,rfl,by omega,by omega,t3,hfg'.trans t4 λ _ q=>.inl q,hr.sw (by omega) (by omega) (by omega) (by omega) hu hw,hx.sw r1 hc hch hu hw hcmp λ s z s1 s2 hz=>hmax s w z s1 s2 hw hz⟩,by simp only [↓qd,qp,aa,reduceIte,reduceEqDiff,h0,h2,h3,h4],by omega⟩
  ·have hc':¬ gI x'.line y.line<0:=λ q=>hcmp (mg.1 q);simp only [↓qd,qp,aa,reduceIte,reduceEqDiff,hc'];refine ⟨ys,hdg,hfg',hr,hx.done λ s u w s1 s2 hu hw=>?_⟩;rw [hx'] at hu;injection hu with hu;subst hu
   have:=hmax s y w s1 s2 hy hw;omega
 obtain ⟨y,hy,iy,ly⟩:=aZ hd (i:=a+(2*r+1)) (by omega)
 by_cases q2:((2*r+2:Nat):Int)<(hi:Int)
 ·obtain ⟨z,hz,iz,lz⟩:=aZ hd (i:=a+(2*r+2)) (by omega);simp only [↓qd,qp,aa,reduceIte,reduceEqDiff,w4,m1,m2,w7,q,w13,m3,q2,m4,iy,ly,m5,iz,lz];refine C3.q (ta (M:=M) y z) λ vc He ⟨hv,hfe⟩=>?_;rw [hv];have hde:Dt He v ys:=Own.em hd hfe;have hfe':Fr (aI v) H He:=hf.trans hfe λ _ q=>q.elim
  by_cases hc:y.line<z.line
  ·have hc':=mg.2 hc;simp only [↓qd,qp,aa,reduceIte,reduceEqDiff,hc',m3];refine fin (2*r+2) He (.inr rfl) (by omega) hde hfe' (λ s u w s1 s2 hu hw=>?_) rfl rfl rfl rfl rfl rfl;rw [hz] at hu;injection hu with hu;subst hu
   rcases s1 with s1|s1<;>subst s1
   ·rw [hy] at hw;injection hw with hw;subst hw;omega
   ·rw [hz] at hw;injection hw with hw;subst hw;omega
  ·have hc':¬ gI y.line z.line<0:=λ q=>hc (mg.1 q);simp only [↓qd,qp,aa,reduceIte,reduceEqDiff,hc'];refine fin (2*r+1) He (.inl rfl) (by omega) hde hfe' (λ s u w s1 s2 hu hw=>?_) rfl rfl rfl rfl rfl rfl;rw [hy] at hu;injection hu with hu;subst hu
   rcases s1 with s1|s1<;>subst s1
   ·rw [hy] at hw;injection hw with hw;subst hw;omega
   ·rw [hz] at hw;injection hw with hw;subst hw;omega
 ·simp only [↓qd,qp,aa,reduceIte,reduceEqDiff,w4,m1,m2,w7,q,w13,m3,q2];refine fin (2*r+1) Hc (.inl rfl) (by omega) hd hf (λ s u w s1 s2 hu hw=>?_) rfl rfl rfl rfl rfl rfl;have:s=2*r+1:=by omega
  subst this;rw [hu] at hw;injection hw with hw;subst hw;omega
theorem Hp.root {a n:Nat} {xs:List En} (h:Hp a 0 n xs):∀ (k:Nat),k<n->a+n<=xs.length -> ∀ x y,xs[a]? = some x->xs[a+k]? = some y->y.line<=x.line:=by
 intro k
 induction k using Nat.strongRecOn with
 | _ k ih =>
  intro hk hl x y hx hy
  by_cases q:k=0
  ·subst q;rw [qh,hx] at hy;injection hy with hy;subst hy;omega
  ·obtain ⟨z,hz⟩:∃ z,xs[a+(k-1) / 2]? = some z:=⟨xs[a+(k-1) / 2]'(by omega),by simp⟩
   have h1:=ih ((k-1) / 2) (by omega) (by omega) hl x z hx hz;have h2:=h ((k-1) / 2) k z y (xx _) (by omega) hk hz hy;omega
theorem q55 {H:AHeap} {v:AV} {xs:List En} (h:Dt H v xs) {a b:Nat} (hab:a+2<=b) (hb:b<=xs.length) (hl:xs.length<=40) :
 zq M vn [v,.int .i64 (a:Int),.int .i64 (b:Int),bU] H λ _ H'=>∃ ys,Dt H' v ys/\Fr (aI v) H H'/\RP a b xs ys/\Ord En.line a b ys:=by
 refine qel ?_;obtain ⟨w0,w4,w6,w21,w11,w25,w17,w31,w20,w36⟩:=qem M ⟨none,vn⟩;obtain ⟨l,hl'⟩:∃ l,l=b-a:=⟨_,rfl⟩
 have hbl:b=a+l:=by omega
 have w1:ak .i64 ((b:Int)-(a:Int))=(l:Int):=by rw [xm (by omega) (by omega)];omega
 have w2:ak .i64 ((l:Int)-1)=((l-1:Nat):Int):=by rw [xm (by omega) (by omega)];omega
 have d1:Op.bin .quo [.int .i64 ((l-1:Nat):Int),.int .i64 2]=some (.int .i64 (((l-1) / 2:Nat):Int)):=by
  rw [pk .i64 _ _ (by decide),wx (by omega),xm (by omega) (by omega)];rfl
 simp only [↓qd,qp,aa,reduceIte,reduceEqDiff,w0,w4,w1,w6,w2,d1];refine aR.intro (λ k E' Hc=>∃ (n:Nat) (ys:List En),E'=[(11,.int .i64 ((n:Int)-1)),(10,.int .i64 (l:Int)),(9,.int .i64 0),(8,.int .i64 (a:Int)),(0,v),(3,bU)]/\k=n+1/\n<=l/\Dt Hc v ys/\Fr (aI v) H Hc/\RP a b xs ys/\Hp a n l ys) ?_ ?_
 ·exact ⟨_,_,⟨(l-1) / 2+1,xs,by rw [show (((l-1) / 2+1:Nat):Int)-1=(((l-1) / 2:Nat):Int) by omega],rfl,by omega,h,Fr.refl _,.refl,λ i c x y h1 h2 h3=>by omega⟩,by simp only [↓qd,qp,aa,reduceIte,reduceEqDiff]⟩
 rintro k E' Hc ⟨n,ys,rfl,rfl,n1,hd,hf,hr,hp⟩;have hyl:=hr.len
 by_cases q:(0:Int)<=(n:Int)-1
 ·obtain ⟨m,rfl⟩:∃ m,n=m+1:=⟨n-1,by omega⟩
  have em:((m+1:Nat):Int)-1=(m:Int):=by omega
  rw [em] at q ⊢;have wm:ak .i64 ((m:Int)-1)=(m:Int)-1:=xm (by omega) (by omega);simp only [↓qd,qp,aa,reduceIte,reduceEqDiff,w11,q,w17];refine C3.q (qze (M:=M) hd (lo:=m) (hi:=l) (by omega) (by omega) (by omega) hp) λ _ Hd ⟨zs,hdz,hfz,hrz,hpz⟩=>?_;simp only [↓qd,qp,aa,reduceIte,reduceEqDiff,w20,wm];exact ⟨_,_,⟨m,zs,rfl,rfl,by omega,hdz,hf.trans hfz λ _ q=>.inl q,hr.trans (hrz.mono (qf _) (by omega)),hpz⟩,by simp only [↓qd,qp,aa,reduceIte,reduceEqDiff],by omega⟩
 have hn0:n=0:=by omega
 subst hn0;have q0:¬ (0:Int)<=0-1:=by decide
 simp only [↓qd,qp,aa,reduceIte,reduceEqDiff,w11,q,q0,w21,w2];refine aR.intro (λ k E' Hc=>∃ (n:Nat) (ys:List En),E'=[(12,.int .i64 ((n:Int)-1)),(9,.int .i64 0),(8,.int .i64 (a:Int)),(0,v),(3,bU)]/\k=n+1/\n<=l/\Dt Hc v ys/\Fr (aI v) H Hc/\RP a b xs ys/\Hp a 0 n ys/\lX En.line a b a (a+n) ys) ?_ ?_
 ·exact ⟨_,_,⟨l,ys,by rw [show (l:Int)-1=((l-1:Nat):Int) by omega],rfl,qf _,hd,hf,hr,hp,by rw [<-hbl];exact lX.start⟩,by simp only [↓qd,qp,aa,reduceIte,reduceEqDiff]⟩
 clear hd hf hr hp hyl q;rintro k E' Hc ⟨n,ys,rfl,rfl,n1,hd,hf,hr,hp,ho⟩;have hyl:=hr.len
 by_cases q:(0:Int)<=(n:Int)-1
 ·obtain ⟨m,rfl⟩:∃ m,n=m+1:=⟨n-1,by omega⟩
  have em:((m+1:Nat):Int)-1=(m:Int):=by omega
  rw [em] at q ⊢;have wm:ak .i64 ((m:Int)-1)=(m:Int)-1:=xm (by omega) (by omega);have wo:ak .i64 ((a:Int)+(m:Int))=((a+m:Nat):Int):=by rw [xm (by omega) (by omega)];omega
  obtain ⟨u,hu,iu,lu⟩:=aZ hd (i:=a) (by omega);obtain ⟨w,hw,iw,lw⟩:=aZ hd (i:=a+m) (by omega);obtain ⟨H5,H6,t1,t2,t3,t4⟩:=sX hd hu hw;have rs:RP a (a+(m+1)) ys ((ys.set a w).set (a+m) u):=RP.refl.sw (qf _) (by omega) (by omega) (by omega) hu hw;have la:=(qe.1 hu).1;have lm:=(qe.1 hw).1;have hl2:((ys.set a w).set (a+m) u).length=xs.length:=by rw [qv,qv];exact hyl
  have ho2:=ho.rp (qf _) (by omega) rs;have ho3:lX En.line a b a (a+m) ((ys.set a w).set (a+m) u):=by
   intro i j x y h1 h2 h3 h4 hx hy
   by_cases e:j=a+m
   ·subst e;rw [qu (by rw [qv];exact lm)] at hy;injection hy with hy;subst hy
    obtain ⟨k,hk⟩:∃ k,i=a+k:=⟨i-a,by omega⟩
    refine rs.all (P:=λ x=>x.line<=u.line) (λ k z k1 k2 hz=>?_) i x h1 (by omega) hx;exact hp.root (k-a) (by omega) (by omega) u z hu (by rw [show a+(k-a)=k by omega];exact hz)
   ·exact ho2 i j x y h1 h2 h3 (by omega) hx hy
  have hp3:Hp a (0+1) m ((ys.set a w).set (a+m) u):=by
   intro i c x y h1 h2 h3 hx hy;rw [qm (by omega),qm (by omega)] at hx hy;exact hp i c x y (xx _) h2 (by omega) hx hy
  simp only [↓qd,qp,aa,reduceIte,reduceEqDiff,w25,q,w31,wo,iw,lw,iu,lu,t1,t2];refine C3.q (qze (M:=M) t3 (lo:=0) (hi:=m) (xx _) (by omega) (by omega) hp3) λ _ Hd ⟨zs,hdz,hfz,hrz,hpz⟩=>?_;simp only [↓qd,qp,aa,reduceIte,reduceEqDiff,w36,wm];exact ⟨_,_,⟨m,zs,rfl,rfl,by omega,hdz,(hf.trans t4 λ _ q=>.inl q).trans hfz λ _ q=>.inl q,(hr.trans (rs.mono (qf _) (by omega))).trans (hrz.mono (qf _) (by omega)),hpz,ho3.rp (qf _) (by omega) hrz⟩,by simp only [↓qd,qp,aa,reduceIte,reduceEqDiff],by omega⟩
 ·have hn0:n=0:=by omega
  subst hn0;have q0:¬ (0:Int)<=0-1:=by decide
  simp only [↓qd,qp,aa,reduceIte,reduceEqDiff,w25,q,q0];exact ⟨ys,hd,hf,hr,λ i j x y h1 h2 h3 hx hy=>ho i j x y h1 h2 h3 (by omega) hx hy⟩
end Go.Am
