/- NmQ4: SrD SrE SrF. -/
import Derived.Test.YtiibohocdbaekaaAmQNmQ3
import Derived.Test.YtiibohocdbaekaaAmQNmQ0
set_option linter.unusedVariables false
set_option linter.unusedSimpArgs false
set_option linter.unusedSectionVars false
set_option maxRecDepth 100000
namespace Go.Am
open Go.Proofs
variable {M:Mac} [MK M]
structure QI (a b i j:Nat) (xs ys:List En) (P:Int):Prop where
 rp:RP a b xs ys
 i1:a+1<=i
 ij:i<=j+1
 j2:j<b
 pv:∀ z,ys[a]? = some z->z.line=P
 lo:∀ (k:Nat) (z:En),a+1<=k->k<i->ys[k]? = some z -> ¬ P<z.line
 hi:∀ (k:Nat) (z:En),j<k->k<b->ys[k]? = some z->P<z.line
theorem QI.up {a b i j:Nat} {xs ys:List En} {P:Int} (h:QI a b i j xs ys P) {x:En} (hx:ys[i]? = some x) (hc:¬ P<x.line) (hij:i<=j):QI a b (i+1) j xs ys P:=by
 refine ⟨h.rp,by have:=h.i1;omega,by omega,h.j2,h.pv,fun k z h1 h2 hz=>?_,h.hi⟩
 by_cases q:k=i
 ·subst q;rw [hx] at hz;injection hz with hz;subst hz;exact hc
 ·exact h.lo k z h1 (by omega) hz
theorem QI.down {a b i j:Nat} {xs ys:List En} {P:Int} (h:QI a b i j xs ys P) {x:En} (hx:ys[j]? = some x) (hc:P<x.line) (hij:i<=j):QI a b i (j-1) xs ys P:=by
 have:=h.i1;have:=h.j2
 refine ⟨h.rp,h.i1,by omega,by omega,h.pv,h.lo,fun k z h1 h2 hz=>?_⟩
 by_cases q:k=j
 ·subst q;rw [hx] at hz;injection hz with hz;subst hz;exact hc
 ·exact h.hi k z (by omega) h2 hz
theorem QI.sw {a b i j:Nat} {xs ys:List En} {P:Int} (h:QI a b i j xs ys P) {x y:En} (hx:ys[i]? = some x) (hy:ys[j]? = some y) (hxc:P<x.line) (hyc:¬ P<y.line) (hij:i<=j):QI a b (i+1) (j-1) xs ((ys.set i y).set j x) P:=by
 have h1:=h.i1;have h2:=h.j2
 have hne:i ≠ j:=fun q=>by subst q;rw [hx] at hy;injection hy with hy;subst hy;exact hyc hxc
 have li:=(qi.1 hx).1
 have lj:=(qi.1 hy).1
 refine ⟨h.rp.sw (by omega) (by omega) (by omega) (by omega) hx hy,by omega,by omega,by omega,fun z hz=>?_,fun k z k1 k2 hz=>?_,fun k z k1 k2 hz=>?_⟩
 ·rw [qw (by omega),qw (by omega)] at hz;exact h.pv z hz
 ·rw [qw (by omega)] at hz
  by_cases q:i=k
  ·subst q;rw [xn li] at hz;injection hz with hz;subst hz;exact hyc
  ·rw [qw q] at hz;exact h.lo k z k1 (by omega) hz
 ·by_cases q:j=k
  ·subst q;rw [xn (by rw [qt];exact lj)] at hz;injection hz with hz;subst hz;exact hxc
  ·rw [qw q,qw (by omega)] at hz;exact h.hi k z (by omega) k2 hz
section
variable {K:Post3} {D:List ADef} {E:Env} {H0 H:AHeap} {v:AV} {xs ys:List En} {a b i j:Nat} {P:Int}
theorem scanE13 (hd:Dt H v ys) (hf:Fr (OnS v) H0 H) (hp:QI a b i j xs ys P) (hb:b<=xs.length) (hl:xs.length<=40) (hE:SUB [(12,.int .i64 (j:Int)),(11,.int .i64 (i:Int)),(0,v),(1,.int .i64 (a:Int)),(2,.int .i64 (b:Int)),(4,cmpE)] E)
 (hk:∀ (m:Nat) (H':AHeap),Dt H' v ys->Fr (OnS v) H0 H'->QI a b m j xs ys P->(m<=j -> ∀ z,ys[m]? = some z->P<z.line)->i<=m->K .normal [(12,.int .i64 (j:Int)),(11,.int .i64 (m:Int)),(0,v),(1,.int .i64 (a:Int)),(2,.int .i64 (b:Int)),(4,cmpE)] D H') :
 LOOP3 (W M ⟨none,xq⟩ (qh 13)) (BLK3 2 K) E D H:=by
 obtain ⟨-,-,-,-,-,-,w13,-,-,w19,-,-⟩:=vk M ⟨none,xq⟩
 have hlen:=hp.rp.len
 refine LOOP3.intro (fun k E' Hc=>∃ (m:Nat),E'=[(12,.int .i64 (j:Int)),(11,.int .i64 (m:Int)),(0,v),(1,.int .i64 (a:Int)),(2,.int .i64 (b:Int)),(4,cmpE)]/\k=b+1-m/\i<=m/\QI a b m j xs ys P/\Dt Hc v ys/\Fr (OnS v) H0 Hc) ⟨_,_,⟨i,rfl,rfl,qe _,hp,hd,hf⟩,hE⟩ ?_
 rintro k E' Hc ⟨m,rfl,rfl,hmm,hp',hd',hf'⟩
 have b1:=hp'.i1;have b2:=hp'.j2;have b3:=hp'.ij
 by_cases q:(m:Int)<=(j:Int)
 ·obtain ⟨x,hx,ix,lx⟩:=dt_at hd' (i:=m) (by omega)
  obtain ⟨z,hz,iz,lz⟩:=dt_at hd' (i:=a) (by omega)
  have hpz:=hp'.pv z hz
  have wm:wrapI .i64 ((m:Int)+1)=((m+1:Nat):Int):=by rw [xr (by omega) (by omega)];omega
  simp only [↓qj,xh,reduceIte,Nat.reduceEqDiff,w13,q,ix,lx,iz,lz]
  refine C3.q (qer (M:=M) z x) fun vc He ⟨hv,hfe⟩=>?_
  rw [hv]
  have hde:Dt He v ys:=Own.em hd' hfe
  have hfe':Fr (OnS v) H0 He:=hf'.trans hfe fun _ q=>q.elim
  by_cases hc:z.line<x.line
  ·have hc':=qcs.2 hc
   simp only [↓qj,xh,reduceIte,Nat.reduceEqDiff,hc']
   exact hk m He hde hfe' hp' (fun _ y hy=>by rw [hx] at hy;injection hy with hy;subst hy;omega) hmm
  ·have hc':¬ ordI z.line x.line<0:=fun q=>hc (qcs.1 q)
   simp only [↓qj,xh,reduceIte,Nat.reduceEqDiff,hc',w19,wm]
   exact ⟨_,_,⟨m+1,rfl,rfl,by omega,hp'.up hx (by omega) (by omega),hde,hfe'⟩,by simp only [↓qj,xh,reduceIte,Nat.reduceEqDiff],by omega⟩
 ·simp only [↓qj,xh,reduceIte,Nat.reduceEqDiff,w13,q]
  exact hk m Hc hd' hf' hp' (fun w=>by omega) hmm
theorem scanE24 (hd:Dt H v ys) (hf:Fr (OnS v) H0 H) (hp:QI a b i j xs ys P) (hb:b<=xs.length) (hl:xs.length<=40) (hE:SUB [(12,.int .i64 (j:Int)),(11,.int .i64 (i:Int)),(0,v),(1,.int .i64 (a:Int)),(2,.int .i64 (b:Int)),(4,cmpE)] E)
 (hk:∀ (m:Nat) (H':AHeap),Dt H' v ys->Fr (OnS v) H0 H'->QI a b i m xs ys P->(i<=m -> ∀ z,ys[m]? = some z -> ¬ P<z.line)->m<=j->K .normal [(12,.int .i64 (m:Int)),(11,.int .i64 (i:Int)),(0,v),(1,.int .i64 (a:Int)),(2,.int .i64 (b:Int)),(4,cmpE)] D H') :
 LOOP3 (W M ⟨none,xq⟩ (qh 24)) (BLK3 4 K) E D H:=by
 obtain ⟨-,-,-,-,-,-,-,-,w24,-,-,w30⟩:=vk M ⟨none,xq⟩
 have hlen:=hp.rp.len
 refine LOOP3.intro (fun k E' Hc=>∃ (m:Nat),E'=[(12,.int .i64 (m:Int)),(11,.int .i64 (i:Int)),(0,v),(1,.int .i64 (a:Int)),(2,.int .i64 (b:Int)),(4,cmpE)]/\k=m+1/\m<=j/\QI a b i m xs ys P/\Dt Hc v ys/\Fr (OnS v) H0 Hc) ⟨_,_,⟨j,rfl,rfl,qe _,hp,hd,hf⟩,hE⟩ ?_
 rintro k E' Hc ⟨m,rfl,rfl,hmm,hp',hd',hf'⟩
 have b1:=hp'.i1;have b2:=hp'.j2;have b3:=hp'.ij
 by_cases q:(i:Int)<=(m:Int)
 ·obtain ⟨x,hx,ix,lx⟩:=dt_at hd' (i:=m) (by omega)
  obtain ⟨z,hz,iz,lz⟩:=dt_at hd' (i:=a) (by omega)
  have hpz:=hp'.pv z hz
  have wm:wrapI .i64 ((m:Int)-1)=((m-1:Nat):Int):=by rw [xr (by omega) (by omega)];omega
  simp only [↓qj,xh,reduceIte,Nat.reduceEqDiff,w24,q,ix,lx,iz,lz]
  refine C3.q (qer (M:=M) z x) fun vc He ⟨hv,hfe⟩=>?_
  rw [hv]
  have hde:Dt He v ys:=Own.em hd' hfe
  have hfe':Fr (OnS v) H0 He:=hf'.trans hfe fun _ q=>q.elim
  by_cases hc:z.line<x.line
  ·have hc':=qcs.2 hc
   simp only [↓qj,xh,reduceIte,Nat.reduceEqDiff,hc',w30,wm]
   exact ⟨_,_,⟨m-1,rfl,rfl,by omega,hp'.down hx (by omega) (by omega),hde,hfe'⟩,by simp only [↓qj,xh,reduceIte,Nat.reduceEqDiff],by omega⟩
  ·have hc':¬ ordI z.line x.line<0:=fun q=>hc (qcs.1 q)
   simp only [↓qj,xh,reduceIte,Nat.reduceEqDiff,hc']
   exact hk m He hde hfe' hp' (fun _ y hy=>by rw [hx] at hy;injection hy with hy;subst hy;omega) hmm
 ·simp only [↓qj,xh,reduceIte,Nat.reduceEqDiff,w24,q]
  exact hk m Hc hd' hf' hp' (fun w=>by omega) hmm
end
theorem qor {H:AHeap} {v:AV} {xs:List En} (h:Dt H v xs) {a b p:Nat} (hab:a+2<=b) (h1:a<=p) (h2:p<b) (hb:b<=xs.length) (hl:xs.length<=40) :
 yf M xq [v,.int .i64 (a:Int),.int .i64 (b:Int),.int .i64 (p:Int),cmpE] H fun r H'=>∃ (ys:List En) (mid:Nat) (P:Int),r=.int .i64 (mid:Int)/\Dt H' v ys/\Fr (OnS v) H H'/\RP a b xs ys/\a<mid/\mid<=b/\(∀ z,xs[p]? = some z->z.line=P) /\
  (∀ (k:Nat) (z:En),a<=k->k<mid->ys[k]? = some z -> ¬ P<z.line)/\(∀ (k:Nat) (z:En),mid<=k->k<b->ys[k]? = some z->P<z.line):=by
 refine qe6 ?_
 obtain ⟨w0,w4,w6,w43,w9,w21,w13,w32,w24,w19,w38,w30⟩:=vk M ⟨none,xq⟩
 obtain ⟨x,hx,ix,lx⟩:=dt_at h (i:=a) (by omega)
 obtain ⟨y,hy,iy,ly⟩:=dt_at h (i:=p) (by omega)
 obtain ⟨H1,H2,s1,s2,s3,s4⟩:=qma h hx hy
 have wa:wrapI .i64 ((a:Int)+1)=((a+1:Nat):Int):=by rw [xr (by omega) (by omega)];omega
 have wb:wrapI .i64 ((b:Int)-1)=((b-1:Nat):Int):=by rw [xr (by omega) (by omega)];omega
 have hla:a<xs.length:=by omega
 have hlp:p<xs.length:=by omega
 have p0:QI a b (a+1) (b-1) xs ((xs.set a y).set p x) y.line:=by
  refine ⟨RP.refl.sw (qe _) (by omega) h1 h2 hx hy,qe _,by omega,by omega,fun z hz=>?_,fun k z k1 k2=>by omega,fun k z k1 k2=>by omega⟩
  by_cases q:p=a
  ·subst q
   rw [xn (by rw [qt];exact hlp)] at hz;injection hz with hz;subst hz
   rw [hx] at hy;injection hy with hy;subst hy;rfl
  ·rw [qw q,xn hla] at hz;injection hz with hz;subst hz;rfl
 have hPy:∀ z,xs[p]? = some z->z.line=y.line:=fun z hz=>by rw [hy] at hz;injection hz with hz;subst hz;rfl
 obtain ⟨P,hP⟩:∃ P,P=y.line:=⟨_,rfl⟩
 rw [<-hP] at p0 hPy
 simp only [↓qj,xh,reduceIte,Nat.reduceEqDiff,w0,ix,lx,iy,ly,s1,s2,w4,wa,wb,w6]
 refine LOOP3.intro (fun k E' Hc=>∃ (i j:Nat) (ys:List En),E'=[(12,.int .i64 (j:Int)),(11,.int .i64 (i:Int)),(0,v),(1,.int .i64 (a:Int)),(2,.int .i64 (b:Int)),(4,cmpE)]/\k=j+1/\QI a b i j xs ys P/\Dt Hc v ys/\Fr (OnS v) H Hc) ⟨_,_,⟨a+1,b-1,_,rfl,rfl,p0,s3,s4⟩,by simp only [↓qj,xh,reduceIte,Nat.reduceEqDiff]⟩ ?_
 clear p0 s1 s2 s3 s4 ix lx iy ly
 rintro k E' Hc ⟨i,j,ys,rfl,rfl,hp,hd,hf⟩
 simp only [↓qj,xh,reduceIte,Nat.reduceEqDiff,w9]
 refine scanE13 (M:=M) hd hf hp hb hl (by simp only [↓qj,xh,reduceIte,Nat.reduceEqDiff]) fun i Hb hdb hfb hpb hstop hmi=>?_
 simp only [↓qj,xh,reduceIte,Nat.reduceEqDiff,w21]
 refine scanE24 (M:=M) hdb hfb hpb hb hl (by simp only [↓qj,xh,reduceIte,Nat.reduceEqDiff]) fun j Hc hdc hfc hpc hstop2 hmj=>?_
 have c1:=hpc.i1;have c2:=hpc.j2;have c3:=hpc.ij;have c4:=hpc.rp.len
 by_cases q:(j:Int)<(i:Int)
 ·simp only [↓qj,xh,reduceIte,Nat.reduceEqDiff,w32,q,w43]
  refine ⟨ys,i,P,rfl,hdc,hfc,hpc.rp,by omega,by omega,hPy,fun k z k1 k2 hz=>?_,fun k z k1 k2 hz=>hpc.hi k z (by omega) k2 hz⟩
  by_cases e:k=a
  ·subst e;rw [hpc.pv z hz];omega
  ·exact hpc.lo k z (by omega) k2 hz
 obtain ⟨u,hu,iu,lu⟩:=dt_at hdc (i:=i) (by omega)
 obtain ⟨w,hw,iw,lw⟩:=dt_at hdc (i:=j) (by omega)
 obtain ⟨H5,H6,t1,t2,t3,t4⟩:=qma hdc hu hw
 have p1:=hpc.sw hu hw (hstop (by have:=hpb.ij;omega) u hu) (hstop2 (by omega) w hw) (by omega)
 have wi:wrapI .i64 ((i:Int)+1)=((i+1:Nat):Int):=by rw [xr (by omega) (by omega)];omega
 have wj:wrapI .i64 ((j:Int)-1)=((j-1:Nat):Int):=by rw [xr (by omega) (by omega)];omega
 simp only [↓qj,xh,reduceIte,Nat.reduceEqDiff,w32,q,w38,iu,lu,iw,lw,t1,t2,wi,wj]
 exact ⟨_,_,⟨i+1,j-1,_,rfl,rfl,p1,t3,hfc.trans t4 fun _ q=>.inl q⟩,by simp only [↓qj,xh,reduceIte,Nat.reduceEqDiff],by omega⟩
theorem qu2 {H:AHeap} {v:AV} {xs:List En} (h:Dt H v xs) {a b:Nat} (hab:a+2<=b) (hb:b<=xs.length) (hl:xs.length<=40) :
 yf M zi [v,.int .i64 (a:Int),.int .i64 (b:Int),cmpE] H fun r H'=>Fr Em H H' /\ ∃ q:Bool,r=.bool q/\(q=true->Ord En.line a b xs):=by
 refine qd2 ?_
 obtain ⟨w0,w4,-,w9,w15,-,w28,w20,w36,w26,-,-,-,-,-,-,-,-,-,-,-⟩:=qd3 M ⟨none,zi⟩
 have wa:wrapI .i64 ((a:Int)+1)=((a+1:Nat):Int):=by rw [xr (by omega) (by omega)];omega
 simp only [↓qj,xh,reduceIte,Nat.reduceEqDiff,w0,wa,w4]
 refine LOOP3.intro (fun k E' Hc=>E'=[(10,.int .i64 0),(9,.int .i64 ((a+1:Nat):Int)),(8,.bool false),(0,v),(1,.int .i64 (a:Int)),(2,.int .i64 (b:Int)),(3,cmpE)]/\Hc=H) ?_ ?_
 ·exact ⟨0,_,⟨rfl,rfl⟩,by simp only [↓qj,xh,reduceIte,Nat.reduceEqDiff]⟩
 rintro k E' Hc ⟨rfl,rfl⟩
 have c05:(0:Int)<5:=by decide
 simp only [↓qj,xh,reduceIte,Nat.reduceEqDiff,w9,c05,w15]
 refine LOOP3.intro (fun k E' Hd=>∃ i:Nat,E'=[(10,.int .i64 0),(9,.int .i64 (i:Int)),(8,.bool false),(0,v),(1,.int .i64 (a:Int)),(2,.int .i64 (b:Int)),(3,cmpE)]/\k=b+1-i/\a+1<=i/\i<=b/\Fr Em Hc Hd/\Ord En.line a i xs) ?_ ?_
 ·exact ⟨_,_,⟨a+1,rfl,rfl,by omega,by omega,Fr.refl _,fun i j x y h1 h2 h3=>by omega⟩,by simp only [↓qj,xh,reduceIte,Nat.reduceEqDiff]⟩
 rintro k E' Hd ⟨i,rfl,rfl,h1,h2,hf,ho⟩
 have hd:Dt Hd v xs:=Own.em h hf
 have c50:(b:Int)-(a:Int)<50:=by omega
 have wc:wrapI .i64 ((b:Int)-(a:Int))=(b:Int)-(a:Int):=xr (by omega) (by omega)
 by_cases q:(i:Int)<(b:Int)
 ·obtain ⟨x,hx,ix,lx⟩:=dt_at hd (i:=i) (by omega)
  obtain ⟨y,hy,iy,ly⟩:=dt_at hd (i:=i-1) (by omega)
  have wj:wrapI .i64 ((i:Int)-1)=((i-1:Nat):Int):=by rw [xr (by omega) (by omega)];omega
  have wi:wrapI .i64 ((i:Int)+1)=((i+1:Nat):Int):=by rw [xr (by omega) (by omega)];omega
  have ne:¬ (i:Int)=(b:Int):=by omega
  simp only [↓qj,xh,reduceIte,Nat.reduceEqDiff,w20,q,ix,lx,wj,iy,ly]
  refine C3.q (qer (M:=M) x y) fun vc He ⟨hv,hfe⟩=>?_
  rw [hv]
  have hfe':Fr Em Hc He:=hf.trans hfe fun _ q=>q.elim
  by_cases hc:x.line<y.line
  ·have hc':=qcs.2 hc
   simp only [↓qj,xh,reduceIte,Nat.reduceEqDiff,hc',w28,ne,w36,wc,c50]
   exact ⟨hfe',false,rfl,fun q=>by cases q⟩
  ·have hc':¬ ordI x.line y.line<0:=fun q=>hc (qcs.1 q)
   simp only [↓qj,xh,reduceIte,Nat.reduceEqDiff,hc',w26,wi]
   refine ⟨_,_,⟨i+1,rfl,rfl,by omega,by omega,hfe',fun c d u w k1 k2 k3 hu hw=>?_⟩,by simp only [↓qj,xh,reduceIte,Nat.reduceEqDiff],by omega⟩
   by_cases e:d=i
   ·rw [e,hx] at hw;injection hw with hw;subst hw
    by_cases e2:c=i-1
    ·rw [e2,hy] at hu;injection hu with hu;subst hu;omega
    ·have:=ho c (i-1) u y k1 (by omega) (by omega) hu hy;omega
   ·exact ho c d u w k1 k2 (by omega) hu hw
 ·have e:(i:Int)=(b:Int):=by omega
  have e':i=b:=by omega
  subst e'
  simp only [↓qj,xh,reduceIte,Nat.reduceEqDiff,w20,q,w28,ja e]
  exact ⟨hf,true,rfl,fun _=>ho⟩
end Go.Am
namespace Go.Am
open Go.Proofs
variable {M:Mac} [MK M]
theorem l8_small:∀ x:Fin 64,∃ L:Fin 8,qpz[x.1]? = some (UInt8.ofNat L.1)/\x.1<2 ^ L.1/\(1<=x.1->2 ^ L.1<=2*x.1):=by decide +kernel
def LenS (n:Nat) (v:AV):Prop:=∃ L:Nat,v=.int .i64 (L:Int)/\L<8/\n<2 ^ L/\(1<=n->2 ^ L<=2*n)
theorem qzq {H:AHeap} {n:Nat} (h:n<64):yf M qca [.int .u64 (n:Int)] H fun v H'=>LenS n v/\H'=H:=by
 refine qug ?_
 obtain ⟨w0,w8⟩:=quh M ⟨none,qca⟩
 simp only [↓qj,xh,reduceIte,Nat.reduceEqDiff,w0,w8]
 obtain ⟨L,c1,c2,c3⟩:=l8_small ⟨n,h⟩
 dsimp at c1 c2 c3
 have hL:=L.2
 have ix:Op.indexStr [.str qpz,.int .u8 (n:Int)]=some (.int .u8 (L.1:Int)):=by
  rw [q4e rfl c1]
  have:(UInt8.ofNat L.1).toNat=L.1:=by rw [UInt8.toNat_ofNat'];omega
  rw [this]
 refine C3.q (R:=fun v H'=>v=.int .i64 (L.1:Int)/\H'=H) ?_ fun v H1 ⟨hv,hh⟩=>?_
 ·refine qqg ?_
  have e1:¬ (4294967296:Int)<=(n:Int):=by omega
  have e2:¬ (65536:Int)<=(n:Int):=by omega
  have e3:¬ (256:Int)<=(n:Int):=by omega
  have e4:wrapI .u8 (n:Int)=(n:Int):=w_u8 (by omega)
  have e5:wrapI .i64 (L.1:Int)=(L.1:Int):=w_i64 (by omega)
  have e6:wrapI .i64 (0+(L.1:Int))=(L.1:Int):=by rw [Int.zero_add];exact e5
  obtain ⟨w0,w2,w10,w18,w26⟩:=qqh M ⟨none,qcy⟩
  simp only [↓qj,xh,reduceIte,Nat.reduceEqDiff,w0,w2,e1,w10,e2,w18,e3,w26,e4,ix,e5,e6]
 ·rw [hv,hh]
  simp only [↓qj,xh,reduceIte,Nat.reduceEqDiff]
  exact ⟨L.1,rfl,by omega,c2,c3⟩
theorem xor64 (a b:Int):∃ c,Op.bin .xor [.int .u64 a,.int .u64 b]=some (.int .u64 c):=⟨_,rfl⟩
theorem shl64 (a b:Int) (h:0<=b):∃ c,Op.bin .shl [.int .u64 a,.int .u64 b]=some (.int .u64 c):=by
 obtain ⟨n,rfl⟩:=ji h
 exact ⟨_,o_shl .u64 .u64 a n⟩
theorem shr64 (a b:Int) (h:0<=b):∃ c,Op.bin .shr [.int .u64 a,.int .u64 b]=some (.int .u64 c):=by
 obtain ⟨n,rfl⟩:=ji h
 exact ⟨_,o_shr .u64 .u64 a n⟩
theorem and64 (a:Int) (m:Nat) (hm:m<256):∃ c:Nat,Op.bin .and [.int .u64 a,.int .u64 (m:Int)]=some (.int .u64 (c:Int))/\c<=m:=by
 obtain ⟨x,hx⟩:∃ x,x=(BitVec.ofInt 64 a &&& BitVec.ofInt 64 (m:Int)).toNat:=⟨_,rfl⟩
 have hxm:x<=m:=by
  rw [hx,BitVec.toNat_and]
  refine zn Nat.and_le_right ?_
  have:BitVec.ofInt 64 (m:Int)=BitVec.ofNat 64 m:=rfl
  rw [this,BitVec.toNat_ofNat];exact Nat.mod_le _ _
 refine ⟨x,?_,hxm⟩
 have e:Op.bin .and [.int .u64 a,.int .u64 (m:Int)]=some (.int .u64 (wrapI .u64 ((BitVec.ofInt 64 a &&& BitVec.ofInt 64 (m:Int)).toNat:Int))):=rfl
 rw [e,<-hx,w_u64 (by omega)]
theorem qee {H:AHeap} {s e:Nat} {a:AV} (h:H.get s=some (OR [a] e)) {u:AV} (hu:oneCell u=true):Op.store 1 [.ptr s 0,u] H=some (.undef,H.set s (OR [u] e)):=by
 have hc:u.cells=[u]:=by cases u<;>first|rfl|cases hu
 have:=qf7 h (o:=0) (n:=1) (v:=u) (by rw [hc];rfl) (by simp) (by rw [hc,qgo];simpa using hu)
 rw [this,hc];rfl
def Rnd (H:AHeap) (s:Nat):Prop:=∃ a:Int,H.get s=some (OR [.int .u64 a] yd)
theorem q52 {H:AHeap} {s:Nat} (h:Rnd H s):yf M qac [.ptr s 0] H fun v H'=>(∃ a:Int,v=.int .u64 a)/\Rnd H' s/\Fr (On s) H H':=by
 obtain ⟨a,h⟩:=h
 refine qmh ?_
 obtain ⟨a1,h1⟩:=shl64 a 13 (by decide)
 obtain ⟨a2,h2⟩:=xor64 a a1
 obtain ⟨a3,h3⟩:=shr64 a2 7 (by decide)
 obtain ⟨a4,h4⟩:=xor64 a2 a3
 obtain ⟨a5,h5⟩:=shl64 a4 17 (by decide)
 obtain ⟨a6,h6⟩:=xor64 a4 a5
 obtain ⟨H1,e1⟩:∃ X,X=H.set s (OR [.int .u64 a2] yd):=⟨_,rfl⟩
 obtain ⟨H2,e2⟩:∃ X,X=H1.set s (OR [.int .u64 a4] yd):=⟨_,rfl⟩
 obtain ⟨H3,e3⟩:∃ X,X=H2.set s (OR [.int .u64 a6] yd):=⟨_,rfl⟩
 have g1:H1.get s=some (OR [.int .u64 a2] yd):=by rw [e1,xj]
 have g2:H2.get s=some (OR [.int .u64 a4] yd):=by rw [e2,xj]
 have g3:H3.get s=some (OR [.int .u64 a6] yd):=by rw [e3,xj]
 have s1:=qee h (u:=.int .u64 a2) rfl
 have s2:=qee g1 (u:=.int .u64 a4) rfl
 have s3:=qee g2 (u:=.int .u64 a6) rfl
 rw [<-e1] at s1;rw [<-e2] at s2;rw [<-e3] at s3
 have l0:Op.load1 [.ptr s 0] H=some (.int .u64 a):=zw (xd h) 0
 have l1:Op.load1 [.ptr s 0] H1=some (.int .u64 a2):=zw (xd g1) 0
 have l2:Op.load1 [.ptr s 0] H2=some (.int .u64 a4):=zw (xd g2) 0
 have l3:Op.load1 [.ptr s 0] H3=some (.int .u64 a6):=zw (xd g3) 0
 simp only [↓qj,xh,reduceIte,Nat.reduceEqDiff,qmi,qn,l0,h1,h2,s1,l1,h3,h4,s2,l2,h5,h6,s3,l3]
 have f:Fr (On s) H H1:=by rw [e1];exact (Fr.refl H).set (W:=On s) (.inl rfl) _
 have f2:Fr (On s) H1 H2:=by rw [e2];exact (Fr.refl H1).set (W:=On s) (.inl rfl) _
 have f3:Fr (On s) H2 H3:=by rw [e3];exact (Fr.refl H2).set (W:=On s) (.inl rfl) _
 exact ⟨⟨a6,rfl⟩,⟨a6,g3⟩,(f.trans f2 fun _ q=>.inl q).trans f3 fun _ q=>.inl q⟩
theorem q6b {H:AHeap} {n:Nat} (h1:1<=n) (h:n<64):yf M wl [.int .i64 (n:Int)] H fun v H'=>(∃ m:Nat,v=.int .u64 (m:Int)/\n<m/\m<=2*n)/\H'=H:=by
 refine qlo ?_
 have e:wrapI .u64 (n:Int)=(n:Int):=w_u64 (by omega)
 simp only [↓qj,xh,reduceIte,Nat.reduceEqDiff,qlp,e]
 refine C3.q (qzq (M:=M) h) fun v H1 ⟨⟨L,hv,hL,l1,l2⟩,hh⟩=>?_
 rw [hv,hh]
 have hp:2 ^ L<=128:=by have:=l2 h1;omega
 have e2:Op.bin .shl [.int .u64 1,.int .i64 (L:Int)]=some (.int .u64 ((2 ^ L:Nat):Int)):=by
  rw [o_shl,Nat.min_eq_left (by show L<=64;omega),Int.one_mul]
  have:((2:Int) ^ L)=((2 ^ L:Nat):Int):=by simp
  rw [this,w_u64 (by omega)]
 simp only [↓qj,xh,reduceIte,Nat.reduceEqDiff,e2]
 exact ⟨2 ^ L,rfl,l1,l2 h1⟩
theorem q3o {H:AHeap} {v:AV} {xs:List En} (h:Dt H v xs) {a b:Nat} (hab:a+8<=b) (hb:b<=xs.length) (hl:xs.length<=40) :
 yf M ze [v,.int .i64 (a:Int),.int .i64 (b:Int),cmpE] H fun _ H'=>∃ ys,Dt H' v ys/\Fr (OnS v) H H'/\RP a b xs ys:=by
 refine qfk ?_
 obtain ⟨w0,w5,w9,w13,w19,w30,w23,w29⟩:=qfl M ⟨none,ze⟩
 obtain ⟨l,hl'⟩:∃ l,l=b-a:=⟨_,rfl⟩
 have w1:wrapI .i64 ((b:Int)-(a:Int))=(l:Int):=by rw [xr (by omega) (by omega)];omega
 have q8:(8:Int)<=(l:Int):=by omega
 have wu:wrapI .u64 (l:Int)=(l:Int):=w_u64 (by omega)
 obtain ⟨H1,e1⟩:∃ X,X=H.alloc (OR [.int .u64 0] yd):=⟨_,rfl⟩
 have g1:H1.get H.next=some (OR [.int .u64 0] yd):=by rw [e1,xg]
 have s1:=qee g1 (u:=.int .u64 (l:Int)) rfl
 obtain ⟨H2,e2⟩:∃ X,X=H1.set H.next (OR [.int .u64 (l:Int)] yd):=⟨_,rfl⟩
 rw [<-e2] at s1
 have f2:Fr Em H H2:=by rw [e2,e1];exact ((Fr.refl H).alloc _).set (.inr (qe _)) _
 have r2:Rnd H2 H.next:=⟨(l:Int),by rw [e2,xj]⟩
 have n2:H.next<H2.next:=by rw [e2,e1];show H.next<H.next+1;omega
 have h2:Dt H2 v xs:=Own.em h f2
 have off:¬ OnS v H.next:=fun q=>by have:=Own.lt h _ q;omega
 have d1:Op.bin .quo [.int .i64 (l:Int),.int .i64 4]=some (.int .i64 ((l / 4:Nat):Int)):=by
  rw [o_quo .i64 _ _ (by decide),qbu (by omega),xr (by omega) (by omega)];rfl
 have w4':wrapI .i64 (((l / 4:Nat):Int)*2)=((l / 4*2:Nat):Int):=by rw [xr (by omega) (by omega)];omega
 have w5':wrapI .i64 ((a:Int)+((l / 4*2:Nat):Int))=((a+l / 4*2:Nat):Int):=by rw [xr (by omega) (by omega)];omega
 have w6':wrapI .i64 (((a+l / 4*2:Nat):Int)-1)=((a+l / 4*2-1:Nat):Int):=by rw [xr (by omega) (by omega)];omega
 have w7':wrapI .i64 (((a+l / 4*2:Nat):Int)+1)=((a+l / 4*2+1:Nat):Int):=by rw [xr (by omega) (by omega)];omega
 simp only [↓qj,xh,reduceIte,Nat.reduceEqDiff,w0,w1,q8,w5,wu,<-e1,s1]
 refine C3.q (q6b (M:=M) (n:=l) (by omega) (by omega)) fun vm H3 ⟨⟨m,hm,m1,m2⟩,hh⟩=>?_
 rw [hm,hh]
 simp only [↓qj,xh,reduceIte,Nat.reduceEqDiff,w9,d1,w4',w5',w6']
 refine LOOP3.intro (fun k E' Hc=>∃ (i:Nat) (ys:List En),E'=[(11,.int .i64 (i:Int)),(10,.int .u64 (m:Int)),(9,.ptr H.next 0),(8,.int .i64 (l:Int)),(0,v),(1,.int .i64 (a:Int))]/\k=a+l / 4*2+2-i/\a+l / 4*2-1<=i/\i<=a+l / 4*2+2/\Dt Hc v ys/\Rnd Hc H.next/\H.next<Hc.next/\Fr (OnS v) H Hc/\RP a b xs ys) ?_ ?_
 ·exact ⟨_,_,⟨a+l / 4*2-1,xs,rfl,rfl,by omega,by omega,h2,r2,n2,⟨f2.next,fun x hx _=>f2.keep x hx id⟩,.refl⟩,by simp only [↓qj,xh,reduceIte,Nat.reduceEqDiff]⟩
 rintro k E' Hc ⟨i,ys,rfl,rfl,i1,i2,hd,hrn,hnx,hf,hr⟩
 have hyl:=hr.len
 by_cases q:(i:Int)<=((a+l / 4*2+1:Nat):Int)
 ·simp only [↓qj,xh,reduceIte,Nat.reduceEqDiff,w13,d1,w4',w5',w7',q,w19]
  refine C3.q (q52 (M:=M) hrn) fun vr Hd ⟨⟨x,hx⟩,hrn',hfd⟩=>?_
  rw [hx]
  have hd':Dt Hd v ys:=Own.fr hd hfd fun y hy (q:y=H.next)=>off (q ▸ hy)
  have hf':Fr (OnS v) H Hd:=hf.trans hfd fun y (q:y=H.next)=>.inr (by omega)
  have ws:wrapI .u64 ((m:Int)-1)=((m-1:Nat):Int):=by rw [show (m:Int)-1=((m-1:Nat):Int) by omega];exact w_u64 (by omega)
  obtain ⟨c,hc,hcm⟩:=and64 x (m-1) (by omega)
  have wc:wrapI .i64 (c:Int)=(c:Int):=w_i64 (by omega)
  have wi:wrapI .i64 ((i:Int)+1)=((i+1:Nat):Int):=by rw [xr (by omega) (by omega)];omega
  have fin:∀ o:Nat,o<l -> ∀ {E:Env},lk E 0=some v->lk E 11=some (.int .i64 (i:Int))->lk E 1=some (.int .i64 (a:Int))->lk E 12=some (.int .i64 (o:Int))->lk E 10=some (.int .u64 (m:Int))->lk E 9=some (.ptr H.next 0)->lk E 8=some (.int .i64 (l:Int)) ->
   W M ⟨none,ze⟩ (qp 29) true (BLK3 1 (SEQ3 (W M ⟨none,ze⟩ (qp 30)) (LQ3 (fun k E' Hc=>∃ (i:Nat) (ys:List En),E'=[(11,.int .i64 (i:Int)),(10,.int .u64 (m:Int)),(9,.ptr H.next 0),(8,.int .i64 (l:Int)),(0,v),(1,.int .i64 (a:Int))]/\k=a+l / 4*2+2-i/\a+l / 4*2-1<=i/\i<=a+l / 4*2+2/\Dt Hc v ys/\Rnd Hc H.next/\H.next<Hc.next/\Fr (OnS v) H Hc/\RP a b xs ys) [] (a+l / 4*2+2-i) (BLK3 0 (FIN3 M [] (RT3 fun _ H'=>∃ ys,Dt H' v ys/\Fr (OnS v) H H'/\RP a b xs ys)))))) E [] Hd:=by
   intro o ho E h0 h11 h1 h12 h10 h9 h8
   have wo:wrapI .i64 ((a:Int)+(o:Int))=((a+o:Nat):Int):=by rw [xr (by omega) (by omega)];omega
   obtain ⟨u,hu,iu,lu⟩:=dt_at hd' (i:=i) (by omega)
   obtain ⟨w,hw,iw,lw⟩:=dt_at hd' (i:=a+o) (by omega)
   obtain ⟨H5,H6,t1,t2,t3,t4⟩:=qma hd' hu hw
   simp only [↓qj,xh,reduceIte,Nat.reduceEqDiff,w29,h0,h11,h1,h12,wo,iw,lw,iu,lu,t1,t2,w30,wi]
   refine ⟨_,_,⟨i+1,_,rfl,rfl,by omega,by omega,t3,?_,?_,hf'.trans t4 fun _ q=>.inl q,hr.sw (by omega) (by omega) (by omega) (by omega) hu hw⟩,by simp only [↓qj,xh,reduceIte,Nat.reduceEqDiff,h0,h1,h8,h9,h10],by omega⟩
   ·obtain ⟨z,hz⟩:=hrn'
    exact ⟨z,by rw [t4.keep _ (ql hnx hfd.next) off];exact hz⟩
   ·exact ql hnx (zn hfd.next t4.next)
  by_cases ge:(l:Int)<=(c:Int)
  ·have wd:wrapI .i64 ((c:Int)-(l:Int))=((c-l:Nat):Int):=by rw [xr (by omega) (by omega)];omega
   simp only [↓qj,xh,reduceIte,Nat.reduceEqDiff,ws,hc,wc,w23,ge,wd]
   exact fin (c-l) (by omega) rfl rfl rfl rfl rfl rfl rfl
  ·simp only [↓qj,xh,reduceIte,Nat.reduceEqDiff,ws,hc,wc,w23,ge]
   exact fin c (by omega) rfl rfl rfl rfl rfl rfl rfl
 ·simp only [↓qj,xh,reduceIte,Nat.reduceEqDiff,w13,d1,w4',w5',w7',q]
  exact ⟨ys,hd,hf,hr⟩
end Go.Am
namespace Go.Am
open Go.Proofs
variable {M:Mac} [MK M]
def Hp (a lo hi:Nat) (xs:List En):Prop:=∀ (i c:Nat) (x y:En),lo<=i->(c=2*i+1\/c=2*i+2)->c<hi->xs[a+i]? = some x->xs[a+c]? = some y->y.line<=x.line
structure HpX (a lo hi r:Nat) (xs:List En):Prop where
 h:∀ (i c:Nat) (x y:En),lo<=i->i ≠ r->(c=2*i+1\/c=2*i+2)->c<hi->xs[a+i]? = some x->xs[a+c]? = some y->y.line<=x.line
 g:∀ (p c:Nat) (x y:En),lo<=p->(r=2*p+1\/r=2*p+2)->(c=2*r+1\/c=2*r+2)->c<hi->xs[a+p]? = some x->xs[a+c]? = some y->y.line<=x.line
theorem HpX.done {a lo hi r:Nat} {xs:List En} (h:HpX a lo hi r xs) (hr:∀ (c:Nat) (x y:En),(c=2*r+1\/c=2*r+2)->c<hi->xs[a+r]? = some x->xs[a+c]? = some y->y.line<=x.line):Hp a lo hi xs:=fun i c x y h1 h2 h3 hx hy=>by
 by_cases q:i=r
 ·subst q;exact hr c x y h2 h3 hx hy
 ·exact h.h i c x y h1 q h2 h3 hx hy
theorem HpX.sw {a lo hi r c:Nat} {xs:List En} (h:HpX a lo hi r xs) (hlo:lo<=r) (hc:c=2*r+1\/c=2*r+2) (hch:c<hi) {x y:En} (hx:xs[a+r]? = some x) (hy:xs[a+c]? = some y) (hxy:x.line<y.line)
 (hs:∀ (s:Nat) (z:En),(s=2*r+1\/s=2*r+2)->s<hi->xs[a+s]? = some z->z.line<=y.line):HpX a lo hi c ((xs.set (a+r) y).set (a+c) x):=by
 have hrc:r<c:=by omega
 have lr:=(qi.1 hx).1
 have lc:=(qi.1 hy).1
 have atr:((xs.set (a+r) y).set (a+c) x)[a+r]? = some y:=by rw [qw (by omega),xn lr]
 have atc:((xs.set (a+r) y).set (a+c) x)[a+c]? = some x:=by rw [xn (by rw [qt];exact lc)]
 have ato:∀ k,k ≠ r->k ≠ c->((xs.set (a+r) y).set (a+c) x)[a+k]? = xs[a+k]?:=fun k h1 h2=>by rw [qw (by omega),qw (by omega)]
 refine ⟨fun i d u w h1 h2 h3 h4 hu hw=>?_,fun p d u w h1 h2 h3 h4 hu hw=>?_⟩
 ·by_cases e1:i=r
  ·subst e1
   rw [atr] at hu;injection hu with hu;subst hu
   by_cases e2:d=c
   ·subst e2;rw [atc] at hw;injection hw with hw;subst hw;omega
   ·rw [ato d (by omega) e2] at hw;exact hs d w h3 h4 hw
  ·rw [ato i e1 h2] at hu
   by_cases e2:d=r
   ·subst e2
    rw [atr] at hw;injection hw with hw;subst hw
    exact h.g i c u y h1 (by omega) hc hch hu hy
   ·rw [ato d e2 (by omega)] at hw
    exact h.h i d u w h1 e1 h3 h4 hu hw
 ·have:p=r:=by omega
  subst this
  rw [atr] at hu;injection hu with hu;subst hu
  rw [ato d (by omega) (by omega)] at hw
  exact h.h c d y w (by omega) (by omega) h3 h4 hy hw
theorem q0m {H:AHeap} {v:AV} {xs:List En} (h:Dt H v xs) {a lo hi:Nat} (hlo:lo<=hi) (hb:a+hi<=xs.length) (hl:xs.length<=40) (hp:Hp a (lo+1) hi xs) :
 yf M zq [v,.int .i64 (lo:Int),.int .i64 (hi:Int),.int .i64 (a:Int),cmpE] H fun _ H'=>∃ ys,Dt H' v ys/\Fr (OnS v) H H'/\RP a (a+hi) xs ys/\Hp a lo hi ys:=by
 refine qgl ?_
 obtain ⟨w0,w4,w7,w13,w19,w25⟩:=qgm M ⟨none,zq⟩
 simp only [↓qj,xh,reduceIte,Nat.reduceEqDiff,w0]
 refine LOOP3.intro (fun k E' Hc=>∃ (r:Nat) (ys:List En),E'=[(10,.int .i64 (r:Int)),(0,v),(2,.int .i64 (hi:Int)),(3,.int .i64 (a:Int)),(4,cmpE)]/\k=hi+1-r/\lo<=r/\r<=hi/\Dt Hc v ys/\Fr (OnS v) H Hc/\RP a (a+hi) xs ys/\HpX a lo hi r ys) ?_ ?_
 ·exact ⟨_,_,⟨lo,xs,rfl,rfl,by omega,hlo,h,Fr.refl _,.refl,⟨fun i c x y h1 h2 h3 h4 hx hy=>hp i c x y (by omega) h3 h4 hx hy,fun p c x y h1 h2=>by omega⟩⟩,by simp only [↓qj,xh,reduceIte,Nat.reduceEqDiff]⟩
 rintro k E' Hc ⟨r,ys,rfl,rfl,r1,r2,hd,hf,hr,hx⟩
 have hyl:=hr.len
 have m1:wrapI .i64 (2*(r:Int))=((2*r:Nat):Int):=by rw [xr (by omega) (by omega)];omega
 have m2:wrapI .i64 (((2*r:Nat):Int)+1)=((2*r+1:Nat):Int):=by rw [xr (by omega) (by omega)];omega
 by_cases q:(hi:Int)<=((2*r+1:Nat):Int)
 ·simp only [↓qj,xh,reduceIte,Nat.reduceEqDiff,w4,m1,m2,w7,q]
  exact ⟨ys,hd,hf,hr,hx.done fun c x y h1 h2=>by omega⟩
 have m3:wrapI .i64 (((2*r+1:Nat):Int)+1)=((2*r+2:Nat):Int):=by rw [xr (by omega) (by omega)];omega
 have m4:wrapI .i64 ((a:Int)+((2*r+1:Nat):Int))=((a+(2*r+1):Nat):Int):=by rw [xr (by omega) (by omega)];omega
 have m5:wrapI .i64 (((a+(2*r+1):Nat):Int)+1)=((a+(2*r+2):Nat):Int):=by rw [xr (by omega) (by omega)];omega
 have m6:wrapI .i64 ((a:Int)+(r:Int))=((a+r:Nat):Int):=by rw [xr (by omega) (by omega)];omega
 obtain ⟨x,hx0,ix,lx⟩:=dt_at hd (i:=a+r) (by omega)
 -- behind the choice of the child
 have fin:∀ (c:Nat) (He:AHeap),(c=2*r+1\/c=2*r+2)->c<hi->Dt He v ys->Fr (OnS v) H He->(∀ (s:Nat) (y z:En),(s=2*r+1\/s=2*r+2)->s<hi->ys[a+c]? = some y->ys[a+s]? = some z->z.line<=y.line) ->
  ∀ {E:Env},lk E 0=some v->lk E 10=some (.int .i64 (r:Int))->lk E 11=some (.int .i64 (c:Int))->lk E 2=some (.int .i64 (hi:Int))->lk E 3=some (.int .i64 (a:Int))->lk E 4=some cmpE ->
   W M ⟨none,zq⟩ (xi 19) true (BLK3 1 (LQ3 (fun k E' Hc=>∃ (r:Nat) (ys:List En),E'=[(10,.int .i64 (r:Int)),(0,v),(2,.int .i64 (hi:Int)),(3,.int .i64 (a:Int)),(4,cmpE)]/\k=hi+1-r/\lo<=r/\r<=hi/\Dt Hc v ys/\Fr (OnS v) H Hc/\RP a (a+hi) xs ys/\HpX a lo hi r ys) [] (hi+1-r) (BLK3 0 (FIN3 M [] (RT3 fun _ H'=>∃ ys,Dt H' v ys/\Fr (OnS v) H H'/\RP a (a+hi) xs ys/\Hp a lo hi ys))))) E [] He:=by
  intro c He hc hch hde hfe hmax E h0 h10 h11 h2 h3 h4
  obtain ⟨y,hy,iy,ly⟩:=dt_at hde (i:=a+c) (by omega)
  obtain ⟨x',hx',ix',lx'⟩:=dt_at hde (i:=a+r) (by omega)
  have exx:x'=x:=by rw [hx0] at hx';injection hx' with hx';exact hx'.symm
  subst exx
  have m7:wrapI .i64 ((a:Int)+(c:Int))=((a+c:Nat):Int):=by rw [xr (by omega) (by omega)];omega
  simp only [↓qj,xh,reduceIte,Nat.reduceEqDiff,w19,h0,h10,h11,h3,h4,m6,m7,ix',lx',iy,ly]
  refine C3.q (qer (M:=M) x' y) fun vc Hg ⟨hv,hfg⟩=>?_
  rw [hv]
  have hdg:Dt Hg v ys:=Own.em hde hfg
  have hfg':Fr (OnS v) H Hg:=hfe.trans hfg fun _ q=>q.elim
  by_cases hcmp:x'.line<y.line
  ·have hc':=qcs.2 hcmp
   obtain ⟨u,hu,iu,lu⟩:=dt_at hdg (i:=a+r) (by omega)
   obtain ⟨w,hw,iw,lw⟩:=dt_at hdg (i:=a+c) (by omega)
   obtain ⟨H5,H6,t1,t2,t3,t4⟩:=qma hdg hu hw
   have e1:u=x':=by rw [hx'] at hu;injection hu with hu;exact hu.symm
   have e2:w=y:=by rw [hy] at hw;injection hw with hw;exact hw.symm
   subst e1;subst e2
   simp only [↓qj,xh,reduceIte,Nat.reduceEqDiff,hc',w25,h0,h10,h11,h3,m6,m7,iw,lw,iu,lu,t1,t2]
   exact ⟨_,_,⟨c,_,rfl,rfl,by omega,by omega,t3,hfg'.trans t4 fun _ q=>.inl q,hr.sw (by omega) (by omega) (by omega) (by omega) hu hw,hx.sw r1 hc hch hu hw hcmp fun s z s1 s2 hz=>hmax s w z s1 s2 hw hz⟩,by simp only [↓qj,xh,reduceIte,Nat.reduceEqDiff,h0,h2,h3,h4],by omega⟩
  ·have hc':¬ ordI x'.line y.line<0:=fun q=>hcmp (qcs.1 q)
   simp only [↓qj,xh,reduceIte,Nat.reduceEqDiff,hc']
   refine ⟨ys,hdg,hfg',hr,hx.done fun s u w s1 s2 hu hw=>?_⟩
   rw [hx'] at hu;injection hu with hu;subst hu
   have:=hmax s y w s1 s2 hy hw;omega
 obtain ⟨y,hy,iy,ly⟩:=dt_at hd (i:=a+(2*r+1)) (by omega)
 by_cases q2:((2*r+2:Nat):Int)<(hi:Int)
 ·obtain ⟨z,hz,iz,lz⟩:=dt_at hd (i:=a+(2*r+2)) (by omega)
  simp only [↓qj,xh,reduceIte,Nat.reduceEqDiff,w4,m1,m2,w7,q,w13,m3,q2,m4,iy,ly,m5,iz,lz]
  refine C3.q (qer (M:=M) y z) fun vc He ⟨hv,hfe⟩=>?_
  rw [hv]
  have hde:Dt He v ys:=Own.em hd hfe
  have hfe':Fr (OnS v) H He:=hf.trans hfe fun _ q=>q.elim
  by_cases hc:y.line<z.line
  ·have hc':=qcs.2 hc
   simp only [↓qj,xh,reduceIte,Nat.reduceEqDiff,hc',m3]
   refine fin (2*r+2) He (.inr rfl) (by omega) hde hfe' (fun s u w s1 s2 hu hw=>?_) rfl rfl rfl rfl rfl rfl
   rw [hz] at hu;injection hu with hu;subst hu
   rcases s1 with s1|s1<;>subst s1
   ·rw [hy] at hw;injection hw with hw;subst hw;omega
   ·rw [hz] at hw;injection hw with hw;subst hw;omega
  ·have hc':¬ ordI y.line z.line<0:=fun q=>hc (qcs.1 q)
   simp only [↓qj,xh,reduceIte,Nat.reduceEqDiff,hc']
   refine fin (2*r+1) He (.inl rfl) (by omega) hde hfe' (fun s u w s1 s2 hu hw=>?_) rfl rfl rfl rfl rfl rfl
   rw [hy] at hu;injection hu with hu;subst hu
   rcases s1 with s1|s1<;>subst s1
   ·rw [hy] at hw;injection hw with hw;subst hw;omega
   ·rw [hz] at hw;injection hw with hw;subst hw;omega
 ·simp only [↓qj,xh,reduceIte,Nat.reduceEqDiff,w4,m1,m2,w7,q,w13,m3,q2]
  refine fin (2*r+1) Hc (.inl rfl) (by omega) hd hf (fun s u w s1 s2 hu hw=>?_) rfl rfl rfl rfl rfl rfl
  have:s=2*r+1:=by omega
  subst this
  rw [hu] at hw;injection hw with hw;subst hw;omega
theorem Hp.root {a n:Nat} {xs:List En} (h:Hp a 0 n xs):∀ (k:Nat),k<n->a+n<=xs.length -> ∀ x y,xs[a]? = some x->xs[a+k]? = some y->y.line<=x.line:=by
 intro k
 induction k using Nat.strongRecOn with
 | _ k ih =>
  intro hk hl x y hx hy
  by_cases q:k=0
  ·subst q;rw [kz,hx] at hy;injection hy with hy;subst hy;omega
  ·obtain ⟨z,hz⟩:∃ z,xs[a+(k-1) / 2]? = some z:=⟨xs[a+(k-1) / 2]'(by omega),by simp⟩
   have h1:=ih ((k-1) / 2) (by omega) (by omega) hl x z hx hz
   have h2:=h ((k-1) / 2) k z y (zl _) (by omega) hk hz hy
   omega
theorem q5t {H:AHeap} {v:AV} {xs:List En} (h:Dt H v xs) {a b:Nat} (hab:a+2<=b) (hb:b<=xs.length) (hl:xs.length<=40) :
 yf M jh [v,.int .i64 (a:Int),.int .i64 (b:Int),cmpE] H fun _ H'=>∃ ys,Dt H' v ys/\Fr (OnS v) H H'/\RP a b xs ys/\Ord En.line a b ys:=by
 refine qgi ?_
 obtain ⟨w0,w4,w6,w21,w11,w25,w17,w31,w20,w36⟩:=qgj M ⟨none,jh⟩
 obtain ⟨l,hl'⟩:∃ l,l=b-a:=⟨_,rfl⟩
 have hbl:b=a+l:=by omega
 have w1:wrapI .i64 ((b:Int)-(a:Int))=(l:Int):=by rw [xr (by omega) (by omega)];omega
 have w2:wrapI .i64 ((l:Int)-1)=((l-1:Nat):Int):=by rw [xr (by omega) (by omega)];omega
 have d1:Op.bin .quo [.int .i64 ((l-1:Nat):Int),.int .i64 2]=some (.int .i64 (((l-1) / 2:Nat):Int)):=by
  rw [o_quo .i64 _ _ (by decide),qbu (by omega),xr (by omega) (by omega)];rfl
 simp only [↓qj,xh,reduceIte,Nat.reduceEqDiff,w0,w4,w1,w6,w2,d1]
 refine LOOP3.intro (fun k E' Hc=>∃ (n:Nat) (ys:List En),E'=[(11,.int .i64 ((n:Int)-1)),(10,.int .i64 (l:Int)),(9,.int .i64 0),(8,.int .i64 (a:Int)),(0,v),(3,cmpE)]/\k=n+1/\n<=l/\Dt Hc v ys/\Fr (OnS v) H Hc/\RP a b xs ys/\Hp a n l ys) ?_ ?_
 ·exact ⟨_,_,⟨(l-1) / 2+1,xs,by rw [show (((l-1) / 2+1:Nat):Int)-1=(((l-1) / 2:Nat):Int) by omega],rfl,by omega,h,Fr.refl _,.refl,fun i c x y h1 h2 h3=>by omega⟩,by simp only [↓qj,xh,reduceIte,Nat.reduceEqDiff]⟩
 rintro k E' Hc ⟨n,ys,rfl,rfl,n1,hd,hf,hr,hp⟩
 have hyl:=hr.len
 by_cases q:(0:Int)<=(n:Int)-1
 ·obtain ⟨m,rfl⟩:∃ m,n=m+1:=⟨n-1,by omega⟩
  have em:((m+1:Nat):Int)-1=(m:Int):=by omega
  rw [em] at q ⊢
  have wm:wrapI .i64 ((m:Int)-1)=(m:Int)-1:=xr (by omega) (by omega)
  simp only [↓qj,xh,reduceIte,Nat.reduceEqDiff,w11,q,w17]
  refine C3.q (q0m (M:=M) hd (lo:=m) (hi:=l) (by omega) (by omega) (by omega) hp) fun _ Hd ⟨zs,hdz,hfz,hrz,hpz⟩=>?_
  simp only [↓qj,xh,reduceIte,Nat.reduceEqDiff,w20,wm]
  exact ⟨_,_,⟨m,zs,rfl,rfl,by omega,hdz,hf.trans hfz fun _ q=>.inl q,hr.trans (hrz.mono (qe _) (by omega)),hpz⟩,by simp only [↓qj,xh,reduceIte,Nat.reduceEqDiff],by omega⟩
 have hn0:n=0:=by omega
 subst hn0
 have q0:¬ (0:Int)<=0-1:=by decide
 simp only [↓qj,xh,reduceIte,Nat.reduceEqDiff,w11,q,q0,w21,w2]
 refine LOOP3.intro (fun k E' Hc=>∃ (n:Nat) (ys:List En),E'=[(12,.int .i64 ((n:Int)-1)),(9,.int .i64 0),(8,.int .i64 (a:Int)),(0,v),(3,cmpE)]/\k=n+1/\n<=l/\Dt Hc v ys/\Fr (OnS v) H Hc/\RP a b xs ys/\Hp a 0 n ys/\OrdX En.line a b a (a+n) ys) ?_ ?_
 ·exact ⟨_,_,⟨l,ys,by rw [show (l:Int)-1=((l-1:Nat):Int) by omega],rfl,qe _,hd,hf,hr,hp,by rw [<-hbl];exact OrdX.start⟩,by simp only [↓qj,xh,reduceIte,Nat.reduceEqDiff]⟩
 clear hd hf hr hp hyl q
 rintro k E' Hc ⟨n,ys,rfl,rfl,n1,hd,hf,hr,hp,ho⟩
 have hyl:=hr.len
 by_cases q:(0:Int)<=(n:Int)-1
 ·obtain ⟨m,rfl⟩:∃ m,n=m+1:=⟨n-1,by omega⟩
  have em:((m+1:Nat):Int)-1=(m:Int):=by omega
  rw [em] at q ⊢
  have wm:wrapI .i64 ((m:Int)-1)=(m:Int)-1:=xr (by omega) (by omega)
  have wo:wrapI .i64 ((a:Int)+(m:Int))=((a+m:Nat):Int):=by rw [xr (by omega) (by omega)];omega
  obtain ⟨u,hu,iu,lu⟩:=dt_at hd (i:=a) (by omega)
  obtain ⟨w,hw,iw,lw⟩:=dt_at hd (i:=a+m) (by omega)
  obtain ⟨H5,H6,t1,t2,t3,t4⟩:=qma hd hu hw
  have rs:RP a (a+(m+1)) ys ((ys.set a w).set (a+m) u):=RP.refl.sw (qe _) (by omega) (by omega) (by omega) hu hw
  have la:=(qi.1 hu).1
  have lm:=(qi.1 hw).1
  have hl2:((ys.set a w).set (a+m) u).length=xs.length:=by rw [qt,qt];exact hyl
  have ho2:=ho.rp (qe _) (by omega) rs
  have ho3:OrdX En.line a b a (a+m) ((ys.set a w).set (a+m) u):=by
   intro i j x y h1 h2 h3 h4 hx hy
   by_cases e:j=a+m
   ·subst e
    rw [xn (by rw [qt];exact lm)] at hy;injection hy with hy;subst hy
    obtain ⟨k,hk⟩:∃ k,i=a+k:=⟨i-a,by omega⟩
    refine rs.all (P:=fun x=>x.line<=u.line) (fun k z k1 k2 hz=>?_) i x h1 (by omega) hx
    exact hp.root (k-a) (by omega) (by omega) u z hu (by rw [show a+(k-a)=k by omega];exact hz)
   ·exact ho2 i j x y h1 h2 h3 (by omega) hx hy
  have hp3:Hp a (0+1) m ((ys.set a w).set (a+m) u):=by
   intro i c x y h1 h2 h3 hx hy
   rw [qw (by omega),qw (by omega)] at hx hy
   exact hp i c x y (zl _) h2 (by omega) hx hy
  simp only [↓qj,xh,reduceIte,Nat.reduceEqDiff,w25,q,w31,wo,iw,lw,iu,lu,t1,t2]
  refine C3.q (q0m (M:=M) t3 (lo:=0) (hi:=m) (zl _) (by omega) (by omega) hp3) fun _ Hd ⟨zs,hdz,hfz,hrz,hpz⟩=>?_
  simp only [↓qj,xh,reduceIte,Nat.reduceEqDiff,w36,wm]
  exact ⟨_,_,⟨m,zs,rfl,rfl,by omega,hdz,(hf.trans t4 fun _ q=>.inl q).trans hfz fun _ q=>.inl q,(hr.trans (rs.mono (qe _) (by omega))).trans (hrz.mono (qe _) (by omega)),hpz,ho3.rp (qe _) (by omega) hrz⟩,by simp only [↓qj,xh,reduceIte,Nat.reduceEqDiff],by omega⟩
 ·have hn0:n=0:=by omega
  subst hn0
  have q0:¬ (0:Int)<=0-1:=by decide
  simp only [↓qj,xh,reduceIte,Nat.reduceEqDiff,w25,q,q0]
  exact ⟨ys,hd,hf,hr,fun i j x y h1 h2 h3 hx hy=>ho i j x y h1 h2 h3 (by omega) hx hy⟩
end Go.Am
