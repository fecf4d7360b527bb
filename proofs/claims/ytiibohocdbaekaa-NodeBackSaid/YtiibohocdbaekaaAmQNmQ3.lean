/- NmQ3: SrA SrB SrC. -/
import Derived.Test.YtiibohocdbaekaaAmQCodeQ
import Derived.Test.YtiibohocdbaekaaAmQNmQ0
import Derived.Test.YtiibohocdbaekaaAmQNmQ2
set_option linter.unusedVariables false
set_option linter.unusedSimpArgs false
set_option linter.unusedSectionVars false
set_option maxRecDepth 100000
namespace Go.Am
open Go.Proofs
variable {M:Mac} [MK M]
abbrev uW (x:Int):AV:=.int .u64 x
def encE (e:En):List AV:=.int .i64 e.line::.int .i64 e.st::.bool e.r::.bool e.w::(e.d.l.map uW++(e.o.l.map uW ++ [.int .i64 e.u]))
theorem x9 (e:En):(encE e).length=21:=by simp [encE,e.d.h,e.o.h]
theorem qdp (e:En):allOne (encE e)=true:=by
 rw [qgo];unfold encE;simp [oneCell]
abbrev cmpE:AV:=.fn (.func qcj) [] []
def ordI (a b:Int):Int:=if a<b then -1 else if b<a then 1 else 0
theorem qcs {a b:Int}:ordI a b<0 ↔ a<b:=by unfold ordI;split<;>(try split)<;>omega
theorem qwk {H:AHeap} (a:Int):yf M qc4 [.int .i64 a] H fun v H'=>v=.bool false/\H'=H:=by
 refine qs9 ?_
 simp only [↓qj,xh,reduceIte,Nat.reduceEqDiff,qta,ja (show a=a from rfl)]
theorem qyy {H:AHeap} (a b:Int):yf M qbw [.int .i64 a,.int .i64 b] H fun v H'=>v=.int .i64 (ordI a b)/\H'=H:=by
 refine qp3 ?_
 obtain ⟨w0,w4,w6,w22,w10,w30,w18,w38,w46⟩:=qp4 M ⟨none,qbw⟩
 simp only [↓qj,xh,reduceIte,Nat.reduceEqDiff,w0]
 refine C3.q (qwk (M:=M) a) fun v H1 ⟨hv,hh⟩=>?_
 rw [hv,hh]
 simp only [↓qj,xh,reduceIte,Nat.reduceEqDiff,w4]
 refine C3.q (qwk (M:=M) b) fun v H1 ⟨hv,hh⟩=>?_
 rw [hv,hh]
 by_cases h1:a<b
 ·simp only [↓qj,xh,reduceIte,Nat.reduceEqDiff,w6,w22,w30,h1]
  unfold ordI;rw [xc h1]
 by_cases h2:b<a
 ·simp only [↓qj,xh,reduceIte,Nat.reduceEqDiff,w6,w22,w30,h1,w38,h2]
  unfold ordI;rw [qo h1,xc h2]
 simp only [↓qj,xh,reduceIte,Nat.reduceEqDiff,w6,w22,w30,h1,w38,h2,w46]
 unfold ordI;rw [qo h1,qo h2]
theorem qer {H:AHeap} (x y:En):yf M qcj [.agg (encE x),.agg (encE y)] H fun v H'=>v=.int .i64 (ordI x.line y.line)/\Fr Em H H':=by
 refine qrm ?_
 obtain ⟨H1,e1⟩:∃ X,X=H.alloc (OR (encE x) qk):=⟨_,rfl⟩
 obtain ⟨H2,e2⟩:∃ X,X=H1.alloc (OR (encE y) qk):=⟨_,rfl⟩
 have f1:Fr Em H H1:=by rw [e1];exact (Fr.refl H).alloc _
 have f12:Fr Em H1 H2:=by rw [e2];exact (Fr.refl H1).alloc _
 have n1:H1.next=H.next+1:=by rw [e1,za]
 have g1:H2.get H.next=some (OR (encE x) qk):=by rw [f12.keep _ (by omega) id,e1,xg]
 have g2:H2.get H1.next=some (OR (encE y) qk):=by rw [e2,xg]
 have l1:Op.load1 [.ptr H.next 0] H2=some (.int .i64 x.line):=zw (xd g1) 0
 have l2:Op.load1 [.ptr H1.next 0] H2=some (.int .i64 y.line):=zw (xd g2) 0
 simp only [↓qj,xh,reduceIte,Nat.reduceEqDiff,qrn,xx,<-e1,<-e2,l1,l2]
 refine C3.q (qyy (M:=M) x.line y.line) fun v H3 ⟨hv,hh⟩=>?_
 rw [hv,hh]
 simp only [↓qj,xh,reduceIte,Nat.reduceEqDiff]
 exact f1.trans f12 fun _ q=>q.elim
abbrev Dt (H:AHeap) (v:AV) (xs:List En):Prop:=OwnT encE qk 21 H v xs
theorem qma {H:AHeap} {v:AV} {xs:List En} (h:Dt H v xs) {i j:Nat} {x y:En} (hx:xs[i]? = some x) (hy:xs[j]? = some y):∃ H1 H2,Op.store 21 [.ptr (slB v) (slO 21 v i),.agg (encE y)] H=some (.undef,H1)/\Op.store 21 [.ptr (slB v) (slO 21 v j),.agg (encE x)] H1=some (.undef,H2) /\
 Dt H2 v ((xs.set i y).set j x)/\Fr (OnS v) H H2:=by
 obtain ⟨H1,a1,a2,a3⟩:=h.setE x9 qdp hx y
 have hj:∃ z,(xs.set i y)[j]? = some z:=by
  have:=(qi.1 hy).1
  exact ⟨(xs.set i y)[j]'(by rw [qt];exact this),by simp [this]⟩
 obtain ⟨z,hz⟩:=hj
 obtain ⟨H2,b1,b2,b3⟩:=a2.setE x9 qdp hz x
 exact ⟨H1,H2,a1,b1,b2,a3.trans b3 fun x hx=>.inl hx⟩
theorem qvq {H:AHeap} {v:AV} {xs:List En} (h:Dt H v xs) {a b:Nat} (hab:a<=b) (hb:b<=xs.length) (hn:xs.length<=40) :
 yf M zy [v,.int .i64 (a:Int),.int .i64 (b:Int),cmpE] H fun _ H'=>∃ ys,Dt H' v ys/\Fr (OnS v) H H'/\RP a b xs ys/\Ord En.line a b ys:=by
 refine qfn ?_
 obtain ⟨w0,w4,w10,w26,w16,w22,w25⟩:=qfo M ⟨none,zy⟩
 have wa:wrapI .i64 ((a:Int)+1)=((a+1:Nat):Int):=by rw [xr (by omega) (by omega)];omega
 simp only [↓qj,xh,reduceIte,Nat.reduceEqDiff,w0,wa]
 refine LOOP3.intro (fun k E' Hc=>∃ (i:Nat) (ys:List En),E'=[(8,.int .i64 (i:Nat)),(0,v),(1,.int .i64 (a:Int)),(2,.int .i64 (b:Int)),(3,cmpE)]/\k=b+1-i/\a+1<=i/\(i<=b\/i=a+1)/\Dt Hc v ys/\Fr (OnS v) H Hc/\RP a b xs ys/\Ord En.line a i ys) ?_ ?_
 ·exact ⟨_,_,⟨a+1,xs,rfl,rfl,by omega,.inr rfl,h,Fr.refl _,.refl,fun i j x y h1 h2 h3=>by omega⟩,by simp only [↓qj,xh,reduceIte,Nat.reduceEqDiff]⟩
 rintro k E' Hc ⟨i,ys,rfl,rfl,hi,hib,hd,hf,hr,ho⟩
 have hyl:=hr.len
 rcases z8 i b with hlt|hge
 ·have q1:(i:Int)<(b:Int):=by omega
  simp only [↓qj,xh,reduceIte,Nat.reduceEqDiff,w4,q1,w10]
  -- the inner loop: element i goes down to its place
  refine LOOP3.intro (fun k E' Hd=>∃ (j:Nat) (zs:List En),E'=[(9,.int .i64 (j:Nat)),(8,.int .i64 (i:Nat)),(0,v),(1,.int .i64 (a:Int)),(2,.int .i64 (b:Int)),(3,cmpE)]/\k=j+1/\a<=j/\j<=i/\Dt Hd v zs/\Fr (OnS v) H Hd/\RP a b xs zs /\
   (∀ (p q:Nat) (x y:En),a<=p->p<q->q<=i->p ≠ j->q ≠ j->zs[p]? = some x->zs[q]? = some y->x.line<=y.line)/\(∀ (q:Nat) (x y:En),j<q->q<=i->zs[j]? = some x->zs[q]? = some y->x.line<=y.line)) ?_ ?_
  ·exact ⟨_,_,⟨i,ys,rfl,rfl,by omega,qe _,hd,hf,hr,fun p q x y h1 h2 h3 h4 h5=>ho p q x y h1 h2 (by omega),fun q x y h1 h2=>by omega⟩,by simp only [↓qj,xh,reduceIte,Nat.reduceEqDiff]⟩
  rintro k E' Hd ⟨j,zs,rfl,rfl,hj1,hj2,hdz,hfz,hrz,ho1,ho2⟩
  have hzl:=hrz.len
  have wi:wrapI .i64 ((i:Int)+1)=((i+1:Nat):Int):=by rw [xr (by omega) (by omega)];omega
  rcases z8 a j with hgt|hle
  ·have q2:(a:Int)<(j:Int):=by omega
   have wj:wrapI .i64 ((j:Int)-1)=((j-1:Nat):Int):=by rw [xr (by omega) (by omega)];omega
   obtain ⟨x,hx⟩:∃ x,zs[j]? = some x:=⟨zs[j]'(by omega),by simp⟩
   obtain ⟨y,hy⟩:∃ y,zs[j-1]? = some y:=⟨zs[j-1]'(by omega),by simp⟩
   have sl:=OwnT.sl hdz
   have ix:=sl.idx hx (z:=(j:Int)) rfl .i64
   have iy:=sl.idx hy (z:=((j-1:Nat):Int)) rfl .i64
   have lx:=sl.loadN x9 (by decide) hx
   have ly:=sl.loadN x9 (by decide) hy
   simp only [↓qj,xh,reduceIte,Nat.reduceEqDiff,w16,q2,ix,lx,wj,iy,ly]
   refine C3.q (qer (M:=M) x y) fun vc He ⟨hv,hfe⟩=>?_
   rw [hv]
   have hde:Dt He v zs:=Own.em hdz hfe
   have hfe':Fr (OnS v) H He:=hfz.trans hfe fun _ q=>q.elim
   by_cases hc:x.line<y.line
   ·have hc':=qcs.2 hc
    have sl2:=OwnT.sl hde
    have lx2:=sl2.loadN x9 (by decide) hx
    have ly2:=sl2.loadN x9 (by decide) hy
    obtain ⟨Hf,Hg,s1,s2,s3,s4⟩:=qma hde hx hy
    simp only [↓qj,xh,reduceIte,Nat.reduceEqDiff,hc',w22,wj,iy,ly2,ix,lx2,s1,s2,w25]
    refine ⟨_,_,⟨j-1,(zs.set j y).set (j-1) x,rfl,rfl,by omega,by omega,s3,hfe'.trans s4 fun _ q=>.inl q,hrz.sw (by omega) (by omega) (by omega) (by omega) hx hy,?_,?_⟩,by simp only [↓qj,xh,reduceIte,Nat.reduceEqDiff],by omega⟩
    ·intro p q u w h1 h2 h3 h4 h5 hu hw
     rw [qw (by omega)] at hu hw
     by_cases e1:p=j
     ·subst e1
      rw [xn (by omega)] at hu;injection hu with hu;subst hu
      rw [qw (by omega)] at hw
      exact ho1 (p-1) q _ _ (by omega) (by omega) h3 (by omega) (by omega) hy hw
     ·rw [qw (by omega)] at hu
      by_cases e2:q=j
      ·subst e2
       rw [xn (by omega)] at hw;injection hw with hw;subst hw
       exact ho1 p (q-1) _ _ h1 (by omega) (by omega) e1 (by omega) hu hy
      ·rw [qw (by omega)] at hw
       exact ho1 p q _ _ h1 h2 h3 e1 e2 hu hw
    ·intro q u w h1 h2 hu hw
     rw [xn (by rw [qt];omega)] at hu;injection hu with hu;subst hu
     rw [qw (by omega)] at hw
     by_cases e1:q=j
     ·subst e1
      rw [xn (by omega)] at hw;injection hw with hw;subst hw
      omega
     ·rw [qw (by omega)] at hw
      exact ho2 q _ _ (by omega) h2 hx hw
   ·have hc':¬ ordI x.line y.line<0:=fun q=>hc (qcs.1 q)
    simp only [↓qj,xh,reduceIte,Nat.reduceEqDiff,hc',w26,wi]
    refine ⟨_,_,⟨i+1,zs,rfl,rfl,by omega,by omega,hde,hfe',hrz,?_⟩,by simp only [↓qj,xh,reduceIte,Nat.reduceEqDiff],by omega⟩
    intro p q u w h1 h2 h3 hu hw
    by_cases e1:p=j
    ·subst e1;exact ho2 q u w h2 (by omega) hu hw
    ·by_cases e2:q=j
     ·subst e2
      rw [hx] at hw;injection hw with hw;subst hw
      by_cases e3:p=q-1
      ·subst e3;rw [hy] at hu;injection hu with hu;subst hu;omega
      ·have:=ho1 p (q-1) u y h1 (by omega) (by omega) (by omega) (by omega) hu hy
       omega
     ·exact ho1 p q u w h1 h2 (by omega) e1 e2 hu hw
  ·have q2:¬ (a:Int)<(j:Int):=by omega
   have ej:j=a:=by omega
   subst ej
   simp only [↓qj,xh,reduceIte,Nat.reduceEqDiff,w16,q2,w26,wi]
   refine ⟨_,_,⟨i+1,zs,rfl,rfl,by omega,by omega,hdz,hfz,hrz,?_⟩,by simp only [↓qj,xh,reduceIte,Nat.reduceEqDiff],by omega⟩
   intro p q u w h1 h2 h3 hu hw
   by_cases e1:p=j
   ·subst e1;exact ho2 q u w h2 (by omega) hu hw
   ·exact ho1 p q u w h1 h2 (by omega) e1 (by omega) hu hw
 ·have q1:¬ (i:Int)<(b:Int):=by omega
  simp only [↓qj,xh,reduceIte,Nat.reduceEqDiff,w4,q1]
  exact ⟨ys,hd,hf,hr,fun p q x y h1 h2 h3 hx hy=>ho p q x y h1 h2 (by omega) hx hy⟩
end Go.Am
namespace Go.Am
open Go.Proofs
variable {M:Mac} [MK M]
def SwB (H:AHeap) (s n:Nat):Prop:=H.get s=some (OR [.int .i64 (n:Int)] T_int)/\s<H.next
theorem dt_at {H:AHeap} {v:AV} {xs:List En} (h:Dt H v xs) {i:Nat} (hi:i<xs.length):∃ x,xs[i]? = some x/\Op.indexSl 21 [v,.int .i64 (i:Int)]=some (.ptr (slB v) (slO 21 v i))/\Op.loadN 21 [.ptr (slB v) (slO 21 v i)] H=some (.agg (encE x)):=by
 have hx:xs[i]? = some xs[i]:=by simp [hi]
 have sl:=OwnT.sl h
 exact ⟨_,hx,sl.idx hx (z:=(i:Int)) rfl .i64,sl.loadN x9 (by decide) hx⟩
def OrdR (H:AHeap) (s i j n:Nat) (r:AV) (H':AHeap):Prop:=∃ i' j' n':Nat,r=.tuple [.int .i64 (i':Int),.int .i64 (j':Int)]/\(i'=i/\j'=j\/i'=j/\j'=i)/\SwB H' s n'/\n'<=n+1/\Fr (On s) H H'
theorem qoq {H:AHeap} {v:AV} {xs:List En} (h:Dt H v xs) {s n:Nat} (hs:SwB H s n) (hn:n<=1000) {i j:Nat} (hi:i<xs.length) (hj:j<xs.length) :
 yf M zx [v,.int .i64 (i:Int),.int .i64 (j:Int),.ptr s 0,cmpE] H (OrdR H s i j n):=by
 refine qg6 ?_
 obtain ⟨w0,w2,w12⟩:=qg7 M ⟨none,zx⟩
 obtain ⟨x,hx,ix,lx⟩:=dt_at h hi
 obtain ⟨y,hy,iy,ly⟩:=dt_at h hj
 simp only [↓qj,xh,reduceIte,Nat.reduceEqDiff,w0,w2,ix,iy,lx,ly]
 refine C3.q (qer (M:=M) y x) fun vc H1 ⟨hv,hf⟩=>?_
 rw [hv]
 have g1:H1.get s=some (OR [.int .i64 (n:Int)] T_int):=by rw [hf.keep _ hs.2 id];exact hs.1
 have l1:Op.load1 [.ptr s 0] H1=some (.int .i64 (n:Int)):=zw (xd g1) 0
 have w1:wrapI .i64 ((n:Int)+1)=((n+1:Nat):Int):=by rw [xr (by omega) (by omega)];omega
 by_cases hc:y.line<x.line
 ·have hc':=qcs.2 hc
  have st:=qf7 g1 (o:=0) (n:=1) (v:=.int .i64 ((n+1:Nat):Int)) rfl (by simp) rfl
  have e1:[AV.int .i64 (n:Int)].take 0++(AV.int .i64 ((n+1:Nat):Int)).cells ++ [AV.int .i64 (n:Int)].drop (0+1)=[.int .i64 ((n+1:Nat):Int)]:=rfl
  rw [e1] at st
  simp only [↓qj,xh,reduceIte,Nat.reduceEqDiff,hc',qn,l1,w1,st]
  exact ⟨j,i,n+1,rfl,.inr ⟨rfl,rfl⟩,⟨xj ..,ql hs.2 hf.next⟩,qe _,(show Fr (On s) H H1 from ⟨hf.next,fun b hb _=>hf.keep b hb id⟩).set (.inl rfl) _⟩
 ·have hc':¬ ordI y.line x.line<0:=fun q=>hc (qcs.1 q)
  simp only [↓qj,xh,reduceIte,Nat.reduceEqDiff,hc',w12]
  exact ⟨i,j,n,rfl,.inl ⟨rfl,rfl⟩,⟨g1,ql hs.2 hf.next⟩,by omega,⟨hf.next,fun b hb _=>hf.keep b hb id⟩⟩
def MedR (H:AHeap) (s i j k n:Nat) (r:AV) (H':AHeap):Prop:=∃ m n':Nat,r=.int .i64 (m:Int)/\(m=i\/m=j\/m=k)/\SwB H' s n'/\n'<=n+3/\Fr (On s) H H'
theorem q1g {H:AHeap} {v:AV} {xs:List En} (h:Dt H v xs) {s n:Nat} (hs:SwB H s n) (hn:n<=900) (ho:¬ OnS v s) {i j k:Nat} (hi:i<xs.length) (hj:j<xs.length) (hk:k<xs.length) :
 yf M kc [v,.int .i64 (i:Int),.int .i64 (j:Int),.int .i64 (k:Int),.ptr s 0,cmpE] H (MedR H s i j k n):=by
 refine qg3 ?_
 have off:∀ x,OnS v x -> ¬ On s x:=fun x hx (q:x=s)=>ho (q ▸ hx)
 simp only [↓qj,xh,reduceIte,Nat.reduceEqDiff,qg4]
 refine C3.q (qoq (M:=M) h hs (by omega) hi hj) fun r1 H1 ⟨i1,j1,n1,hr1,q1,s1,m1,f1⟩=>?_
 rw [hr1]
 have h1:Dt H1 v xs:=Own.fr h f1 off
 simp only [↓qj,xh,reduceIte,Nat.reduceEqDiff,xa]
 refine C3.q (qoq (M:=M) h1 s1 (by omega) (i:=j1) (j:=k) (by omega) hk) fun r2 H2 ⟨j2,k2,n2,hr2,q2,s2,m2,f2⟩=>?_
 rw [hr2]
 have h2:Dt H2 v xs:=Own.fr h1 f2 off
 simp only [↓qj,xh,reduceIte,Nat.reduceEqDiff,xa]
 refine C3.q (qoq (M:=M) h2 s2 (by omega) (i:=i1) (j:=j2) (by omega) (by omega)) fun r3 H3 ⟨i3,j3,n3,hr3,q3,s3,m3,f3⟩=>?_
 rw [hr3]
 simp only [↓qj,xh,reduceIte,Nat.reduceEqDiff,xa]
 exact ⟨j3,n3,rfl,by omega,s3,by omega,(f1.trans f2 fun _ q=>.inl q).trans f3 fun _ q=>.inl q⟩
theorem choose_spec {H:AHeap} {v:AV} {xs:List En} (h:Dt H v xs) {a b:Nat} (hab:a+8<=b) (hb:b<=xs.length) (hl:xs.length<=40) :
 yf M zu [v,.int .i64 (a:Int),.int .i64 (b:Int),cmpE] H fun r H'=>Fr Em H H' /\ ∃ (p:Nat) (hint:Int),r=.tuple [.int .i64 (p:Int),.int .i64 hint]/\a<=p/\p<b:=by
 refine qf1 ?_
 obtain ⟨w0,w4,w8,w12,w28,w16,w26⟩:=qf2 M ⟨none,zu⟩
 obtain ⟨l,hl'⟩:∃ l,l=b-a:=⟨_,rfl⟩
 have w1:wrapI .i64 ((b:Int)-(a:Int))=(l:Int):=by rw [xr (by omega) (by omega)];omega
 have d1:Op.bin .quo [.int .i64 (l:Int),.int .i64 4]=some (.int .i64 ((l / 4:Nat):Int)):=by
  rw [o_quo .i64 _ _ (by decide),qbu (by omega),xr (by omega) (by omega)];rfl
 have w2:wrapI .i64 (((l / 4:Nat):Int)*1)=((l / 4:Nat):Int):=by rw [xr (by omega) (by omega)];omega
 have w3:wrapI .i64 ((a:Int)+((l / 4:Nat):Int))=((a+l / 4:Nat):Int):=by rw [xr (by omega) (by omega)];omega
 have w4':wrapI .i64 (((l / 4:Nat):Int)*2)=((l / 4*2:Nat):Int):=by rw [xr (by omega) (by omega)];omega
 have w5:wrapI .i64 ((a:Int)+((l / 4*2:Nat):Int))=((a+l / 4*2:Nat):Int):=by rw [xr (by omega) (by omega)];omega
 have w6:wrapI .i64 (((l / 4:Nat):Int)*3)=((l / 4*3:Nat):Int):=by rw [xr (by omega) (by omega)];omega
 have w7:wrapI .i64 ((a:Int)+((l / 4*3:Nat):Int))=((a+l / 4*3:Nat):Int):=by rw [xr (by omega) (by omega)];omega
 obtain ⟨H1,e1⟩:∃ X,X=H.alloc (OR [.int .i64 0] T_int):=⟨_,rfl⟩
 have f1:Fr Em H H1:=by rw [e1];exact (Fr.refl H).alloc _
 have s1:SwB H1 H.next 0:=⟨by rw [e1,xg];rfl,by rw [e1,za];omega⟩
 have h1:Dt H1 v xs:=Own.em h f1
 have off:¬ OnS v H.next:=fun q=>by have:=Own.lt h _ q;omega
 have offs:∀ x,OnS v x -> ¬ On H.next x:=fun x hx (q:x=H.next)=>off (q ▸ hx)
 have q8:(8:Int)<=(l:Int):=by omega
 simp only [↓qj,xh,reduceIte,Nat.reduceEqDiff,w0,w1,w4,<-e1,d1,w2,w3,w8,w4',w5,w6,w7,w12,q8]
 have fin:∀ {Hx:AHeap} {m n':Nat},Fr (On H.next) H1 Hx->SwB Hx H.next n'->a<=m->m<b -> ∀ {E:Env},lk E 11=some (.ptr H.next 0)->lk E 13=some (.int .i64 (m:Int)) ->
  W M ⟨none,zu⟩ (qx 28) true (FIN3 M [.tmp 8,.tmp 9] (RT3 fun r H'=>Fr Em H H' /\ ∃ (p:Nat) (hint:Int),r=.tuple [.int .i64 (p:Int),.int .i64 hint]/\a<=p/\p<b)) E [] Hx:=by
  intro Hx m n' hf hs h1 h2 E hE hE'
  have ld:Op.load1 [.ptr H.next 0] Hx=some (.int .i64 (n':Int)):=zw (xd hs.1) 0
  have hfr:Fr Em H Hx:=f1.trans hf fun x (q:x=H.next)=>.inr (by omega)
  by_cases c1:(n':Int)=0
  ·simp only [↓qj,xh,reduceIte,Nat.reduceEqDiff,w28,hE,ld,ja c1,hE']
   exact ⟨hfr,m,1,rfl,h1,h2⟩
  by_cases c2:(n':Int)=12
  ·simp only [↓qj,xh,reduceIte,Nat.reduceEqDiff,w28,hE,ld,c1,ja c2,hE']
   exact ⟨hfr,m,2,rfl,h1,h2⟩
  simp only [↓qj,xh,reduceIte,Nat.reduceEqDiff,w28,hE,ld,c1,c2,hE']
  exact ⟨hfr,m,0,rfl,h1,h2⟩
 have c50:¬ (50:Int)<=(l:Int):=by omega
 simp only [↓qj,xh,reduceIte,Nat.reduceEqDiff,w16,c50,w26]
 refine C3.q (q1g (M:=M) h1 s1 (by omega) off (i:=a+l / 4) (j:=a+l / 4*2) (k:=a+l / 4*3) (by omega) (by omega) (by omega)) fun r5 H5 ⟨m5,n5,hr5,q5,s5,b5,f5⟩=>?_
 rw [hr5]
 simp only [↓qj,xh,reduceIte,Nat.reduceEqDiff]
 exact fin f5 s5 (by omega) (by omega) rfl rfl
theorem q0i {H:AHeap} {v:AV} {xs:List En} (h:Dt H v xs) {a b:Nat} (hab:a<b) (hb:b<=xs.length) (hl:xs.length<=40) :
 yf M z6 [v,.int .i64 (a:Int),.int .i64 (b:Int),cmpE] H fun _ H'=>∃ ys,Dt H' v ys/\Fr (OnS v) H H'/\RP a b xs ys:=by
 refine qfy ?_
 obtain ⟨w0,w6,w12⟩:=qfz M ⟨none,z6⟩
 have w1:wrapI .i64 ((b:Int)-1)=((b-1:Nat):Int):=by rw [xr (by omega) (by omega)];omega
 simp only [↓qj,xh,reduceIte,Nat.reduceEqDiff,w0,w1]
 refine LOOP3.intro (fun k E' Hc=>∃ (i j:Nat) (ys:List En),E'=[(9,.int .i64 (j:Nat)),(8,.int .i64 (i:Nat)),(0,v)]/\k=b-i/\a<=i/\i<=b/\j<b/\(a<=j\/j<i)/\Dt Hc v ys/\Fr (OnS v) H Hc/\RP a b xs ys) ?_ ?_
 ·exact ⟨_,_,⟨a,b-1,xs,rfl,rfl,by omega,by omega,by omega,by omega,h,Fr.refl _,.refl⟩,by simp only [↓qj,xh,reduceIte,Nat.reduceEqDiff]⟩
 rintro k E' Hc ⟨i,j,ys,rfl,rfl,h1,h2,h3,h4,hd,hf,hr⟩
 have hyl:=hr.len
 by_cases q:(i:Int)<(j:Int)
 ·obtain ⟨x,hx,ix,lx⟩:=dt_at hd (i:=i) (by omega)
  obtain ⟨y,hy,iy,ly⟩:=dt_at hd (i:=j) (by omega)
  obtain ⟨H1,H2,s1,s2,s3,s4⟩:=qma hd hx hy
  have wa:wrapI .i64 ((i:Int)+1)=((i+1:Nat):Int):=by rw [xr (by omega) (by omega)];omega
  have wb:wrapI .i64 ((j:Int)-1)=((j-1:Nat):Int):=by rw [xr (by omega) (by omega)];omega
  simp only [↓qj,xh,reduceIte,Nat.reduceEqDiff,w6,q,w12,ix,iy,lx,ly,s1,s2,wa,wb]
  exact ⟨_,_,⟨i+1,j-1,_,rfl,rfl,by omega,by omega,by omega,by omega,s3,hf.trans s4 fun _ q=>.inl q,hr.sw h1 (by omega) (by omega) (by omega) hx hy⟩,by simp only [↓qj,xh,reduceIte,Nat.reduceEqDiff],by omega⟩
 ·simp only [↓qj,xh,reduceIte,Nat.reduceEqDiff,w6,q]
  exact ⟨ys,hd,hf,hr⟩
end Go.Am
namespace Go.Am
open Go.Proofs
variable {M:Mac} [MK M]
structure PI (a b i j:Nat) (xs ys:List En) (P:Int):Prop where
 rp:RP a b xs ys
 i1:a+1<=i
 ij:i<=j+1
 j2:j<b
 pv:∀ z,ys[a]? = some z->z.line=P
 lo:∀ (k:Nat) (z:En),a+1<=k->k<i->ys[k]? = some z->z.line<P
 hi:∀ (k:Nat) (z:En),j<k->k<b->ys[k]? = some z -> ¬ z.line<P
theorem PI.up {a b i j:Nat} {xs ys:List En} {P:Int} (h:PI a b i j xs ys P) {x:En} (hx:ys[i]? = some x) (hc:x.line<P) (hij:i<=j):PI a b (i+1) j xs ys P:=by
 refine ⟨h.rp,by have:=h.i1;omega,by omega,h.j2,h.pv,fun k z h1 h2 hz=>?_,h.hi⟩
 by_cases q:k=i
 ·subst q;rw [hx] at hz;injection hz with hz;subst hz;exact hc
 ·exact h.lo k z h1 (by omega) hz
theorem PI.down {a b i j:Nat} {xs ys:List En} {P:Int} (h:PI a b i j xs ys P) {x:En} (hx:ys[j]? = some x) (hc:¬ x.line<P) (hij:i<=j):PI a b i (j-1) xs ys P:=by
 have:=h.i1;have:=h.j2
 refine ⟨h.rp,h.i1,by omega,by omega,h.pv,h.lo,fun k z h1 h2 hz=>?_⟩
 by_cases q:k=j
 ·subst q;rw [hx] at hz;injection hz with hz;subst hz;exact hc
 ·exact h.hi k z (by omega) h2 hz
theorem PI.sw {a b i j:Nat} {xs ys:List En} {P:Int} (h:PI a b i j xs ys P) {x y:En} (hx:ys[i]? = some x) (hy:ys[j]? = some y) (hxc:¬ x.line<P) (hyc:y.line<P) (hij:i<=j):PI a b (i+1) (j-1) xs ((ys.set i y).set j x) P:=by
 have h1:=h.i1;have h2:=h.j2
 have hne:i ≠ j:=fun q=>by subst q;rw [hx] at hy;injection hy with hy;subst hy;exact hxc hyc
 have li:=(qi.1 hx).1
 have lj:=(qi.1 hy).1
 refine ⟨h.rp.sw (by omega) (by omega) (by omega) (by omega) hx hy,by omega,by omega,by omega,fun z hz=>?_,fun k z k1 k2 hz=>?_,fun k z k1 k2 hz=>?_⟩
 ·rw [qw (by omega),qw (by omega)] at hz;exact h.pv z hz
 ·rw [qw (by omega)] at hz
  by_cases q:i=k
  ·subst q;rw [xn li] at hz;injection hz with hz;subst hz;exact hyc
  ·rw [qw q] at hz;exact h.lo k z k1 (by omega) hz
 ·by_cases q:j=k
  ·subst q;rw [xn (by rw [qt];exact lj)] at hz;injection hz with hz;subst hz;exact hxc
  ·rw [qw q,qw (by omega)] at hz;exact h.hi k z (by omega) k2 hz
section
variable {K:Post3} {D:List ADef} {E:Env} {H0 H:AHeap} {v:AV} {xs ys:List En} {a b i j:Nat} {P:Int}
theorem scan9 (hd:Dt H v ys) (hf:Fr (OnS v) H0 H) (hp:PI a b i j xs ys P) (hb:b<=xs.length) (hl:xs.length<=40) (hE:SUB [(13,.int .i64 (j:Int)),(12,.int .i64 (i:Int)),(0,v),(1,.int .i64 (a:Int)),(2,.int .i64 (b:Int)),(4,cmpE)] E)
 (hk:∀ (m:Nat) (H':AHeap),Dt H' v ys->Fr (OnS v) H0 H'->PI a b m j xs ys P->(m<=j -> ∀ z,ys[m]? = some z -> ¬ z.line<P)->i<=m->K .normal [(13,.int .i64 (j:Int)),(12,.int .i64 (m:Int)),(0,v),(1,.int .i64 (a:Int)),(2,.int .i64 (b:Int)),(4,cmpE)] D H') :
 LOOP3 (W M ⟨none,xk⟩ (qd 9)) (BLK3 0 K) E D H:=by
 obtain ⟨-,-,-,-,w9,-,-,w15,-,-,-,-,-,-,-,-,-,-,-,-,-⟩:=kh M ⟨none,xk⟩
 have hlen:=hp.rp.len
 refine LOOP3.intro (fun k E' Hc=>∃ (m:Nat),E'=[(13,.int .i64 (j:Int)),(12,.int .i64 (m:Int)),(0,v),(1,.int .i64 (a:Int)),(2,.int .i64 (b:Int)),(4,cmpE)]/\k=b+1-m/\i<=m/\PI a b m j xs ys P/\Dt Hc v ys/\Fr (OnS v) H0 Hc) ⟨_,_,⟨i,rfl,rfl,qe _,hp,hd,hf⟩,hE⟩ ?_
 rintro k E' Hc ⟨m,rfl,rfl,hmm,hp',hd',hf'⟩
 have b1:=hp'.i1;have b2:=hp'.j2;have b3:=hp'.ij
 by_cases q:(m:Int)<=(j:Int)
 ·obtain ⟨x,hx,ix,lx⟩:=dt_at hd' (i:=m) (by omega)
  obtain ⟨z,hz,iz,lz⟩:=dt_at hd' (i:=a) (by omega)
  have hpz:=hp'.pv z hz
  have wm:wrapI .i64 ((m:Int)+1)=((m+1:Nat):Int):=by rw [xr (by omega) (by omega)];omega
  simp only [↓qj,xh,reduceIte,Nat.reduceEqDiff,w9,q,ix,lx,iz,lz]
  refine C3.q (qer (M:=M) x z) fun vc He ⟨hv,hfe⟩=>?_
  rw [hv]
  have hde:Dt He v ys:=Own.em hd' hfe
  have hfe':Fr (OnS v) H0 He:=hf'.trans hfe fun _ q=>q.elim
  by_cases hc:x.line<z.line
  ·have hc':=qcs.2 hc
   simp only [↓qj,xh,reduceIte,Nat.reduceEqDiff,hc',w15,wm]
   exact ⟨_,_,⟨m+1,rfl,rfl,by omega,hp'.up hx (by omega) (by omega),hde,hfe'⟩,by simp only [↓qj,xh,reduceIte,Nat.reduceEqDiff],by omega⟩
  ·have hc':¬ ordI x.line z.line<0:=fun q=>hc (qcs.1 q)
   simp only [↓qj,xh,reduceIte,Nat.reduceEqDiff,hc']
   exact hk m He hde hfe' hp' (fun _ y hy=>by rw [hx] at hy;injection hy with hy;subst hy;omega) hmm
 ·simp only [↓qj,xh,reduceIte,Nat.reduceEqDiff,w9,q]
  exact hk m Hc hd' hf' hp' (fun w=>by omega) hmm
theorem scan20 (hd:Dt H v ys) (hf:Fr (OnS v) H0 H) (hp:PI a b i j xs ys P) (hb:b<=xs.length) (hl:xs.length<=40) (hE:SUB [(13,.int .i64 (j:Int)),(12,.int .i64 (i:Int)),(0,v),(1,.int .i64 (a:Int)),(2,.int .i64 (b:Int)),(4,cmpE)] E)
 (hk:∀ (m:Nat) (H':AHeap),Dt H' v ys->Fr (OnS v) H0 H'->PI a b i m xs ys P->(i<=m -> ∀ z,ys[m]? = some z->z.line<P)->m<=j->K .normal [(13,.int .i64 (m:Int)),(12,.int .i64 (i:Int)),(0,v),(1,.int .i64 (a:Int)),(2,.int .i64 (b:Int)),(4,cmpE)] D H') :
 LOOP3 (W M ⟨none,xk⟩ (qd 20)) (BLK3 2 K) E D H:=by
 obtain ⟨-,-,-,-,-,-,w20,-,-,w26,-,-,-,-,-,-,-,-,-,-,-⟩:=kh M ⟨none,xk⟩
 have hlen:=hp.rp.len
 refine LOOP3.intro (fun k E' Hc=>∃ (m:Nat),E'=[(13,.int .i64 (m:Int)),(12,.int .i64 (i:Int)),(0,v),(1,.int .i64 (a:Int)),(2,.int .i64 (b:Int)),(4,cmpE)]/\k=m+1/\m<=j/\PI a b i m xs ys P/\Dt Hc v ys/\Fr (OnS v) H0 Hc) ⟨_,_,⟨j,rfl,rfl,qe _,hp,hd,hf⟩,hE⟩ ?_
 rintro k E' Hc ⟨m,rfl,rfl,hmm,hp',hd',hf'⟩
 have b1:=hp'.i1;have b2:=hp'.j2;have b3:=hp'.ij
 by_cases q:(i:Int)<=(m:Int)
 ·obtain ⟨x,hx,ix,lx⟩:=dt_at hd' (i:=m) (by omega)
  obtain ⟨z,hz,iz,lz⟩:=dt_at hd' (i:=a) (by omega)
  have hpz:=hp'.pv z hz
  have wm:wrapI .i64 ((m:Int)-1)=((m-1:Nat):Int):=by rw [xr (by omega) (by omega)];omega
  simp only [↓qj,xh,reduceIte,Nat.reduceEqDiff,w20,q,ix,lx,iz,lz]
  refine C3.q (qer (M:=M) x z) fun vc He ⟨hv,hfe⟩=>?_
  rw [hv]
  have hde:Dt He v ys:=Own.em hd' hfe
  have hfe':Fr (OnS v) H0 He:=hf'.trans hfe fun _ q=>q.elim
  by_cases hc:x.line<z.line
  ·have hc':=qcs.2 hc
   simp only [↓qj,xh,reduceIte,Nat.reduceEqDiff,hc']
   exact hk m He hde hfe' hp' (fun _ y hy=>by rw [hx] at hy;injection hy with hy;subst hy;omega) hmm
  ·have hc':¬ ordI x.line z.line<0:=fun q=>hc (qcs.1 q)
   simp only [↓qj,xh,reduceIte,Nat.reduceEqDiff,hc',w26,wm]
   exact ⟨_,_,⟨m-1,rfl,rfl,by omega,hp'.down hx (by omega) (by omega),hde,hfe'⟩,by simp only [↓qj,xh,reduceIte,Nat.reduceEqDiff],by omega⟩
 ·simp only [↓qj,xh,reduceIte,Nat.reduceEqDiff,w20,q]
  exact hk m Hc hd' hf' hp' (fun w=>by omega) hmm
theorem scan51 (hd:Dt H v ys) (hf:Fr (OnS v) H0 H) (hp:PI a b i j xs ys P) (hb:b<=xs.length) (hl:xs.length<=40) (hE:SUB [(13,.int .i64 (j:Int)),(12,.int .i64 (i:Int)),(0,v),(1,.int .i64 (a:Int)),(2,.int .i64 (b:Int)),(4,cmpE)] E)
 (hk:∀ (m:Nat) (H':AHeap),Dt H' v ys->Fr (OnS v) H0 H'->PI a b m j xs ys P->(m<=j -> ∀ z,ys[m]? = some z -> ¬ z.line<P)->i<=m->K .normal [(13,.int .i64 (j:Int)),(12,.int .i64 (m:Int)),(0,v),(1,.int .i64 (a:Int)),(2,.int .i64 (b:Int)),(4,cmpE)] D H') :
 LOOP3 (W M ⟨none,xk⟩ (qd 51)) (BLK3 6 K) E D H:=by
 obtain ⟨-,-,-,-,-,-,-,-,-,-,-,-,-,-,-,w51,-,-,w57,-,-⟩:=kh M ⟨none,xk⟩
 have hlen:=hp.rp.len
 refine LOOP3.intro (fun k E' Hc=>∃ (m:Nat),E'=[(13,.int .i64 (j:Int)),(12,.int .i64 (m:Int)),(0,v),(1,.int .i64 (a:Int)),(2,.int .i64 (b:Int)),(4,cmpE)]/\k=b+1-m/\i<=m/\PI a b m j xs ys P/\Dt Hc v ys/\Fr (OnS v) H0 Hc) ⟨_,_,⟨i,rfl,rfl,qe _,hp,hd,hf⟩,hE⟩ ?_
 rintro k E' Hc ⟨m,rfl,rfl,hmm,hp',hd',hf'⟩
 have b1:=hp'.i1;have b2:=hp'.j2;have b3:=hp'.ij
 by_cases q:(m:Int)<=(j:Int)
 ·obtain ⟨x,hx,ix,lx⟩:=dt_at hd' (i:=m) (by omega)
  obtain ⟨z,hz,iz,lz⟩:=dt_at hd' (i:=a) (by omega)
  have hpz:=hp'.pv z hz
  have wm:wrapI .i64 ((m:Int)+1)=((m+1:Nat):Int):=by rw [xr (by omega) (by omega)];omega
  simp only [↓qj,xh,reduceIte,Nat.reduceEqDiff,w51,q,ix,lx,iz,lz]
  refine C3.q (qer (M:=M) x z) fun vc He ⟨hv,hfe⟩=>?_
  rw [hv]
  have hde:Dt He v ys:=Own.em hd' hfe
  have hfe':Fr (OnS v) H0 He:=hf'.trans hfe fun _ q=>q.elim
  by_cases hc:x.line<z.line
  ·have hc':=qcs.2 hc
   simp only [↓qj,xh,reduceIte,Nat.reduceEqDiff,hc',w57,wm]
   exact ⟨_,_,⟨m+1,rfl,rfl,by omega,hp'.up hx (by omega) (by omega),hde,hfe'⟩,by simp only [↓qj,xh,reduceIte,Nat.reduceEqDiff],by omega⟩
  ·have hc':¬ ordI x.line z.line<0:=fun q=>hc (qcs.1 q)
   simp only [↓qj,xh,reduceIte,Nat.reduceEqDiff,hc']
   exact hk m He hde hfe' hp' (fun _ y hy=>by rw [hx] at hy;injection hy with hy;subst hy;omega) hmm
 ·simp only [↓qj,xh,reduceIte,Nat.reduceEqDiff,w51,q]
  exact hk m Hc hd' hf' hp' (fun w=>by omega) hmm
theorem scan62 (hd:Dt H v ys) (hf:Fr (OnS v) H0 H) (hp:PI a b i j xs ys P) (hb:b<=xs.length) (hl:xs.length<=40) (hE:SUB [(13,.int .i64 (j:Int)),(12,.int .i64 (i:Int)),(0,v),(1,.int .i64 (a:Int)),(2,.int .i64 (b:Int)),(4,cmpE)] E)
 (hk:∀ (m:Nat) (H':AHeap),Dt H' v ys->Fr (OnS v) H0 H'->PI a b i m xs ys P->(i<=m -> ∀ z,ys[m]? = some z->z.line<P)->m<=j->K .normal [(13,.int .i64 (m:Int)),(12,.int .i64 (i:Int)),(0,v),(1,.int .i64 (a:Int)),(2,.int .i64 (b:Int)),(4,cmpE)] D H') :
 LOOP3 (W M ⟨none,xk⟩ (qd 62)) (BLK3 8 K) E D H:=by
 obtain ⟨-,-,-,-,-,-,-,-,-,-,-,-,-,-,-,-,-,w62,-,-,w68⟩:=kh M ⟨none,xk⟩
 have hlen:=hp.rp.len
 refine LOOP3.intro (fun k E' Hc=>∃ (m:Nat),E'=[(13,.int .i64 (m:Int)),(12,.int .i64 (i:Int)),(0,v),(1,.int .i64 (a:Int)),(2,.int .i64 (b:Int)),(4,cmpE)]/\k=m+1/\m<=j/\PI a b i m xs ys P/\Dt Hc v ys/\Fr (OnS v) H0 Hc) ⟨_,_,⟨j,rfl,rfl,qe _,hp,hd,hf⟩,hE⟩ ?_
 rintro k E' Hc ⟨m,rfl,rfl,hmm,hp',hd',hf'⟩
 have b1:=hp'.i1;have b2:=hp'.j2;have b3:=hp'.ij
 by_cases q:(i:Int)<=(m:Int)
 ·obtain ⟨x,hx,ix,lx⟩:=dt_at hd' (i:=m) (by omega)
  obtain ⟨z,hz,iz,lz⟩:=dt_at hd' (i:=a) (by omega)
  have hpz:=hp'.pv z hz
  have wm:wrapI .i64 ((m:Int)-1)=((m-1:Nat):Int):=by rw [xr (by omega) (by omega)];omega
  simp only [↓qj,xh,reduceIte,Nat.reduceEqDiff,w62,q,ix,lx,iz,lz]
  refine C3.q (qer (M:=M) x z) fun vc He ⟨hv,hfe⟩=>?_
  rw [hv]
  have hde:Dt He v ys:=Own.em hd' hfe
  have hfe':Fr (OnS v) H0 He:=hf'.trans hfe fun _ q=>q.elim
  by_cases hc:x.line<z.line
  ·have hc':=qcs.2 hc
   simp only [↓qj,xh,reduceIte,Nat.reduceEqDiff,hc']
   exact hk m He hde hfe' hp' (fun _ y hy=>by rw [hx] at hy;injection hy with hy;subst hy;omega) hmm
  ·have hc':¬ ordI x.line z.line<0:=fun q=>hc (qcs.1 q)
   simp only [↓qj,xh,reduceIte,Nat.reduceEqDiff,hc',w68,wm]
   exact ⟨_,_,⟨m-1,rfl,rfl,by omega,hp'.down hx (by omega) (by omega),hde,hfe'⟩,by simp only [↓qj,xh,reduceIte,Nat.reduceEqDiff],by omega⟩
 ·simp only [↓qj,xh,reduceIte,Nat.reduceEqDiff,w62,q]
  exact hk m Hc hd' hf' hp' (fun w=>by omega) hmm
end
structure Part (a b mid:Nat) (xs ys:List En):Prop where
 rp:RP a b xs ys
 m1:a<=mid
 m2:mid<b
 lo:∀ (k:Nat) (z w:En),a<=k->k<mid->ys[k]? = some z->ys[mid]? = some w->z.line<w.line
 hi:∀ (k:Nat) (z w:En),mid<k->k<b->ys[k]? = some z->ys[mid]? = some w->w.line<=z.line
theorem PI.fin {a b i j:Nat} {xs ys:List En} {P:Int} (h:PI a b i j xs ys P) (hij:j<i) {x y:En} (hx:ys[j]? = some x) (hy:ys[a]? = some y):Part a b j xs ((ys.set j y).set a x):=by
 have h1:=h.i1;have h2:=h.j2;have h3:=h.ij
 have lj:=(qi.1 hx).1
 have la:=(qi.1 hy).1
 have hyP:=h.pv y hy
 have atj:∀ w,((ys.set j y).set a x)[j]? = some w->w.line=P:=fun w hw=>by
  by_cases q:a=j
  ·subst q
   rw [xn (by rw [qt];exact la)] at hw;injection hw with hw;subst hw
   rw [hx] at hy;injection hy with hy;subst hy;exact hyP
  ·rw [qw q,xn lj] at hw;injection hw with hw;subst hw;exact hyP
 refine ⟨h.rp.sw (by omega) h2 (qe _) (by omega) hx hy,by omega,h2,fun k z w k1 k2 hz hw=>?_,fun k z w k1 k2 hz hw=>?_⟩
 ·rw [atj w hw]
  by_cases q:a=k
  ·subst q
   rw [xn (by rw [qt];exact la)] at hz;injection hz with hz;subst hz
   exact h.lo j x (by omega) (by omega) hx
  ·rw [qw q,qw (by omega)] at hz
   exact h.lo k z (by omega) (by omega) hz
 ·rw [atj w hw]
  rw [qw (by omega),qw (by omega)] at hz
  have:=h.hi k z k1 k2 hz;omega
theorem qv3 {H:AHeap} {v:AV} {xs:List En} (h:Dt H v xs) {a b p:Nat} (hab:a+2<=b) (h1:a<=p) (h2:p<b) (hb:b<=xs.length) (hl:xs.length<=40) :
 yf M xk [v,.int .i64 (a:Int),.int .i64 (b:Int),.int .i64 (p:Int),cmpE] H fun r H'=>∃ (ys:List En) (mid:Nat) (q:Bool),r=.tuple [.int .i64 (mid:Int),.bool q]/\Dt H' v ys/\Fr (OnS v) H H'/\Part a b mid xs ys:=by
 refine qgf ?_
 obtain ⟨w0,w4,w6,w17,w9,w28,w20,w15,w38,w26,w42,w44,w81,w47,w59,w51,w70,w62,w57,w76,w68⟩:=kh M ⟨none,xk⟩
 obtain ⟨x,hx,ix,lx⟩:=dt_at h (i:=a) (by omega)
 obtain ⟨y,hy,iy,ly⟩:=dt_at h (i:=p) (by omega)
 obtain ⟨H1,H2,s1,s2,s3,s4⟩:=qma h hx hy
 have wa:wrapI .i64 ((a:Int)+1)=((a+1:Nat):Int):=by rw [xr (by omega) (by omega)];omega
 have wb:wrapI .i64 ((b:Int)-1)=((b-1:Nat):Int):=by rw [xr (by omega) (by omega)];omega
 have hla:a<xs.length:=by omega
 have hlp:p<xs.length:=by omega
 have p0:PI a b (a+1) (b-1) xs ((xs.set a y).set p x) y.line:=by
  refine ⟨RP.refl.sw (qe _) (by omega) h1 h2 hx hy,qe _,by omega,by omega,fun z hz=>?_,fun k z k1 k2=>by omega,fun k z k1 k2=>by omega⟩
  by_cases q:p=a
  ·subst q
   rw [xn (by rw [qt];exact hlp)] at hz;injection hz with hz;subst hz
   rw [hx] at hy;injection hy with hy;subst hy;rfl
  ·rw [qw q,xn hla] at hz;injection hz with hz;subst hz;rfl
 simp only [↓qj,xh,reduceIte,Nat.reduceEqDiff,w0,ix,lx,iy,ly,s1,s2,w4,wa,wb,w6]
 refine scan9 (M:=M) s3 s4 p0 hb hl (by simp only [↓qj,xh,reduceIte,Nat.reduceEqDiff]) fun i Hb hdb hfb hpb hstop hmi=>?_
 simp only [↓qj,xh,reduceIte,Nat.reduceEqDiff,w17]
 refine scan20 (M:=M) hdb hfb hpb hb hl (by simp only [↓qj,xh,reduceIte,Nat.reduceEqDiff]) fun j Hc hdc hfc hpc hstop2 hmj=>?_
 obtain ⟨ys,hys⟩:∃ ys,ys=(xs.set a y).set p x:=⟨_,rfl⟩
 obtain ⟨P,hP⟩:∃ P,P=y.line:=⟨_,rfl⟩
 rw [<-hys] at hpc hpb hstop hstop2 hdc
 rw [<-hP] at hpc hpb hstop hstop2
 have c1:=hpc.i1;have c2:=hpc.j2;have c3:=hpc.ij;have c4:=hpc.rp.len
 by_cases q:(j:Int)<(i:Int)
 ·obtain ⟨u,hu,iu,lu⟩:=dt_at hdc (i:=j) (by omega)
  obtain ⟨w,hw,iw,lw⟩:=dt_at hdc (i:=a) (by omega)
  obtain ⟨H5,H6,t1,t2,t3,t4⟩:=qma hdc hu hw
  simp only [↓qj,xh,reduceIte,Nat.reduceEqDiff,w28,q,iu,lu,iw,lw,t1,t2]
  exact ⟨_,j,true,rfl,t3,hfc.trans t4 fun _ q=>.inl q,hpc.fin (by omega) hu hw⟩
 obtain ⟨u,hu,iu,lu⟩:=dt_at hdc (i:=i) (by omega)
 obtain ⟨w,hw,iw,lw⟩:=dt_at hdc (i:=j) (by omega)
 obtain ⟨H5,H6,t1,t2,t3,t4⟩:=qma hdc hu hw
 have p1:=hpc.sw hu hw (hstop (by have:=hpb.ij;omega) u hu) (hstop2 (by omega) w hw) (by omega)
 have wi:wrapI .i64 ((i:Int)+1)=((i+1:Nat):Int):=by rw [xr (by omega) (by omega)];omega
 have wj:wrapI .i64 ((j:Int)-1)=((j-1:Nat):Int):=by rw [xr (by omega) (by omega)];omega
 simp only [↓qj,xh,reduceIte,Nat.reduceEqDiff,w28,q,w38,iu,lu,iw,lw,t1,t2,wi,w42,wj,w44]
 refine LOOP3.intro (fun k E' Hc=>∃ (i j:Nat) (ys:List En),E'=[(13,.int .i64 (j:Int)),(12,.int .i64 (i:Int)),(0,v),(1,.int .i64 (a:Int)),(2,.int .i64 (b:Int)),(4,cmpE)]/\k=j+1/\PI a b i j xs ys P/\Dt Hc v ys/\Fr (OnS v) H Hc) ⟨_,_,⟨i+1,j-1,_,rfl,rfl,p1,t3,hfc.trans t4 fun _ q=>.inl q⟩,by simp only [↓qj,xh,reduceIte,Nat.reduceEqDiff]⟩ ?_
 clear p1 t1 t2 t3 t4 iu lu iw lw hu hw wi wj q hstop hstop2 hpb hdb hfb hpc hdc hfc c1 c2 c3 c4 s1 s2 s3 s4 ix lx iy ly
 rintro k E' Hc ⟨i,j,ys,rfl,rfl,hp,hd,hf⟩
 simp only [↓qj,xh,reduceIte,Nat.reduceEqDiff,w47]
 refine scan51 (M:=M) hd hf hp hb hl (by simp only [↓qj,xh,reduceIte,Nat.reduceEqDiff]) fun i Hb hdb hfb hpb hstop hmi=>?_
 simp only [↓qj,xh,reduceIte,Nat.reduceEqDiff,w59]
 refine scan62 (M:=M) hdb hfb hpb hb hl (by simp only [↓qj,xh,reduceIte,Nat.reduceEqDiff]) fun j Hc hdc hfc hpc hstop2 hmj=>?_
 have c1:=hpc.i1;have c2:=hpc.j2;have c3:=hpc.ij;have c4:=hpc.rp.len
 by_cases q:(j:Int)<(i:Int)
 ·obtain ⟨u,hu,iu,lu⟩:=dt_at hdc (i:=j) (by omega)
  obtain ⟨w,hw,iw,lw⟩:=dt_at hdc (i:=a) (by omega)
  obtain ⟨H5,H6,t1,t2,t3,t4⟩:=qma hdc hu hw
  simp only [↓qj,xh,reduceIte,Nat.reduceEqDiff,w70,q,w81,iu,lu,iw,lw,t1,t2]
  exact ⟨_,j,false,rfl,t3,hfc.trans t4 fun _ q=>.inl q,hpc.fin (by omega) hu hw⟩
 obtain ⟨u,hu,iu,lu⟩:=dt_at hdc (i:=i) (by omega)
 obtain ⟨w,hw,iw,lw⟩:=dt_at hdc (i:=j) (by omega)
 obtain ⟨H5,H6,t1,t2,t3,t4⟩:=qma hdc hu hw
 have p1:=hpc.sw hu hw (hstop (by have:=hpb.ij;omega) u hu) (hstop2 (by omega) w hw) (by omega)
 have wi:wrapI .i64 ((i:Int)+1)=((i+1:Nat):Int):=by rw [xr (by omega) (by omega)];omega
 have wj:wrapI .i64 ((j:Int)-1)=((j-1:Nat):Int):=by rw [xr (by omega) (by omega)];omega
 simp only [↓qj,xh,reduceIte,Nat.reduceEqDiff,w70,q,w76,iu,lu,iw,lw,t1,t2,wi,wj]
 exact ⟨_,_,⟨i+1,j-1,_,rfl,rfl,p1,t3,hfc.trans t4 fun _ q=>.inl q⟩,by simp only [↓qj,xh,reduceIte,Nat.reduceEqDiff],by omega⟩
end Go.Am
