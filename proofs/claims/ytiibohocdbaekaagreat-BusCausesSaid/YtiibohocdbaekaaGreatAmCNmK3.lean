/- NmK3: SrA SrB SrC. -/
import Derived.Test.YtiibohocdbaekaaGreatAmCCodeK
import Derived.Test.YtiibohocdbaekaaGreatAmCNmK0
import Derived.Test.YtiibohocdbaekaaGreatAmCNmK2
set_option linter.unusedVariables false
set_option linter.unusedSimpArgs false
set_option linter.unusedSectionVars false
set_option maxRecDepth 100000
open Nat (reduceEqDiff)
namespace Go.Am
open Go.Proofs
variable {M:aA} [MK M]
abbrev uW (x:Int):AV:=.int .u64 x
def ao (e:En):List AV:=.int .i64 e.line::.int .i64 e.st::.bool e.r::.bool e.w::(e.d.l.map uW++(e.o.l.map uW ++ [.int .i64 e.u]))
theorem zd (e:En):(ao e).length=21:=by simp [ao,e.d.h,e.o.h]
theorem oH (e:En):aO (ao e)=true:=by
 rw [oQ];unfold ao;simp [aT]
abbrev bU:AV:=.fn (.func NN) [] []
def gI (a b:Int):Int:=if a<b then -1 else if b<a then 1 else 0
theorem mg {a b:Int}:gI a b<0 ↔ a<b:=by unfold gI;split<;>(try split)<;>omega
theorem qu5 {H:AHeap} (a:Int):zq M qkd [.int .i64 a] H λ v H'=>v=.bool false/\H'=H:=by
 refine qr3 ?_;simp only [↓qd,qp,aa,reduceIte,reduceEqDiff,qr4,xc (show a=a from rfl)]
theorem qxq {H:AHeap} (a b:Int):zq M Of [.int .i64 a,.int .i64 b] H λ v H'=>v=.int .i64 (gI a b)/\H'=H:=by
 refine qn7 ?_;obtain ⟨w0,w4,w6,w22,w10,w30,w18,w38,w46⟩:=qn8 M ⟨none,Of⟩;simp only [↓qd,qp,aa,reduceIte,reduceEqDiff,w0];refine C3.q (qu5 (M:=M) a) λ v H1 ⟨hv,hh⟩=>?_;rw [hv,hh];simp only [↓qd,qp,aa,reduceIte,reduceEqDiff,w4];refine C3.q (qu5 (M:=M) b) λ v H1 ⟨hv,hh⟩=>?_;rw [hv,hh]
 by_cases h1:a<b
 ·simp only [↓qd,qp,aa,reduceIte,reduceEqDiff,w6,w22,w30,h1];unfold gI;rw [ql h1]
 by_cases h2:b<a
 ·simp only [↓qd,qp,aa,reduceIte,reduceEqDiff,w6,w22,w30,h1,w38,h2];unfold gI;rw [qg h1,ql h2]
 simp only [↓qd,qp,aa,reduceIte,reduceEqDiff,w6,w22,w30,h1,w38,h2,w46];unfold gI;rw [qg h1,qg h2]
theorem ta {H:AHeap} (x y:En):zq M NN [.agg (ao x),.agg (ao y)] H λ v H'=>v=.int .i64 (gI x.line y.line)/\Fr Em H H':=by
 refine qps ?_;obtain ⟨H1,e1⟩:∃ X,X=H.alloc (OR (ao x) qr):=⟨_,rfl⟩
 obtain ⟨H2,e2⟩:∃ X,X=H1.alloc (OR (ao y) qr):=⟨_,rfl⟩
 have f1:Fr Em H H1:=by rw [e1];exact (Fr.refl H).alloc _
 have f12:Fr Em H1 H2:=by rw [e2];exact (Fr.refl H1).alloc _
 have n1:H1.next=H.next+1:=by rw [e1,xd]
 have g1:H2.get H.next=some (OR (ao x) qr):=by rw [f12.ah _ (by omega) id,e1,qw]
 have g2:H2.get H1.next=some (OR (ao y) qr):=by rw [e2,qw]
 have l1:Op.ae [.ptr H.next 0] H2=some (.int .i64 x.line):=xp (qz g1) 0;have l2:Op.ae [.ptr H1.next 0] H2=some (.int .i64 y.line):=xp (qz g2) 0;simp only [↓qd,qp,aa,reduceIte,reduceEqDiff,qpt,xk,<-e1,<-e2,l1,l2];refine C3.q (qxq (M:=M) x.line y.line) λ v H3 ⟨hv,hh⟩=>?_;rw [hv,hh];simp only [↓qd,qp,aa,reduceIte,reduceEqDiff];exact f1.trans f12 λ _ q=>q.elim
abbrev Dt (H:AHeap) (v:AV) (xs:List En):Prop:=cq ao qr 21 H v xs
theorem sX {H:AHeap} {v:AV} {xs:List En} (h:Dt H v xs) {i j:Nat} {x y:En} (hx:xs[i]? = some x) (hy:xs[j]? = some y):∃ H1 H2,Op.store 21 [.ptr (aF v) (bI 21 v i),.agg (ao y)] H=some (.undef,H1)/\Op.store 21 [.ptr (aF v) (bI 21 v j),.agg (ao x)] H1=some (.undef,H2) /\
 Dt H2 v ((xs.set i y).set j x)/\Fr (aI v) H H2:=by
 obtain ⟨H1,a1,a2,a3⟩:=h.wW zd oH hx y;have hj:∃ z,(xs.set i y)[j]? = some z:=by
  have:=(qe.1 hy).1;exact ⟨(xs.set i y)[j]'(by rw [qv];exact this),by simp [this]⟩
 obtain ⟨z,hz⟩:=hj;obtain ⟨H2,b1,b2,b3⟩:=a2.wW zd oH hz x;exact ⟨H1,H2,a1,b1,b2,a3.trans b3 λ x hx=>.inl hx⟩
theorem qub {H:AHeap} {v:AV} {xs:List En} (h:Dt H v xs) {a b:Nat} (hab:a<=b) (hb:b<=xs.length) (hn:xs.length<=40) :
 zq M yn [v,.int .i64 (a:Int),.int .i64 (b:Int),bU] H λ _ H'=>∃ ys,Dt H' v ys/\Fr (aI v) H H'/\RP a b xs ys/\Ord En.line a b ys:=by
 refine qdb ?_;obtain ⟨w0,w4,w10,w26,w16,w22,w25⟩:=qdc M ⟨none,yn⟩;have wa:ak .i64 ((a:Int)+1)=((a+1:Nat):Int):=by rw [xm (by omega) (by omega)];omega
 simp only [↓qd,qp,aa,reduceIte,reduceEqDiff,w0,wa];refine aR.intro (λ k E' Hc=>∃ (i:Nat) (ys:List En),E'=[(8,.int .i64 (i:Nat)),(0,v),(1,.int .i64 (a:Int)),(2,.int .i64 (b:Int)),(3,bU)]/\k=b+1-i/\a+1<=i/\(i<=b\/i=a+1)/\Dt Hc v ys/\Fr (aI v) H Hc/\RP a b xs ys/\Ord En.line a i ys) ?_ ?_
 ·exact ⟨_,_,⟨a+1,xs,rfl,rfl,by omega,.inr rfl,h,Fr.refl _,.refl,λ i j x y h1 h2 h3=>by omega⟩,by simp only [↓qd,qp,aa,reduceIte,reduceEqDiff]⟩
 rintro k E' Hc ⟨i,ys,rfl,rfl,hi,hib,hd,hf,hr,ho⟩;have hyl:=hr.len;rcases zt i b with hlt|hge
 ·have q1:(i:Int)<(b:Int):=by omega
  simp only [↓qd,qp,aa,reduceIte,reduceEqDiff,w4,q1,w10]
  -- the inner loop: element i goes down to its place
  refine aR.intro (λ k E' Hd=>∃ (j:Nat) (zs:List En),E'=[(9,.int .i64 (j:Nat)),(8,.int .i64 (i:Nat)),(0,v),(1,.int .i64 (a:Int)),(2,.int .i64 (b:Int)),(3,bU)]/\k=j+1/\a<=j/\j<=i/\Dt Hd v zs/\Fr (aI v) H Hd/\RP a b xs zs /\
   (∀ (p q:Nat) (x y:En),a<=p->p<q->q<=i->p ≠ j->q ≠ j->zs[p]? = some x->zs[q]? = some y->x.line<=y.line)/\(∀ (q:Nat) (x y:En),j<q->q<=i->zs[j]? = some x->zs[q]? = some y->x.line<=y.line)) ?_ ?_
  ·exact ⟨_,_,⟨i,ys,rfl,rfl,by omega,qf _,hd,hf,hr,λ p q x y h1 h2 h3 h4 h5=>ho p q x y h1 h2 (by omega),λ q x y h1 h2=>by omega⟩,by simp only [↓qd,qp,aa,reduceIte,reduceEqDiff]⟩
  rintro k E' Hd ⟨j,zs,rfl,rfl,hj1,hj2,hdz,hfz,hrz,ho1,ho2⟩;have hzl:=hrz.len;have wi:ak .i64 ((i:Int)+1)=((i+1:Nat):Int):=by rw [xm (by omega) (by omega)];omega
  rcases zt a j with hgt|hle
  ·have q2:(a:Int)<(j:Int):=by omega
   have wj:ak .i64 ((j:Int)-1)=((j-1:Nat):Int):=by rw [xm (by omega) (by omega)];omega
   obtain ⟨x,hx⟩:∃ x,zs[j]? = some x:=⟨zs[j]'(by omega),by simp⟩
   obtain ⟨y,hy⟩:∃ y,zs[j-1]? = some y:=⟨zs[j-1]'(by omega),by simp⟩
   have sl:=cq.sl hdz;have ix:=sl.idx hx (z:=(j:Int)) rfl .i64;have iy:=sl.idx hy (z:=((j-1:Nat):Int)) rfl .i64;have lx:=sl.aG zd (by decide) hx;have ly:=sl.aG zd (by decide) hy;simp only [↓qd,qp,aa,reduceIte,reduceEqDiff,w16,q2,ix,lx,wj,iy,ly];refine C3.q (ta (M:=M) x y) λ vc He ⟨hv,hfe⟩=>?_;rw [hv];have hde:Dt He v zs:=Own.em hdz hfe;have hfe':Fr (aI v) H He:=hfz.trans hfe λ _ q=>q.elim
   by_cases hc:x.line<y.line
   ·have hc':=mg.2 hc;have sl2:=cq.sl hde;have lx2:=sl2.aG zd (by decide) hx;have ly2:=sl2.aG zd (by decide) hy;obtain ⟨Hf,Hg,s1,s2,s3,s4⟩:=sX hde hx hy;simp only [↓qd,qp,aa,reduceIte,reduceEqDiff,hc',w22,wj,iy,ly2,ix,lx2,s1,s2,w25];refine ⟨_,_,⟨j-1,(zs.set j y).set (j-1) x,rfl,rfl,by omega,by omega,s3,hfe'.trans s4 λ _ q=>.inl q,hrz.sw (by omega) (by omega) (by omega) (by omega) hx hy,?_,?_⟩,by simp only [↓qd,qp,aa,reduceIte,reduceEqDiff],by omega⟩
    ·intro p q u w h1 h2 h3 h4 h5 hu hw;rw [qm (by omega)] at hu hw
     by_cases e1:p=j
     ·subst e1;rw [qu (by omega)] at hu;injection hu with hu;subst hu
      rw [qm (by omega)] at hw;exact ho1 (p-1) q _ _ (by omega) (by omega) h3 (by omega) (by omega) hy hw
     ·rw [qm (by omega)] at hu
      by_cases e2:q=j
      ·subst e2;rw [qu (by omega)] at hw;injection hw with hw;subst hw
       exact ho1 p (q-1) _ _ h1 (by omega) (by omega) e1 (by omega) hu hy
      ·rw [qm (by omega)] at hw;exact ho1 p q _ _ h1 h2 h3 e1 e2 hu hw
    ·intro q u w h1 h2 hu hw;rw [qu (by rw [qv];omega)] at hu;injection hu with hu;subst hu
     rw [qm (by omega)] at hw
     by_cases e1:q=j
     ·subst e1;rw [qu (by omega)] at hw;injection hw with hw;subst hw
      omega
     ·rw [qm (by omega)] at hw;exact ho2 q _ _ (by omega) h2 hx hw
   ·have hc':¬ gI x.line y.line<0:=λ q=>hc (mg.1 q);simp only [↓qd,qp,aa,reduceIte,reduceEqDiff,hc',w26,wi];refine ⟨_,_,⟨i+1,zs,rfl,rfl,by omega,by omega,hde,hfe',hrz,?_⟩,by simp only [↓qd,qp,aa,reduceIte,reduceEqDiff],by omega⟩;intro p q u w h1 h2 h3 hu hw
    by_cases e1:p=j
    ·subst e1;exact ho2 q u w h2 (by omega) hu hw
    ·by_cases e2:q=j
     ·subst e2;rw [hx] at hw;injection hw with hw;subst hw
      by_cases e3:p=q-1
      ·subst e3;rw [hy] at hu;injection hu with hu;subst hu;omega
      ·have:=ho1 p (q-1) u y h1 (by omega) (by omega) (by omega) (by omega) hu hy;omega
     ·exact ho1 p q u w h1 h2 (by omega) e1 e2 hu hw
  ·have q2:¬ (a:Int)<(j:Int):=by omega
   have ej:j=a:=by omega
   subst ej;simp only [↓qd,qp,aa,reduceIte,reduceEqDiff,w16,q2,w26,wi];refine ⟨_,_,⟨i+1,zs,rfl,rfl,by omega,by omega,hdz,hfz,hrz,?_⟩,by simp only [↓qd,qp,aa,reduceIte,reduceEqDiff],by omega⟩;intro p q u w h1 h2 h3 hu hw
   by_cases e1:p=j
   ·subst e1;exact ho2 q u w h2 (by omega) hu hw
   ·exact ho1 p q u w h1 h2 (by omega) e1 (by omega) hu hw
 ·have q1:¬ (i:Int)<(b:Int):=by omega
  simp only [↓qd,qp,aa,reduceIte,reduceEqDiff,w4,q1];exact ⟨ys,hd,hf,hr,λ p q x y h1 h2 h3 hx hy=>ho p q x y h1 h2 (by omega) hx hy⟩
end Go.Am
namespace Go.Am
open Go.Proofs
variable {M:aA} [MK M]
def GM (H:AHeap) (s n:Nat):Prop:=H.get s=some (OR [.int .i64 (n:Int)] eM)/\s<H.next
theorem aZ {H:AHeap} {v:AV} {xs:List En} (h:Dt H v xs) {i:Nat} (hi:i<xs.length):∃ x,xs[i]? = some x/\Op.aQ 21 [v,.int .i64 (i:Int)]=some (.ptr (aF v) (bI 21 v i))/\Op.aG 21 [.ptr (aF v) (bI 21 v i)] H=some (.agg (ao x)):=by
 have hx:xs[i]? = some xs[i]:=by simp [hi]
 have sl:=cq.sl h;exact ⟨_,hx,sl.idx hx (z:=(i:Int)) rfl .i64,sl.aG zd (by decide) hx⟩
def N9 (H:AHeap) (s i j n:Nat) (r:AV) (H':AHeap):Prop:=∃ i' j' n':Nat,r=.tuple [.int .i64 (i':Int),.int .i64 (j':Int)]/\(i'=i/\j'=j\/i'=j/\j'=i)/\GM H' s n'/\n'<=n+1/\Fr (On s) H H'
theorem L3 {H:AHeap} {v:AV} {xs:List En} (h:Dt H v xs) {s n:Nat} (hs:GM H s n) (hn:n<=1000) {i j:Nat} (hi:i<xs.length) (hj:j<xs.length) :
 zq M ww [v,.int .i64 (i:Int),.int .i64 (j:Int),.ptr s 0,bU] H (N9 H s i j n):=by
 refine qfe ?_;obtain ⟨w0,w2,w12⟩:=qff M ⟨none,ww⟩;obtain ⟨x,hx,ix,lx⟩:=aZ h hi;obtain ⟨y,hy,iy,ly⟩:=aZ h hj;simp only [↓qd,qp,aa,reduceIte,reduceEqDiff,w0,w2,ix,iy,lx,ly];refine C3.q (ta (M:=M) y x) λ vc H1 ⟨hv,hf⟩=>?_;rw [hv];have g1:H1.get s=some (OR [.int .i64 (n:Int)] eM):=by rw [hf.ah _ hs.2 id];exact hs.1
 have l1:Op.ae [.ptr s 0] H1=some (.int .i64 (n:Int)):=xp (qz g1) 0;have w1:ak .i64 ((n:Int)+1)=((n+1:Nat):Int):=by rw [xm (by omega) (by omega)];omega
 by_cases hc:y.line<x.line
 ·have hc':=mg.2 hc;have st:=oS g1 (o:=0) (n:=1) (v:=.int .i64 ((n+1:Nat):Int)) rfl (by simp) rfl;have e1:[AV.int .i64 (n:Int)].take 0++(AV.int .i64 ((n+1:Nat):Int)).cells ++ [AV.int .i64 (n:Int)].drop (0+1)=[.int .i64 ((n+1:Nat):Int)]:=rfl;rw [e1] at st;simp only [↓qd,qp,aa,reduceIte,reduceEqDiff,hc',qi,l1,w1,st];exact ⟨j,i,n+1,rfl,.inr ⟨rfl,rfl⟩,⟨xb ..,qk hs.2 hf.next⟩,qf _,(show Fr (On s) H H1 from ⟨hf.next,λ b hb _=>hf.ah b hb id⟩).set (.inl rfl) _⟩
 ·have hc':¬ gI y.line x.line<0:=λ q=>hc (mg.1 q);simp only [↓qd,qp,aa,reduceIte,reduceEqDiff,hc',w12];exact ⟨i,j,n,rfl,.inl ⟨rfl,rfl⟩,⟨g1,qk hs.2 hf.next⟩,by omega,⟨hf.next,λ b hb _=>hf.ah b hb id⟩⟩
def ML (H:AHeap) (s i j k n:Nat) (r:AV) (H':AHeap):Prop:=∃ m n':Nat,r=.int .i64 (m:Int)/\(m=i\/m=j\/m=k)/\GM H' s n'/\n'<=n+3/\Fr (On s) H H'
theorem q0p {H:AHeap} {v:AV} {xs:List En} (h:Dt H v xs) {s n:Nat} (hs:GM H s n) (hn:n<=900) (ho:¬ aI v s) {i j k:Nat} (hi:i<xs.length) (hj:j<xs.length) (hk:k<xs.length) :
 zq M qbs [v,.int .i64 (i:Int),.int .i64 (j:Int),.int .i64 (k:Int),.ptr s 0,bU] H (ML H s i j k n):=by
 refine qfc ?_;have off:∀ x,aI v x -> ¬ On s x:=λ x hx (q:x=s)=>ho (q ▸ hx);simp only [↓qd,qp,aa,reduceIte,reduceEqDiff,qfd];refine C3.q (L3 (M:=M) h hs (by omega) hi hj) λ r1 H1 ⟨i1,j1,n1,hr1,q1,s1,m1,f1⟩=>?_;rw [hr1];have h1:Dt H1 v xs:=Own.fr h f1 off;simp only [↓qd,qp,aa,reduceIte,reduceEqDiff,qn];refine C3.q (L3 (M:=M) h1 s1 (by omega) (i:=j1) (j:=k) (by omega) hk) λ r2 H2 ⟨j2,k2,n2,hr2,q2,s2,m2,f2⟩=>?_;rw [hr2];have h2:Dt H2 v xs:=Own.fr h1 f2 off;simp only [↓qd,qp,aa,reduceIte,reduceEqDiff,qn];refine C3.q (L3 (M:=M) h2 s2 (by omega) (i:=i1) (j:=j2) (by omega) (by omega)) λ r3 H3 ⟨i3,j3,n3,hr3,q3,s3,m3,f3⟩=>?_;rw [hr3];simp only [↓qd,qp,aa,reduceIte,reduceEqDiff,qn];exact ⟨j3,n3,rfl,by omega,s3,by omega,(f1.trans f2 λ _ q=>.inl q).trans f3 λ _ q=>.inl q⟩
theorem choose_spec {H:AHeap} {v:AV} {xs:List En} (h:Dt H v xs) {a b:Nat} (hab:a+8<=b) (hb:b<=xs.length) (hl:xs.length<=40) :
 zq M jz [v,.int .i64 (a:Int),.int .i64 (b:Int),bU] H λ r H'=>Fr Em H H' /\ ∃ (p:Nat) (hint:Int),r=.tuple [.int .i64 (p:Int),.int .i64 hint]/\a<=p/\p<b:=by
 refine qdn ?_;obtain ⟨w0,w4,w8,w12,w28,w16,w26⟩:=qdo M ⟨none,jz⟩;obtain ⟨l,hl'⟩:∃ l,l=b-a:=⟨_,rfl⟩
 have w1:ak .i64 ((b:Int)-(a:Int))=(l:Int):=by rw [xm (by omega) (by omega)];omega
 have d1:Op.bin .quo [.int .i64 (l:Int),.int .i64 4]=some (.int .i64 ((l / 4:Nat):Int)):=by
  rw [pk .i64 _ _ (by decide),wx (by omega),xm (by omega) (by omega)];rfl
 have w2:ak .i64 (((l / 4:Nat):Int)*1)=((l / 4:Nat):Int):=by rw [xm (by omega) (by omega)];omega
 have w3:ak .i64 ((a:Int)+((l / 4:Nat):Int))=((a+l / 4:Nat):Int):=by rw [xm (by omega) (by omega)];omega
 have w4':ak .i64 (((l / 4:Nat):Int)*2)=((l / 4*2:Nat):Int):=by rw [xm (by omega) (by omega)];omega
 have w5:ak .i64 ((a:Int)+((l / 4*2:Nat):Int))=((a+l / 4*2:Nat):Int):=by rw [xm (by omega) (by omega)];omega
 have w6:ak .i64 (((l / 4:Nat):Int)*3)=((l / 4*3:Nat):Int):=by rw [xm (by omega) (by omega)];omega
 have w7:ak .i64 ((a:Int)+((l / 4*3:Nat):Int))=((a+l / 4*3:Nat):Int):=by rw [xm (by omega) (by omega)];omega
 obtain ⟨H1,e1⟩:∃ X,X=H.alloc (OR [.int .i64 0] eM):=⟨_,rfl⟩
 have f1:Fr Em H H1:=by rw [e1];exact (Fr.refl H).alloc _
 have s1:GM H1 H.next 0:=⟨by rw [e1,qw];rfl,by rw [e1,xd];omega⟩
 have h1:Dt H1 v xs:=Own.em h f1;have off:¬ aI v H.next:=λ q=>by have:=Own.lt h _ q;omega
 have offs:∀ x,aI v x -> ¬ On H.next x:=λ x hx (q:x=H.next)=>off (q ▸ hx)
 have q8:(8:Int)<=(l:Int):=by omega
 simp only [↓qd,qp,aa,reduceIte,reduceEqDiff,w0,w1,w4,<-e1,d1,w2,w3,w8,w4',w5,w6,w7,w12,q8];have fin:∀ {Hx:AHeap} {m n':Nat},Fr (On H.next) H1 Hx->GM Hx H.next n'->a<=m->m<b -> ∀ {E:Env},lk E 11=some (.ptr H.next 0)->lk E 13=some (.int .i64 (m:Int)) ->
  W M ⟨none,jz⟩ (qdm 28) true (c6 M [.tmp 8,.tmp 9] (kO λ r H'=>Fr Em H H' /\ ∃ (p:Nat) (hint:Int),r=.tuple [.int .i64 (p:Int),.int .i64 hint]/\a<=p/\p<b)) E [] Hx:=by
  intro Hx m n' hf hs h1 h2 E hE hE';have ld:Op.ae [.ptr H.next 0] Hx=some (.int .i64 (n':Int)):=xp (qz hs.1) 0;have hfr:Fr Em H Hx:=f1.trans hf λ x (q:x=H.next)=>.inr (by omega)
  by_cases c1:(n':Int)=0
  ·simp only [↓qd,qp,aa,reduceIte,reduceEqDiff,w28,hE,ld,xc c1,hE'];exact ⟨hfr,m,1,rfl,h1,h2⟩
  by_cases c2:(n':Int)=12
  ·simp only [↓qd,qp,aa,reduceIte,reduceEqDiff,w28,hE,ld,c1,xc c2,hE'];exact ⟨hfr,m,2,rfl,h1,h2⟩
  simp only [↓qd,qp,aa,reduceIte,reduceEqDiff,w28,hE,ld,c1,c2,hE'];exact ⟨hfr,m,0,rfl,h1,h2⟩
 have c50:¬ (50:Int)<=(l:Int):=by omega
 simp only [↓qd,qp,aa,reduceIte,reduceEqDiff,w16,c50,w26];refine C3.q (q0p (M:=M) h1 s1 (by omega) off (i:=a+l / 4) (j:=a+l / 4*2) (k:=a+l / 4*3) (by omega) (by omega) (by omega)) λ r5 H5 ⟨m5,n5,hr5,q5,s5,b5,f5⟩=>?_;rw [hr5];simp only [↓qd,qp,aa,reduceIte,reduceEqDiff];exact fin f5 s5 (by omega) (by omega) rfl rfl
theorem qy9 {H:AHeap} {v:AV} {xs:List En} (h:Dt H v xs) {a b:Nat} (hab:a<b) (hb:b<=xs.length) (hl:xs.length<=40) :
 zq M yu [v,.int .i64 (a:Int),.int .i64 (b:Int),bU] H λ _ H'=>∃ ys,Dt H' v ys/\Fr (aI v) H H'/\RP a b xs ys:=by
 refine qdk ?_;obtain ⟨w0,w6,w12⟩:=qdl M ⟨none,yu⟩;have w1:ak .i64 ((b:Int)-1)=((b-1:Nat):Int):=by rw [xm (by omega) (by omega)];omega
 simp only [↓qd,qp,aa,reduceIte,reduceEqDiff,w0,w1];refine aR.intro (λ k E' Hc=>∃ (i j:Nat) (ys:List En),E'=[(9,.int .i64 (j:Nat)),(8,.int .i64 (i:Nat)),(0,v)]/\k=b-i/\a<=i/\i<=b/\j<b/\(a<=j\/j<i)/\Dt Hc v ys/\Fr (aI v) H Hc/\RP a b xs ys) ?_ ?_
 ·exact ⟨_,_,⟨a,b-1,xs,rfl,rfl,by omega,by omega,by omega,by omega,h,Fr.refl _,.refl⟩,by simp only [↓qd,qp,aa,reduceIte,reduceEqDiff]⟩
 rintro k E' Hc ⟨i,j,ys,rfl,rfl,h1,h2,h3,h4,hd,hf,hr⟩;have hyl:=hr.len
 by_cases q:(i:Int)<(j:Int)
 ·obtain ⟨x,hx,ix,lx⟩:=aZ hd (i:=i) (by omega);obtain ⟨y,hy,iy,ly⟩:=aZ hd (i:=j) (by omega);obtain ⟨H1,H2,s1,s2,s3,s4⟩:=sX hd hx hy;have wa:ak .i64 ((i:Int)+1)=((i+1:Nat):Int):=by rw [xm (by omega) (by omega)];omega
  have wb:ak .i64 ((j:Int)-1)=((j-1:Nat):Int):=by rw [xm (by omega) (by omega)];omega
  simp only [↓qd,qp,aa,reduceIte,reduceEqDiff,w6,q,w12,ix,iy,lx,ly,s1,s2,wa,wb];exact ⟨_,_,⟨i+1,j-1,_,rfl,rfl,by omega,by omega,by omega,by omega,s3,hf.trans s4 λ _ q=>.inl q,hr.sw h1 (by omega) (by omega) (by omega) hx hy⟩,by simp only [↓qd,qp,aa,reduceIte,reduceEqDiff],by omega⟩
 ·simp only [↓qd,qp,aa,reduceIte,reduceEqDiff,w6,q];exact ⟨ys,hd,hf,hr⟩
end Go.Am
namespace Go.Am
open Go.Proofs
variable {M:aA} [MK M]
structure PI (a b i j:Nat) (xs ys:List En) (P:Int):Prop where
 rp:RP a b xs ys
 i1:a+1<=i
 ij:i<=j+1
 j2:j<b
 pv:∀ z,ys[a]? = some z->z.line=P
 lo:∀ (k:Nat) (z:En),a+1<=k->k<i->ys[k]? = some z->z.line<P
 hi:∀ (k:Nat) (z:En),j<k->k<b->ys[k]? = some z -> ¬ z.line<P
theorem PI.up {a b i j:Nat} {xs ys:List En} {P:Int} (h:PI a b i j xs ys P) {x:En} (hx:ys[i]? = some x) (hc:x.line<P) (hij:i<=j):PI a b (i+1) j xs ys P:=by
 refine ⟨h.rp,by have:=h.i1;omega,by omega,h.j2,h.pv,λ k z h1 h2 hz=>?_,h.hi⟩
 by_cases q:k=i
 ·subst q;rw [hx] at hz;injection hz with hz;subst hz;exact hc
 ·exact h.lo k z h1 (by omega) hz
theorem PI.down {a b i j:Nat} {xs ys:List En} {P:Int} (h:PI a b i j xs ys P) {x:En} (hx:ys[j]? = some x) (hc:¬ x.line<P) (hij:i<=j):PI a b i (j-1) xs ys P:=by
 have:=h.i1;have:=h.j2;refine ⟨h.rp,h.i1,by omega,by omega,h.pv,h.lo,λ k z h1 h2 hz=>?_⟩
 by_cases q:k=j
 ·subst q;rw [hx] at hz;injection hz with hz;subst hz;exact hc
 ·exact h.hi k z (by omega) h2 hz
theorem PI.sw {a b i j:Nat} {xs ys:List En} {P:Int} (h:PI a b i j xs ys P) {x y:En} (hx:ys[i]? = some x) (hy:ys[j]? = some y) (hxc:¬ x.line<P) (hyc:y.line<P) (hij:i<=j):PI a b (i+1) (j-1) xs ((ys.set i y).set j x) P:=by
 have h1:=h.i1;have h2:=h.j2;have hne:i ≠ j:=λ q=>by subst q;rw [hx] at hy;injection hy with hy;subst hy;exact hxc hyc
 have li:=(qe.1 hx).1;have lj:=(qe.1 hy).1;refine ⟨h.rp.sw (by omega) (by omega) (by omega) (by omega) hx hy,by omega,by omega,by omega,λ z hz=>?_,λ k z k1 k2 hz=>?_,λ k z k1 k2 hz=>?_⟩
 ·rw [qm (by omega),qm (by omega)] at hz;exact h.pv z hz
 ·rw [qm (by omega)] at hz
  by_cases q:i=k
  ·subst q;rw [qu li] at hz;injection hz with hz;subst hz;exact hyc
  ·rw [qm q] at hz;exact h.lo k z k1 (by omega) hz
 ·by_cases q:j=k
  ·subst q;rw [qu (by rw [qv];exact lj)] at hz;injection hz with hz;subst hz;exact hxc
  ·rw [qm q,qm (by omega)] at hz;exact h.hi k z (by omega) k2 hz
section
variable {K:au} {D:List aD} {E:Env} {H0 H:AHeap} {v:AV} {xs ys:List En} {a b i j:Nat} {P:Int}
theorem Jr (hd:Dt H v ys) (hf:Fr (aI v) H0 H) (hp:PI a b i j xs ys P) (hb:b<=xs.length) (hl:xs.length<=40) (hE:kW [(13,.int .i64 (j:Int)),(12,.int .i64 (i:Int)),(0,v),(1,.int .i64 (a:Int)),(2,.int .i64 (b:Int)),(4,bU)] E)
 (hk:∀ (m:Nat) (H':AHeap),Dt H' v ys->Fr (aI v) H0 H'->PI a b m j xs ys P->(m<=j -> ∀ z,ys[m]? = some z -> ¬ z.line<P)->i<=m->K .normal [(13,.int .i64 (j:Int)),(12,.int .i64 (m:Int)),(0,v),(1,.int .i64 (a:Int)),(2,.int .i64 (b:Int)),(4,bU)] D H') :
 aR (W M ⟨none,xy⟩ (yd 9)) (cw 0 K) E D H:=by
 obtain ⟨-,-,-,-,w9,-,-,w15,-,-,-,-,-,-,-,-,-,-,-,-,-⟩:=ke M ⟨none,xy⟩;have hlen:=hp.rp.len;refine aR.intro (λ k E' Hc=>∃ (m:Nat),E'=[(13,.int .i64 (j:Int)),(12,.int .i64 (m:Int)),(0,v),(1,.int .i64 (a:Int)),(2,.int .i64 (b:Int)),(4,bU)]/\k=b+1-m/\i<=m/\PI a b m j xs ys P/\Dt Hc v ys/\Fr (aI v) H0 Hc) ⟨_,_,⟨i,rfl,rfl,qf _,hp,hd,hf⟩,hE⟩ ?_;rintro k E' Hc ⟨m,rfl,rfl,hmm,hp',hd',hf'⟩;have b1:=hp'.i1;have b2:=hp'.j2;have b3:=hp'.ij
 by_cases q:(m:Int)<=(j:Int)
 ·obtain ⟨x,hx,ix,lx⟩:=aZ hd' (i:=m) (by omega);obtain ⟨z,hz,iz,lz⟩:=aZ hd' (i:=a) (by omega);have hpz:=hp'.pv z hz;have wm:ak .i64 ((m:Int)+1)=((m+1:Nat):Int):=by rw [xm (by omega) (by omega)];omega
  simp only [↓qd,qp,aa,reduceIte,reduceEqDiff,w9,q,ix,lx,iz,lz];refine C3.q (ta (M:=M) x z) λ vc He ⟨hv,hfe⟩=>?_;rw [hv];have hde:Dt He v ys:=Own.em hd' hfe;have hfe':Fr (aI v) H0 He:=hf'.trans hfe λ _ q=>q.elim
  by_cases hc:x.line<z.line
  ·have hc':=mg.2 hc;simp only [↓qd,qp,aa,reduceIte,reduceEqDiff,hc',w15,wm];exact ⟨_,_,⟨m+1,rfl,rfl,by omega,hp'.up hx (by omega) (by omega),hde,hfe'⟩,by simp only [↓qd,qp,aa,reduceIte,reduceEqDiff],by omega⟩
  ·have hc':¬ gI x.line z.line<0:=λ q=>hc (mg.1 q);simp only [↓qd,qp,aa,reduceIte,reduceEqDiff,hc'];exact hk m He hde hfe' hp' (λ _ y hy=>by rw [hx] at hy;injection hy with hy;subst hy;omega) hmm
 ·simp only [↓qd,qp,aa,reduceIte,reduceEqDiff,w9,q];exact hk m Hc hd' hf' hp' (λ w=>by omega) hmm
theorem Fi (hd:Dt H v ys) (hf:Fr (aI v) H0 H) (hp:PI a b i j xs ys P) (hb:b<=xs.length) (hl:xs.length<=40) (hE:kW [(13,.int .i64 (j:Int)),(12,.int .i64 (i:Int)),(0,v),(1,.int .i64 (a:Int)),(2,.int .i64 (b:Int)),(4,bU)] E)
 (hk:∀ (m:Nat) (H':AHeap),Dt H' v ys->Fr (aI v) H0 H'->PI a b i m xs ys P->(i<=m -> ∀ z,ys[m]? = some z->z.line<P)->m<=j->K .normal [(13,.int .i64 (m:Int)),(12,.int .i64 (i:Int)),(0,v),(1,.int .i64 (a:Int)),(2,.int .i64 (b:Int)),(4,bU)] D H') :
 aR (W M ⟨none,xy⟩ (yd 20)) (cw 2 K) E D H:=by
 obtain ⟨-,-,-,-,-,-,w20,-,-,w26,-,-,-,-,-,-,-,-,-,-,-⟩:=ke M ⟨none,xy⟩;have hlen:=hp.rp.len;refine aR.intro (λ k E' Hc=>∃ (m:Nat),E'=[(13,.int .i64 (m:Int)),(12,.int .i64 (i:Int)),(0,v),(1,.int .i64 (a:Int)),(2,.int .i64 (b:Int)),(4,bU)]/\k=m+1/\m<=j/\PI a b i m xs ys P/\Dt Hc v ys/\Fr (aI v) H0 Hc) ⟨_,_,⟨j,rfl,rfl,qf _,hp,hd,hf⟩,hE⟩ ?_;rintro k E' Hc ⟨m,rfl,rfl,hmm,hp',hd',hf'⟩;have b1:=hp'.i1;have b2:=hp'.j2;have b3:=hp'.ij
 by_cases q:(i:Int)<=(m:Int)
 ·obtain ⟨x,hx,ix,lx⟩:=aZ hd' (i:=m) (by omega);obtain ⟨z,hz,iz,lz⟩:=aZ hd' (i:=a) (by omega);have hpz:=hp'.pv z hz;have wm:ak .i64 ((m:Int)-1)=((m-1:Nat):Int):=by rw [xm (by omega) (by omega)];omega
  simp only [↓qd,qp,aa,reduceIte,reduceEqDiff,w20,q,ix,lx,iz,lz];refine C3.q (ta (M:=M) x z) λ vc He ⟨hv,hfe⟩=>?_;rw [hv];have hde:Dt He v ys:=Own.em hd' hfe;have hfe':Fr (aI v) H0 He:=hf'.trans hfe λ _ q=>q.elim
  by_cases hc:x.line<z.line
  ·have hc':=mg.2 hc;simp only [↓qd,qp,aa,reduceIte,reduceEqDiff,hc'];exact hk m He hde hfe' hp' (λ _ y hy=>by rw [hx] at hy;injection hy with hy;subst hy;omega) hmm
  ·have hc':¬ gI x.line z.line<0:=λ q=>hc (mg.1 q);simp only [↓qd,qp,aa,reduceIte,reduceEqDiff,hc',w26,wm];exact ⟨_,_,⟨m-1,rfl,rfl,by omega,hp'.down hx (by omega) (by omega),hde,hfe'⟩,by simp only [↓qd,qp,aa,reduceIte,reduceEqDiff],by omega⟩
 ·simp only [↓qd,qp,aa,reduceIte,reduceEqDiff,w20,q];exact hk m Hc hd' hf' hp' (λ w=>by omega) hmm
theorem DA (hd:Dt H v ys) (hf:Fr (aI v) H0 H) (hp:PI a b i j xs ys P) (hb:b<=xs.length) (hl:xs.length<=40) (hE:kW [(13,.int .i64 (j:Int)),(12,.int .i64 (i:Int)),(0,v),(1,.int .i64 (a:Int)),(2,.int .i64 (b:Int)),(4,bU)] E)
 (hk:∀ (m:Nat) (H':AHeap),Dt H' v ys->Fr (aI v) H0 H'->PI a b m j xs ys P->(m<=j -> ∀ z,ys[m]? = some z -> ¬ z.line<P)->i<=m->K .normal [(13,.int .i64 (j:Int)),(12,.int .i64 (m:Int)),(0,v),(1,.int .i64 (a:Int)),(2,.int .i64 (b:Int)),(4,bU)] D H') :
 aR (W M ⟨none,xy⟩ (yd 51)) (cw 6 K) E D H:=by
 obtain ⟨-,-,-,-,-,-,-,-,-,-,-,-,-,-,-,w51,-,-,w57,-,-⟩:=ke M ⟨none,xy⟩;have hlen:=hp.rp.len;refine aR.intro (λ k E' Hc=>∃ (m:Nat),E'=[(13,.int .i64 (j:Int)),(12,.int .i64 (m:Int)),(0,v),(1,.int .i64 (a:Int)),(2,.int .i64 (b:Int)),(4,bU)]/\k=b+1-m/\i<=m/\PI a b m j xs ys P/\Dt Hc v ys/\Fr (aI v) H0 Hc) ⟨_,_,⟨i,rfl,rfl,qf _,hp,hd,hf⟩,hE⟩ ?_;rintro k E' Hc ⟨m,rfl,rfl,hmm,hp',hd',hf'⟩;have b1:=hp'.i1;have b2:=hp'.j2;have b3:=hp'.ij
 by_cases q:(m:Int)<=(j:Int)
 ·obtain ⟨x,hx,ix,lx⟩:=aZ hd' (i:=m) (by omega);obtain ⟨z,hz,iz,lz⟩:=aZ hd' (i:=a) (by omega);have hpz:=hp'.pv z hz;have wm:ak .i64 ((m:Int)+1)=((m+1:Nat):Int):=by rw [xm (by omega) (by omega)];omega
  simp only [↓qd,qp,aa,reduceIte,reduceEqDiff,w51,q,ix,lx,iz,lz];refine C3.q (ta (M:=M) x z) λ vc He ⟨hv,hfe⟩=>?_;rw [hv];have hde:Dt He v ys:=Own.em hd' hfe;have hfe':Fr (aI v) H0 He:=hf'.trans hfe λ _ q=>q.elim
  by_cases hc:x.line<z.line
  ·have hc':=mg.2 hc;simp only [↓qd,qp,aa,reduceIte,reduceEqDiff,hc',w57,wm];exact ⟨_,_,⟨m+1,rfl,rfl,by omega,hp'.up hx (by omega) (by omega),hde,hfe'⟩,by simp only [↓qd,qp,aa,reduceIte,reduceEqDiff],by omega⟩
  ·have hc':¬ gI x.line z.line<0:=λ q=>hc (mg.1 q);simp only [↓qd,qp,aa,reduceIte,reduceEqDiff,hc'];exact hk m He hde hfe' hp' (λ _ y hy=>by rw [hx] at hy;injection hy with hy;subst hy;omega) hmm
 ·simp only [↓qd,qp,aa,reduceIte,reduceEqDiff,w51,q];exact hk m Hc hd' hf' hp' (λ w=>by omega) hmm
theorem D8 (hd:Dt H v ys) (hf:Fr (aI v) H0 H) (hp:PI a b i j xs ys P) (hb:b<=xs.length) (hl:xs.length<=40) (hE:kW [(13,.int .i64 (j:Int)),(12,.int .i64 (i:Int)),(0,v),(1,.int .i64 (a:Int)),(2,.int .i64 (b:Int)),(4,bU)] E)
 (hk:∀ (m:Nat) (H':AHeap),Dt H' v ys->Fr (aI v) H0 H'->PI a b i m xs ys P->(i<=m -> ∀ z,ys[m]? = some z->z.line<P)->m<=j->K .normal [(13,.int .i64 (m:Int)),(12,.int .i64 (i:Int)),(0,v),(1,.int .i64 (a:Int)),(2,.int .i64 (b:Int)),(4,bU)] D H') :
 aR (W M ⟨none,xy⟩ (yd 62)) (cw 8 K) E D H:=by
 obtain ⟨-,-,-,-,-,-,-,-,-,-,-,-,-,-,-,-,-,w62,-,-,w68⟩:=ke M ⟨none,xy⟩;have hlen:=hp.rp.len;refine aR.intro (λ k E' Hc=>∃ (m:Nat),E'=[(13,.int .i64 (m:Int)),(12,.int .i64 (i:Int)),(0,v),(1,.int .i64 (a:Int)),(2,.int .i64 (b:Int)),(4,bU)]/\k=m+1/\m<=j/\PI a b i m xs ys P/\Dt Hc v ys/\Fr (aI v) H0 Hc) ⟨_,_,⟨j,rfl,rfl,qf _,hp,hd,hf⟩,hE⟩ ?_;rintro k E' Hc ⟨m,rfl,rfl,hmm,hp',hd',hf'⟩;have b1:=hp'.i1;have b2:=hp'.j2;have b3:=hp'.ij
 by_cases q:(i:Int)<=(m:Int)
 ·obtain ⟨x,hx,ix,lx⟩:=aZ hd' (i:=m) (by omega);obtain ⟨z,hz,iz,lz⟩:=aZ hd' (i:=a) (by omega);have hpz:=hp'.pv z hz;have wm:ak .i64 ((m:Int)-1)=((m-1:Nat):Int):=by rw [xm (by omega) (by omega)];omega
  simp only [↓qd,qp,aa,reduceIte,reduceEqDiff,w62,q,ix,lx,iz,lz];refine C3.q (ta (M:=M) x z) λ vc He ⟨hv,hfe⟩=>?_;rw [hv];have hde:Dt He v ys:=Own.em hd' hfe;have hfe':Fr (aI v) H0 He:=hf'.trans hfe λ _ q=>q.elim
  by_cases hc:x.line<z.line
  ·have hc':=mg.2 hc;simp only [↓qd,qp,aa,reduceIte,reduceEqDiff,hc'];exact hk m He hde hfe' hp' (λ _ y hy=>by rw [hx] at hy;injection hy with hy;subst hy;omega) hmm
  ·have hc':¬ gI x.line z.line<0:=λ q=>hc (mg.1 q);simp only [↓qd,qp,aa,reduceIte,reduceEqDiff,hc',w68,wm];exact ⟨_,_,⟨m-1,rfl,rfl,by omega,hp'.down hx (by omega) (by omega),hde,hfe'⟩,by simp only [↓qd,qp,aa,reduceIte,reduceEqDiff],by omega⟩
 ·simp only [↓qd,qp,aa,reduceIte,reduceEqDiff,w62,q];exact hk m Hc hd' hf' hp' (λ w=>by omega) hmm
end
structure Part (a b bT:Nat) (xs ys:List En):Prop where
 rp:RP a b xs ys
 m1:a<=bT
 m2:bT<b
 lo:∀ (k:Nat) (z w:En),a<=k->k<bT->ys[k]? = some z->ys[bT]? = some w->z.line<w.line
 hi:∀ (k:Nat) (z w:En),bT<k->k<b->ys[k]? = some z->ys[bT]? = some w->w.line<=z.line
theorem PI.fin {a b i j:Nat} {xs ys:List En} {P:Int} (h:PI a b i j xs ys P) (hij:j<i) {x y:En} (hx:ys[j]? = some x) (hy:ys[a]? = some y):Part a b j xs ((ys.set j y).set a x):=by
 have h1:=h.i1;have h2:=h.j2;have h3:=h.ij;have lj:=(qe.1 hx).1;have la:=(qe.1 hy).1;have hyP:=h.pv y hy;have atj:∀ w,((ys.set j y).set a x)[j]? = some w->w.line=P:=λ w hw=>by
  by_cases q:a=j
  ·subst q;rw [qu (by rw [qv];exact la)] at hw;injection hw with hw;subst hw
   rw [hx] at hy;injection hy with hy;subst hy;exact hyP
  ·rw [qm q,qu lj] at hw;injection hw with hw;subst hw;exact hyP
 refine ⟨h.rp.sw (by omega) h2 (qf _) (by omega) hx hy,by omega,h2,λ k z w k1 k2 hz hw=>?_,λ k z w k1 k2 hz hw=>?_⟩
 ·rw [atj w hw]
  by_cases q:a=k
  ·subst q;rw [qu (by rw [qv];exact la)] at hz;injection hz with hz;subst hz
   exact h.lo j x (by omega) (by omega) hx
  ·rw [qm q,qm (by omega)] at hz;exact h.lo k z (by omega) (by omega) hz
 ·rw [atj w hw];rw [qm (by omega),qm (by omega)] at hz;have:=h.hi k z k1 k2 hz;omega
theorem qum {H:AHeap} {v:AV} {xs:List En} (h:Dt H v xs) {a b p:Nat} (hab:a+2<=b) (h1:a<=p) (h2:p<b) (hb:b<=xs.length) (hl:xs.length<=40) :
 zq M xy [v,.int .i64 (a:Int),.int .i64 (b:Int),.int .i64 (p:Int),bU] H λ r H'=>∃ (ys:List En) (bT:Nat) (q:Bool),r=.tuple [.int .i64 (bT:Int),.bool q]/\Dt H' v ys/\Fr (aI v) H H'/\Part a b bT xs ys:=by
 refine qee ?_;obtain ⟨w0,w4,w6,w17,w9,w28,w20,w15,w38,w26,w42,w44,w81,w47,w59,w51,w70,w62,w57,w76,w68⟩:=ke M ⟨none,xy⟩;obtain ⟨x,hx,ix,lx⟩:=aZ h (i:=a) (by omega);obtain ⟨y,hy,iy,ly⟩:=aZ h (i:=p) (by omega);obtain ⟨H1,H2,s1,s2,s3,s4⟩:=sX h hx hy;have wa:ak .i64 ((a:Int)+1)=((a+1:Nat):Int):=by rw [xm (by omega) (by omega)];omega
 have wb:ak .i64 ((b:Int)-1)=((b-1:Nat):Int):=by rw [xm (by omega) (by omega)];omega
 have hla:a<xs.length:=by omega
 have hlp:p<xs.length:=by omega
 have p0:PI a b (a+1) (b-1) xs ((xs.set a y).set p x) y.line:=by
  refine ⟨RP.refl.sw (qf _) (by omega) h1 h2 hx hy,qf _,by omega,by omega,λ z hz=>?_,λ k z k1 k2=>by omega,λ k z k1 k2=>by omega⟩
  by_cases q:p=a
  ·subst q;rw [qu (by rw [qv];exact hlp)] at hz;injection hz with hz;subst hz
   rw [hx] at hy;injection hy with hy;subst hy;rfl
  ·rw [qm q,qu hla] at hz;injection hz with hz;subst hz;rfl
 simp only [↓qd,qp,aa,reduceIte,reduceEqDiff,w0,ix,lx,iy,ly,s1,s2,w4,wa,wb,w6];refine Jr (M:=M) s3 s4 p0 hb hl (by simp only [↓qd,qp,aa,reduceIte,reduceEqDiff]) λ i Hb hdb hfb hpb hstop hmi=>?_;simp only [↓qd,qp,aa,reduceIte,reduceEqDiff,w17];refine Fi (M:=M) hdb hfb hpb hb hl (by simp only [↓qd,qp,aa,reduceIte,reduceEqDiff]) λ j Hc hdc hfc hpc hstop2 hmj=>?_;obtain ⟨ys,hys⟩:∃ ys,ys=(xs.set a y).set p x:=⟨_,rfl⟩
 obtain ⟨P,hP⟩:∃ P,P=y.line:=⟨_,rfl⟩
 rw [<-hys] at hpc hpb hstop hstop2 hdc;rw [<-hP] at hpc hpb hstop hstop2;have c1:=hpc.i1;have c2:=hpc.j2;have c3:=hpc.ij;have c4:=hpc.rp.len
 by_cases q:(j:Int)<(i:Int)
 ·obtain ⟨u,hu,iu,lu⟩:=aZ hdc (i:=j) (by omega);obtain ⟨w,hw,iw,lw⟩:=aZ hdc (i:=a) (by omega);obtain ⟨H5,H6,t1,t2,t3,t4⟩:=sX hdc hu hw;simp only [↓qd,qp,aa,reduceIte,reduceEqDiff,w28,q,iu,lu,iw,lw,t1,t2];exact ⟨_,j,true,rfl,t3,hfc.trans t4 λ _ q=>.inl q,hpc.fin (by omega) hu hw⟩
 obtain ⟨u,hu,iu,lu⟩:=aZ hdc (i:=i) (by omega);obtain ⟨w,hw,iw,lw⟩:=aZ hdc (i:=j) (by omega);obtain ⟨H5,H6,t1,t2,t3,t4⟩:=sX hdc hu hw;have p1:=hpc.sw hu hw (hstop (by have:=hpb.ij;omega) u hu) (hstop2 (by omega) w hw) (by omega);have wi:ak .i64 ((i:Int)+1)=((i+1:Nat):Int):=by rw [xm (by omega) (by omega)];omega
 have wj:ak .i64 ((j:Int)-1)=((j-1:Nat):Int):=by rw [xm (by omega) (by omega)];omega
 simp only [↓qd,qp,aa,reduceIte,reduceEqDiff,w28,q,w38,iu,lu,iw,lw,t1,t2,wi,w42,wj,w44];refine aR.intro (λ k E' Hc=>∃ (i j:Nat) (ys:List En),E'=[(13,.int .i64 (j:Int)),(12,.int .i64 (i:Int)),(0,v),(1,.int .i64 (a:Int)),(2,.int .i64 (b:Int)),(4,bU)]/\k=j+1/\PI a b i j xs ys P/\Dt Hc v ys/\Fr (aI v) H Hc) ⟨_,_,⟨i+1,j-1,_,rfl,rfl,p1,t3,hfc.trans t4 λ _ q=>.inl q⟩,by simp only [↓qd,qp,aa,reduceIte,reduceEqDiff]⟩ ?_;clear p1 t1 t2 t3 t4 iu lu iw lw hu hw wi wj q hstop hstop2 hpb hdb hfb hpc hdc hfc c1 c2 c3 c4 s1 s2 s3 s4 ix lx iy ly;rintro k E' Hc ⟨i,j,ys,rfl,rfl,hp,hd,hf⟩;simp only [↓qd,qp,aa,reduceIte,reduceEqDiff,w47];refine DA (M:=M) hd hf hp hb hl (by simp only [↓qd,qp,aa,reduceIte,reduceEqDiff]) λ i Hb hdb hfb hpb hstop hmi=>?_;simp only [↓qd,qp,aa,reduceIte,reduceEqDiff,w59];refine D8 (M:=M) hdb hfb hpb hb hl (by simp only [↓qd,qp,aa,reduceIte,reduceEqDiff]) λ j Hc hdc hfc hpc hstop2 hmj=>?_;have c1:=hpc.i1;have c2:=hpc.j2;have c3:=hpc.ij;have c4:=hpc.rp.len
 by_cases q:(j:Int)<(i:Int)
 ·obtain ⟨u,hu,iu,lu⟩:=aZ hdc (i:=j) (by omega);obtain ⟨w,hw,iw,lw⟩:=aZ hdc (i:=a) (by omega);obtain ⟨H5,H6,t1,t2,t3,t4⟩:=sX hdc hu hw;simp only [↓qd,qp,aa,reduceIte,reduceEqDiff,w70,q,w81,iu,lu,iw,lw,t1,t2];exact ⟨_,j,false,rfl,t3,hfc.trans t4 λ _ q=>.inl q,hpc.fin (by omega) hu hw⟩
 obtain ⟨u,hu,iu,lu⟩:=aZ hdc (i:=i) (by omega);obtain ⟨w,hw,iw,lw⟩:=aZ hdc (i:=j) (by omega);obtain ⟨H5,H6,t1,t2,t3,t4⟩:=sX hdc hu hw;have p1:=hpc.sw hu hw (hstop (by have:=hpb.ij;omega) u hu) (hstop2 (by omega) w hw) (by omega);have wi:ak .i64 ((i:Int)+1)=((i+1:Nat):Int):=by rw [xm (by omega) (by omega)];omega
 have wj:ak .i64 ((j:Int)-1)=((j-1:Nat):Int):=by rw [xm (by omega) (by omega)];omega
 simp only [↓qd,qp,aa,reduceIte,reduceEqDiff,w70,q,w76,iu,lu,iw,lw,t1,t2,wi,wj];exact ⟨_,_,⟨i+1,j-1,_,rfl,rfl,p1,t3,hfc.trans t4 λ _ q=>.inl q⟩,by simp only [↓qd,qp,aa,reduceIte,reduceEqDiff],by omega⟩
end Go.Am
