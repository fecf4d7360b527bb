/- NmK5: SrG NhA NhB. -/
import Derived.Test.YtiibohocdbaekaaGreatAmCNmK4
import Derived.Test.YtiibohocdbaekaaGreatAmCNmK0
set_option linter.unusedVariables false
set_option linter.unusedSimpArgs false
set_option linter.unusedSectionVars false
set_option maxRecDepth 100000
open Nat (reduceEqDiff)
namespace Go.Am
open Go.Proofs
variable {M:aA} [MK M]
abbrev lf:Nat:=jf
abbrev Aq (H:AHeap) (v:AV) (xs:List En) (a b:Nat):AV->AHeap->Prop:=λ _ H'=>∃ ys,Dt H' v ys/\Fr (aI v) H H'/\RP a b xs ys/\Ord En.line a b ys
def LB (a b:Nat) (ys:List En):Prop:=∀ z,0<a->ys[a-1]? = some z -> ∀ (k:Nat) (x:En),a<=k->k<b->ys[k]? = some x->z.line<=x.line
theorem LB.rp {a b:Nat} {ys zs:List En} (h:LB a b ys) (hr:RP a b ys zs):LB a b zs:=λ z h0 hz=>by
 rw [hr.out (by omega)] at hz;exact hr.all (P:=λ x=>z.line<=x.line) (h z h0 hz)
structure iU (H:AHeap) (v:AV) (xs:List En) (a b c d:Nat) (Hc:AHeap) (ys:List En):Prop where
 ha:a<=c
 ab:c<=d
 hb:d<=b
 dt:Dt Hc v ys
 f:Fr (aI v) H Hc
 r:RP a b xs ys
 o:lX En.line a b c d ys
 lb:LB c d ys
section
variable {H:AHeap} {v:AV} {xs:List En} {a b c d:Nat} {Hc:AHeap} {ys:List En}
theorem iU.rp (h:iU H v xs a b c d Hc ys) {H':AHeap} {zs:List En} (hr:RP c d ys zs) (hd:Dt H' v zs) (hf:Fr (aI v) Hc H'):iU H v xs a b c d H' zs :=
 ⟨h.ha,h.ab,h.hb,hd,h.f.trans hf λ _ q=>.inl q,h.r.trans (hr.mono h.ha h.hb),h.o.rp h.ha h.hb hr,h.lb.rp hr⟩
theorem iU.fin (h:iU H v xs a b c d Hc ys) (ho:Ord En.line c d ys) {r:AV}:Aq H v xs a b r Hc:=⟨ys,h.dt,h.f,h.r,h.o.done ho⟩
def I9 (H:AHeap) (v:AV) (xs:List En) (a b:Nat) (k:Nat) (E':Env) (Hc:AHeap):Prop:=∃ (c d lim:Nat) (q1 q2:Bool) (ys:List En),E'=[(11,.bool q2),(10,.bool q1),(0,v),(1,.int .i64 (c:Int)),(2,.int .i64 (d:Int)),(3,.int .i64 (lim:Int)),(4,bU)]/\k=d+1-c/\lim<=64/\iU H v xs a b c d Hc ys
abbrev sI (M:aA) (H:AHeap) (v:AV) (xs:List En) (a b n:Nat):au:=cw 1 (pY (I9 H v xs a b) [] n (cw 0 (c6 M [] (kO (Aq H v xs a b)))))
def zE (M:aA) (n:Nat):Prop:=∀ {H:AHeap} {v:AV} {xs:List En} {a b lim:Nat},Dt H v xs->b-a<n->a<=b->b<=xs.length->xs.length<=40->lim<=64->LB a b xs->zq M lf [v,.int .i64 (a:Int),.int .i64 (b:Int),.int .i64 (lim:Int),bU] H (Aq H v xs a b)
theorem Bh {n k:Nat} (ih:zE M n) (h:iU H v xs a b c d Hc ys) (hn:d-c<=n) (hk:d+1-c=k) (hb:b<=xs.length) (hl:xs.length<=40) {lim bT:Nat} (hlim:lim<=64) {zs:List En} {Hd:AHeap} (hp:Part c d bT ys zs) (hdz:Dt Hd v zs) (hfz:Fr (aI v) Hc Hd) {q2:Bool}
 {E:Env} (h0:lk E 0=some v) (h1:lk E 1=some (.int .i64 (c:Int))) (h2:lk E 2=some (.int .i64 (d:Int))) (h3:lk E 3=some (.int .i64 (lim:Int))) (h4:lk E 4=some bU) (h11:lk E 11=some (.bool q2)) (h12:lk E 12=some (.int .i64 ((d-c:Nat):Int))) (h16:lk E 16=some (.int .i64 (bT:Int))) :
 W M ⟨none,lf⟩ (jt 69) true (sI M H v xs a b k) E [] Hd:=by
 obtain ⟨-,-,-,-,-,-,-,-,-,-,w69,w73⟩:=yh M ⟨none,jf⟩;have hz:=h.rp hp.rp hdz hfz;have m1:=hp.m1;have m2:=hp.m2;have g1:=h.ha;have g2:=h.hb;have hzl:zs.length=xs.length:=hz.r.len;have u1:ak .i64 ((bT:Int)-(c:Int))=((bT-c:Nat):Int):=by rw [xm (by omega) (by omega)];omega
 have u2:ak .i64 ((d:Int)-(bT:Int))=((d-bT:Nat):Int):=by rw [xm (by omega) (by omega)];omega
 have u3:ak .i64 ((bT:Int)+1)=((bT+1:Nat):Int):=by rw [xm (by omega) (by omega)];omega
 have dv:Op.bin .quo [.int .i64 ((d-c:Nat):Int),.int .i64 8]=some (.int .i64 (((d-c) / 8:Nat):Int)):=by
  rw [pk .i64 _ _ (by decide),wx (by omega),xm (by omega) (by omega)];rfl
 obtain ⟨w,hw⟩:∃ w,zs[bT]? = some w:=⟨zs[bT]'(by omega),by simp⟩
 have lo:=λ k z k1 k2 hz=>hp.lo k z w k1 k2 hz hw;have hi:=λ k z k1 k2 hz=>hp.hi k z w k1 k2 hz hw
 by_cases q:((bT-c:Nat):Int)<((d-bT:Nat):Int)
 ·simp only [↓qd,qp,aa,reduceIte,reduceEqDiff,w69,h16,h1,h2,h12,u1,u2,dv,w73,h0,h3,h4,q];have lb1:LB c bT zs:=λ z z0 hz0 k x k1 k2 hx=>hz.lb z z0 hz0 k x k1 (by omega) hx;refine C3.q (ih hdz (by omega) m1 (by omega) (by omega) hlim lb1) λ _ He ⟨ws,hdw,hfw,hrw,how⟩=>?_;simp only [↓qd,qp,aa,reduceIte,reduceEqDiff,h16,u3];have hw':ws[bT]? = some w:=by rw [hrw.out (.inr (qf _))];exact hw
  have lo':∀ (k:Nat) (x:En),c<=k->k<bT->ws[k]? = some x->x.line<w.line:=hrw.all (P:=λ x=>x.line<w.line) lo;have hi':∀ (k:Nat) (x:En),bT<k->k<d->ws[k]? = some x->w.line<=x.line:=λ k x k1 k2 hx=>hi k x k1 k2 (by rw [<-hrw.out (by omega)];exact hx);have hz2:=hz.rp (hrw.mono (qf _) (by omega)) hdw hfw;refine ⟨_,_,⟨bT+1,d,lim,decide ((((d-c) / 8:Nat):Int)<=((bT-c:Nat):Int)),q2,ws,rfl,rfl,hlim,⟨by omega,by omega,g2,hdw,hz2.f,hz2.r,?_,?_⟩⟩,by simp only [↓qd,qp,aa,reduceIte,reduceEqDiff,h11,h0,h2,h3,h4],by omega⟩
  ·intro i j x y k1 k2 k3 k4 hx hy
   by_cases e:i<c\/d<=j
   ·exact hz2.o i j x y k1 k2 k3 e hx hy
   ·by_cases e1:j<bT
    ·exact how i j x y (by omega) k2 e1 hx hy
    ·by_cases e2:j=bT
     ·subst e2;rw [hw'] at hy;injection hy with hy;subst hy
      have:=lo' i x (by omega) k2 hx;omega
     ·have a1:=hi' j y (by omega) (by omega) hy
      by_cases e3:i=bT
      ·subst e3;rw [hw'] at hx;injection hx with hx;subst hx;exact a1
      ·have:=lo' i x (by omega) (by omega) hx;omega
  ·intro z z0 hz0 k x k1 k2 hx;rw [Nat.add_sub_cancel,hw'] at hz0;injection hz0 with hz0;subst hz0
   exact hi' k x (by omega) k2 hx
 ·simp only [↓qd,qp,aa,reduceIte,reduceEqDiff,w69,h16,h1,h2,h12,u1,u2,dv,w73,h0,h3,h4,q,u3];have lb1:LB (bT+1) d zs:=λ z z0 hz0 k x k1 k2 hx=>by
   rw [Nat.add_sub_cancel,hw] at hz0;injection hz0 with hz0;subst hz0
   exact hi k x (by omega) k2 hx
  refine C3.q (ih hdz (by omega) (by omega) (by omega) (by omega) hlim lb1) λ _ He ⟨ws,hdw,hfw,hrw,how⟩=>?_;simp only [↓qd,qp,aa,reduceIte,reduceEqDiff,h16];have hw':ws[bT]? = some w:=by rw [hrw.out (.inl (by omega))];exact hw
  have lo':∀ (k:Nat) (x:En),c<=k->k<bT->ws[k]? = some x->x.line<w.line:=λ k x k1 k2 hx=>lo k x k1 k2 (by rw [<-hrw.out (by omega)];exact hx);have hi':∀ (k:Nat) (x:En),bT+1<=k->k<d->ws[k]? = some x->w.line<=x.line:=hrw.all (P:=λ x=>w.line<=x.line) λ k x k1 k2 hx=>hi k x (by omega) k2 hx;have hz2:=hz.rp (hrw.mono (by omega) (qf _)) hdw hfw;refine ⟨_,_,⟨c,bT,lim,decide ((((d-c) / 8:Nat):Int)<=((d-bT:Nat):Int)),q2,ws,rfl,rfl,hlim,⟨g1,m1,by omega,hdw,hz2.f,hz2.r,?_,?_⟩⟩,by simp only [↓qd,qp,aa,reduceIte,reduceEqDiff,h11,h0,h1,h3,h4],by omega⟩
  ·intro i j x y k1 k2 k3 k4 hx hy
   by_cases e:i<c\/d<=j
   ·exact hz2.o i j x y k1 k2 k3 e hx hy
   ·by_cases e1:bT<i
    ·exact how i j x y (by omega) k2 (by omega) hx hy
    ·by_cases e2:j=bT
     ·subst e2;rw [hw'] at hy;injection hy with hy;subst hy
      have:=lo' i x (by omega) k2 hx;omega
     ·have a1:=hi' j y (by omega) (by omega) hy
      by_cases e3:i=bT
      ·subst e3;rw [hw'] at hx;injection hx with hx;subst hx;exact a1
      ·have:=lo' i x (by omega) (by omega) hx;omega
  ·exact λ z z0 hz0 k x k1 k2 hx=>hz2.lb z z0 hz0 k x k1 (by omega) hx
theorem AK {n k:Nat} (ih:zE M n) (h:iU H v xs a b c d Hc ys) (hn:d-c<=n) (hk:d+1-c=k) (hcd:c+8<=d) (hb:b<=xs.length) (hl:xs.length<=40) {lim p:Nat} (hlim:lim<=64) (hp1:c<=p) (hp2:p<d) {q1 q2:Bool}
 {E:Env} (h0:lk E 0=some v) (h1:lk E 1=some (.int .i64 (c:Int))) (h2:lk E 2=some (.int .i64 (d:Int))) (h3:lk E 3=some (.int .i64 (lim:Int))) (h4:lk E 4=some bU) (h10:lk E 10=some (.bool q1)) (h11:lk E 11=some (.bool q2)) (h12:lk E 12=some (.int .i64 ((d-c:Nat):Int))) (h13:lk E 13=some (.int .i64 (p:Int))) :
 W M ⟨none,lf⟩ (jt 55) true (sI M H v xs a b k) E [] Hc:=by
 obtain ⟨-,-,-,-,-,-,-,-,w55,w65,-,-⟩:=yh M ⟨none,jf⟩;have g1:=h.ha;have g2:=h.hb;have hyl:ys.length=xs.length:=h.r.len
 -- parted by the pivot
 have part:∀ {Hd:AHeap},iU H v xs a b c d Hd ys->W M ⟨none,lf⟩ (jt 65) true (sI M H v xs a b k) E [] Hd:=by
  intro Hd hs;simp only [↓qd,qp,aa,reduceIte,reduceEqDiff,w65,h0,h1,h2,h13,h4];refine C3.q (qum (M:=M) hs.dt (by omega) hp1 hp2 (by omega) (by omega)) λ r He ⟨zs,bT,q,hr,hdz,hfz,hpt⟩=>?_;rw [hr];simp only [↓qd,qp,aa,reduceIte,reduceEqDiff,qn];exact Bh ih hs hn hk hb hl hlim hpt hdz hfz h0 h1 h2 h3 h4 rfl h12 rfl
 by_cases q:(0:Int)<(c:Int)
 ·have u1:ak .i64 ((c:Int)-1)=((c-1:Nat):Int):=by rw [xm (by omega) (by omega)];omega
  obtain ⟨z,hz,iz,lz⟩:=aZ h.dt (i:=c-1) (by omega);obtain ⟨w,hw,iw,lw⟩:=aZ h.dt (i:=p) (by omega);simp only [↓qd,qp,aa,reduceIte,reduceEqDiff,w55,h1,q,h4,h0,u1,iz,lz,h13,iw,lw];refine C3.q (ta (M:=M) z w) λ vc Hd ⟨hv,hfd⟩=>?_;rw [hv];have hs:iU H v xs a b c d Hd ys:=h.rp .refl (Own.em h.dt hfd) ⟨hfd.next,λ x hx _=>hfd.ah x hx id⟩
  by_cases hc:z.line<w.line
  ·have hc':=mg.2 hc;simp only [↓qd,qp,aa,reduceIte,reduceEqDiff,hc'];exact part hs
  ·have hc':¬ gI z.line w.line<0:=λ q=>hc (mg.1 q);simp only [↓qd,qp,aa,reduceIte,reduceEqDiff,hc',h0,h1,h2,h13,h4];refine C3.q (qmf (M:=M) hs.dt (by omega) hp1 hp2 (by omega) (by omega)) λ r He ⟨zs,bT,P,hr,hdz,hfz,hrz,m1,m2,hP,lo,hi⟩=>?_;rw [hr];have hz2:=hs.rp hrz hdz hfz;have hwP:=hP w hw;simp only [↓qd,qp,aa,reduceIte,reduceEqDiff];refine ⟨_,_,⟨bT,d,lim,q1,q2,zs,rfl,rfl,hlim,⟨by omega,m2,g2,hdz,hz2.f,hz2.r,?_,?_⟩⟩,by simp only [↓qd,qp,aa,reduceIte,reduceEqDiff,h11,h10,h0,h2,h3,h4],by omega⟩
   ·intro i j x y k1 k2 k3 k4 hx hy
    by_cases e:i<c\/d<=j
    ·exact hz2.o i j x y k1 k2 k3 e hx hy
    ·have a1:=lo i x (by omega) (by omega) hx
     by_cases e1:bT<=j
     ·have:=hi j y e1 (by omega) hy;omega
     ·have a2:=hz2.lb z (by omega) (by rw [hrz.out (by omega)];exact hz) j y (by omega) (by omega) hy;omega
   ·intro u u0 hu k x k1 k2 hx;have a1:=lo (bT-1) u (by omega) (by omega) hu;have a2:=hi k x k1 k2 hx;omega
 ·simp only [↓qd,qp,aa,reduceIte,reduceEqDiff,w55,h1,q];exact part h
theorem q6w {n k:Nat} (ih:zE M n) (h:iU H v xs a b c d Hc ys) (hn:d-c<=n) (hk:d+1-c=k) (hcd:c+8<=d) (hb:b<=xs.length) (hl:xs.length<=40) {lim:Nat} (hlim:lim<=64) {q1 q2:Bool}
 {E:Env} (h0:lk E 0=some v) (h1:lk E 1=some (.int .i64 (c:Int))) (h2:lk E 2=some (.int .i64 (d:Int))) (h3:lk E 3=some (.int .i64 (lim:Int))) (h4:lk E 4=some bU) (h10:lk E 10=some (.bool q1)) (h11:lk E 11=some (.bool q2)) (h12:lk E 12=some (.int .i64 ((d-c:Nat):Int))) :
 W M ⟨none,lf⟩ (jt 33) true (sI M H v xs a b k) E [] Hc:=by
 obtain ⟨-,-,-,-,-,w33,w35,w45,-,-,-,-⟩:=yh M ⟨none,jf⟩;have g1:=h.ha;have g2:=h.hb;have hyl:ys.length=xs.length:=h.r.len;have p45:∀ {Hd:AHeap} {zs:List En} {p:Nat} {hint:Int},iU H v xs a b c d Hd zs->c<=p->p<d -> ∀ {E:Env},lk E 0=some v->lk E 1=some (.int .i64 (c:Int))->lk E 2=some (.int .i64 (d:Int))->lk E 3=some (.int .i64 (lim:Int))->lk E 4=some bU->lk E 10=some (.bool q1)->lk E 11=some (.bool q2)->lk E 12=some (.int .i64 ((d-c:Nat):Int))->lk E 13=some (.int .i64 (p:Int))->lk E 14=some (.int .i64 hint) ->
  W M ⟨none,lf⟩ (jt 45) true (sI M H v xs a b k) E [] Hd:=by
  intro Hd zs p hint hs hp1 hp2 E h0 h1 h2 h3 h4 h10 h11 h12 h13 h14;have hzl:zs.length=xs.length:=hs.r.len;have nx:∀ {He:AHeap},iU H v xs a b c d He zs->W M ⟨none,lf⟩ (jt 55) true (sI M H v xs a b k) E [] He:=λ hs'=>AK ih hs' hn hk hcd hb hl hlim hp1 hp2 h0 h1 h2 h3 h4 h10 h11 h12 h13;cases q1 with
  | false=>simp only [↓qd,qp,aa,reduceIte,reduceEqDiff,w45,h10];exact nx hs
  | true =>
   cases q2 with
   | false=>simp only [↓qd,qp,aa,reduceIte,reduceEqDiff,w45,h10,h11];exact nx hs
   | true =>
    by_cases e:hint=1
    ·simp only [↓qd,qp,aa,reduceIte,reduceEqDiff,w45,h10,h11,h14,xc e,h0,h1,h2,h4];refine C3.q (qtm (M:=M) hs.dt (by omega) (by omega) (by omega)) λ r He ⟨hf,q,hr,hq⟩=>?_;rw [hr];have hs':iU H v xs a b c d He zs:=hs.rp .refl (Own.em hs.dt hf) ⟨hf.next,λ x hx _=>hf.ah x hx id⟩;cases q with
     | true=>simp only [↓qd,qp,aa,reduceIte,reduceEqDiff];exact hs'.fin (hq rfl)
     | false=>simp only [↓qd,qp,aa,reduceIte,reduceEqDiff];exact nx hs'
    ·simp only [↓qd,qp,aa,reduceIte,reduceEqDiff,w45,h10,h11,h14,e];exact nx hs
 simp only [↓qd,qp,aa,reduceIte,reduceEqDiff,w33,h0,h1,h2,h4];refine C3.q (choose_spec (M:=M) h.dt (by omega) (by omega) (by omega)) λ r Hd ⟨hf,p,hint,hr,hp1,hp2⟩=>?_;rw [hr];have hs:iU H v xs a b c d Hd ys:=h.rp .refl (Own.em h.dt hf) ⟨hf.next,λ x hx _=>hf.ah x hx id⟩;simp only [↓qd,qp,aa,reduceIte,reduceEqDiff,qn]
 by_cases e:hint=2
 ·simp only [↓qd,qp,aa,reduceIte,reduceEqDiff,w35,xc e,h0,h1,h2,h4];refine C3.q (qy9 (M:=M) hs.dt (by omega) (by omega) (by omega)) λ _ He ⟨zs,hdz,hfz,hrz⟩=>?_;have u1:ak .i64 ((d:Int)-1)=((d-1:Nat):Int):=by rw [xm (by omega) (by omega)];omega
  have u2:ak .i64 ((p:Int)-(c:Int))=((p-c:Nat):Int):=by rw [xm (by omega) (by omega)];omega
  have u3:ak .i64 (((d-1:Nat):Int)-((p-c:Nat):Int))=((d-1-(p-c):Nat):Int):=by rw [xm (by omega) (by omega)];omega
  simp only [↓qd,qp,aa,reduceIte,reduceEqDiff,h1,h2,u1,u2,u3];exact p45 (hs.rp hrz hdz hfz) (p:=d-1-(p-c)) (hint:=1) (by omega) (by omega) h0 h1 h2 h3 h4 h10 h11 h12 rfl rfl
 ·simp only [↓qd,qp,aa,reduceIte,reduceEqDiff,w35,e];exact p45 hs hp1 hp2 h0 h1 h2 h3 h4 h10 h11 h12 rfl rfl
end
theorem xH {n:Nat} (ih:zE M n) {H:AHeap} {v:AV} {xs:List En} {a b lim:Nat} (h:Dt H v xs) (hn:b-a<n+1) (hab:a<=b) (hb:b<=xs.length) (hl:xs.length<=40) (hlim:lim<=64) (hlb:LB a b xs) :
 zq M lf [v,.int .i64 (a:Int),.int .i64 (b:Int),.int .i64 (lim:Int),bU] H (Aq H v xs a b):=by
 refine qfa ?_;obtain ⟨w0,w6,w9,w17,w25,-,-,-,-,-,-,-⟩:=yh M ⟨none,jf⟩;simp only [↓qd,qp,aa,reduceIte,reduceEqDiff,w0];refine aR.intro (I9 H v xs a b) ?_ ?_
 ·exact ⟨_,_,⟨a,b,lim,true,true,xs,rfl,rfl,hlim,⟨qf _,hab,qf _,h,Fr.refl _,.refl,lX.start,hlb⟩⟩,by simp only [↓qd,qp,aa,reduceIte,reduceEqDiff]⟩
 rintro k E' Hc ⟨c,d,lim,q1,q2,ys,rfl,rfl,hlim,hs⟩;have g0:=hs.ha;have g1:=hs.ab;have g2:=hs.hb;have hyl:ys.length=xs.length:=hs.r.len;have u1:ak .i64 ((d:Int)-(c:Int))=((d-c:Nat):Int):=by rw [xm (by omega) (by omega)];omega
 by_cases c12:((d-c:Nat):Int)<=12
 ·simp only [↓qd,qp,aa,reduceIte,reduceEqDiff,w6,u1,w9,c12];refine C3.q (qub (M:=M) hs.dt g1 (by omega) (by omega)) λ _ Hd ⟨zs,hdz,hfz,hrz,hoz⟩=>?_;simp only [↓qd,qp,aa,reduceIte,reduceEqDiff];exact (hs.rp hrz hdz hfz).fin hoz
 by_cases c0:(lim:Int)=0
 ·simp only [↓qd,qp,aa,reduceIte,reduceEqDiff,w6,u1,w9,c12,w17,xc c0];refine C3.q (q55 (M:=M) hs.dt (by omega) (by omega) (by omega)) λ _ Hd ⟨zs,hdz,hfz,hrz,hoz⟩=>?_;simp only [↓qd,qp,aa,reduceIte,reduceEqDiff];exact (hs.rp hrz hdz hfz).fin hoz
 cases q1 with
 | true =>
  simp only [↓qd,qp,aa,reduceIte,reduceEqDiff,w6,u1,w9,c12,w17,c0,w25];exact q6w ih hs (by omega) rfl (by omega) hb hl hlim rfl rfl rfl rfl rfl rfl rfl rfl
 | false =>
  simp only [↓qd,qp,aa,reduceIte,reduceEqDiff,w6,u1,w9,c12,w17,c0,w25];refine C3.q (q29 (M:=M) hs.dt (by omega) (by omega) (by omega)) λ _ Hd ⟨zs,hdz,hfz,hrz⟩=>?_;have u2:ak .i64 ((lim:Int)-1)=((lim-1:Nat):Int):=by rw [xm (by omega) (by omega)];omega
  simp only [↓qd,qp,aa,reduceIte,reduceEqDiff,u2];exact q6w ih (hs.rp hrz hdz hfz) (by omega) rfl (by omega) hb hl (lim:=lim-1) (by omega) rfl rfl rfl rfl rfl rfl rfl rfl
theorem q2e:∀ n,zE M n
 | 0=>λ h hn=>by omega
 | n+1=>λ h hn hab hb hl hlim hlb=>xH (q2e n) h hn hab hb hl hlim hlb
theorem qvr {H:AHeap} {v:AV} {xs:List En} (h:Dt H v xs) (hl:xs.length<=40) :
 zq M qc3 [v,bU] H λ _ H'=>∃ ys,Dt H' v ys/\Fr (aI v) H H'/\ys.Perm xs/\ys.Pairwise λ a b=>a.line<=b.line:=by
 refine qhm ?_;have hln:=(cq.sl h).len;have wu:ak .u64 (xs.length:Int)=(xs.length:Int):=nP (by omega);simp only [↓qd,qp,aa,reduceIte,reduceEqDiff,qhn,hln,wu];refine C3.q (qym (M:=M) (n:=xs.length) (by omega)) λ r H1 ⟨⟨L,hr,hL,_,_⟩,hh⟩=>?_;rw [hr,hh];have hp:=q2e (M:=M) (xs.length+1) (a:=0) (b:=xs.length) (lim:=L) h (by omega) (xx _) (qf _) hl (by omega) λ z z0=>by omega
 rw [show ((0:Nat):Int)=0 from rfl] at hp;simp only [↓qd,qp,aa,reduceIte,reduceEqDiff];refine C3.q hp λ _ H2 ⟨ys,hd,hf,hr,ho⟩=>?_;simp only [↓qd,qp,aa,reduceIte,reduceEqDiff];refine ⟨ys,hd,hf,hr.perm,?_⟩;rw [List.pairwise_iff_getElem];intro i j hi hj hij;exact ho i j _ _ (xx _) hij (by rw [<-hr.len];exact hj) (qy hi) (qy hj)
end Go.Am
namespace Go.Am
open Go.Proofs Ca
variable {M:aA} [MK M]
theorem JJ (b:aj) (Q:au) (E:Env) (D:List aD) (H:AHeap):kQ b Q .normal E D H=Q .normal E D H:=rfl
theorem vL (b:aj) (Q:au) (E:Env) (D:List aD) (H:AHeap):kQ b Q .ret E D H=Q .ret E D H:=rfl
def vQ (c:Ca) (sv:AV):List AV:=[.int .i64 (c.cW:Int),.int .i64 (c.ways:Int),sv,.int .i64 c.us]
abbrev eA (sv:AV) (i:Nat):AV:=.ptr (aF sv) (bI 21 sv i)
structure cD (H:AHeap) (b:Nat) (sv:AV) (c:Ca):Prop where
 row:H.get b=some (OR (vQ c sv) J1)
 lt:b<H.next
 sl:dR ao qr 21 H sv c.sl
 ne:aF sv ≠ b
 s8:c.cW<=8
 w4:c.ways<=4
 us:0<=c.us/\c.us<=1000000
theorem cD.em {H H':AHeap} {b:Nat} {sv:AV} {c:Ca} (h:cD H b sv c) (f:Fr Em H H'):cD H' b sv c:=⟨by rw [f.ah _ h.lt id];exact h.row,qk h.lt f.next,h.sl.fr f id,h.ne,h.s8,h.w4,h.us⟩
theorem cD.fr {H H':AHeap} {W:Nat->Prop} {b:Nat} {sv:AV} {c:Ca} (h:cD H b sv c) (f:Fr W H H') (h1:¬ W b) (h2:¬ W (aF sv)):cD H' b sv c:=⟨by rw [f.ah _ h.lt h1];exact h.row,qk h.lt f.next,h.sl.fr f h2,h.ne,h.s8,h.w4,h.us⟩
theorem cD.ix {H:AHeap} {b:Nat} {sv:AV} {c:Ca} (h:cD H b sv c) {i:Nat} (hi:i<c.sl.length):Op.aQ 21 [sv,.int .i64 (i:Int)]=some (eA sv i):=(h.sl.sl zd).idx (rO hi) rfl .i64
theorem cD.ld {H:AHeap} {b:Nat} {sv:AV} {c:Ca} (h:cD H b sv c) {i:Nat} (hi:i<c.sl.length) {k:Nat} (hk:k<21):Op.ae [.ptr (aF sv) (bI 21 sv i+k)] H=(ao (c.en i))[k]?:=(h.sl.sl zd).ae zd (rO hi) hk
theorem cD.BS {H:AHeap} {b:Nat} {sv:AV} {c:Ca} (h:cD H b sv c) {i:Nat} (hi:i<c.sl.length):Op.ae [.ptr (aF sv) (bI 21 sv i)] H=some (.int .i64 (c.en i).line):=(h.sl.sl zd).jW zd (rO hi) (by decide)
theorem kv (b o:Nat) (H:AHeap):Op.eq .ptr false [.ptr b o,.nilp] H=some (.bool false):=rfl
theorem kF (b o:Nat) (H:AHeap):Op.eq .ptr true [.ptr b o,.nilp] H=some (.bool true):=rfl
theorem Kd (H:AHeap):Op.eq .ptr false [.nilp,.nilp] H=some (.bool true):=rfl
theorem oR (H:AHeap):Op.eq .ptr true [.nilp,.nilp] H=some (.bool false):=rfl
def LF (R:Nat->(Nat->Prop)->AHeap->Prop) (S:(Nat->Prop)->AHeap->Prop) (W0 O:Nat->Prop) (H:AHeap) (n:Nat) (v:AV) (H':AHeap):Prop:=∃ W':Nat->Prop,Fr (λ b=>W0 b\/O b) H H'/\(∀ b,W' b->b<H'.next/\(W0 b\/H.next<=b))/\(R n W' H'\/S W' H')
def lJ (c:Ca) (sv:AV) (line:Int):List (List AV):=if line<0 then [] else (List.range c.ways).map λ k=>[eA sv (c.fr line+k)]
structure KD (R:Nat->(Nat->Prop)->AHeap->Prop) (W0:Nat->Prop) (H1 Hx:AHeap) (i:Nat) (V:Nat->Prop):Prop where
 hR:R i V Hx
 hV:∀ b,V b->b<Hx.next/\(W0 b\/H1.next<=b)
 fr:Fr W0 H1 Hx
theorem qzc {H0:AHeap} {p q b:Nat} {sv:AV} {c:Ca} {lines line:Int} (hc:cD H0 b sv c) (hci:CI lines c) (hp:H0.get p=some (OR [.ptr b 0] yo)) (hq:H0.get q=some (OR [.int .i64 line] eM)) (hpl:p<H0.next) (hql:q<H0.next) :
 nG M EB [] [.ptr p 0,.ptr q 0] (λ x=>x=p\/x=q\/x=b) (λ _=>False) H0 (lJ c sv line):=by
 intro Y R S W0 H1 hnx hN hR0 hW0 loc locS step;obtain ⟨p1,p2,p3⟩:=hN p (.inl (.inl rfl));obtain ⟨q1,q2,q3⟩:=hN q (.inl (.inr (.inl rfl)));obtain ⟨b1,b2,b3⟩:=hN b (.inl (.inr (.inr rfl)))
 suffices h:zq M EB [.fn (.yield Y) [] [],.ptr p 0,.ptr q 0] H1 (LF R S W0 (λ _=>False) H1 (lJ c sv line).length) by
  obtain ⟨v,H',hc,W',q1,q2,q3⟩:=h.elim;exact ⟨v,H',W',hc,q1,q2,q3⟩
 refine qpx ?_;obtain ⟨w0,w6,w12,w18,w27⟩:=qpy M ⟨none,EB⟩;have lp:∀ {Hx:AHeap},Fr W0 H1 Hx->Op.ae [.ptr p 0] Hx=some (.ptr b 0):=λ f=>by rw [xp (qz (by rw [f.ah _ (by omega) p3,p2];exact hp))];rfl
 have lq:∀ {Hx:AHeap},Fr W0 H1 Hx->Op.ae [.ptr q 0] Hx=some (.int .i64 line):=λ f=>by rw [xp (qz (by rw [f.ah _ (by omega) q3,q2];exact hq))];rfl
 have lb:∀ {Hx:AHeap} (k:Nat),Fr W0 H1 Hx->Op.ae [.ptr b k] Hx=(vQ c sv)[k]?:=λ k f=>xp (qz (by rw [f.ah _ (by omega) b3,b2];exact hc.row)) k;have r0:=Fr.refl (W:=W0) H1
 by_cases hl:line<0
 ·simp only [↓qd,qp,aa,reduceIte,reduceEqDiff,w0,lp r0,kv,lq r0,hl];exact ⟨W0,Fr.refl _,λ b hb=>⟨hW0 b hb,.inl hb⟩,.inl (by unfold lJ;rw [ql hl];exact hR0)⟩
 have hsl:(lJ c sv line)=(List.range c.ways).map λ k=>[eA sv (c.fr line+k)]:=by unfold lJ;rw [qg hl]
 rw [hsl] at step ⊢;rw [xu,jq];have l0:Op.ae [.ptr b 0] H1=some (.int .i64 (c.cW:Int)):=lb 0 r0;have l1:Op.ae [.ptr b 1] H1=some (.int .i64 (c.ways:Int)):=lb 1 r0;have rm:Op.bin .rem [.int .i64 line,.int .i64 (c.cW:Int)]=some (.int .i64 ((line.toNat % c.cW:Nat):Int)):=by
  have:=hci.s0;obtain ⟨n,rfl⟩:=jb (Int.not_lt.1 hl);rw [CG .i64 _ _ (by omega)];rfl
 have hmod:line.toNat % c.cW<c.cW:=Nat.mod_lt _ hci.s0;have h8:=hc.s8;have h4:=hc.w4;have hfr:(line.toNat % c.cW)*c.ways<=7*4:=Nat.mul_le_mul (by omega) h4;have wm:ak .i64 (((line.toNat % c.cW:Nat):Int)*(c.ways:Int))=((c.fr line:Nat):Int):=by
  rw [<-Int.natCast_mul];exact xm (by omega) (by omega)
 have hfr':c.fr line<=28:=hfr;simp only [↓qd,qp,aa,reduceIte,reduceEqDiff,w0,lp r0,kv,qi,lq r0,hl,w6,l0,l1,rm,wm];refine aR.intro (λ n E Hx=>∃ (i:Nat) (V:Nat->Prop),E=[(27,.int .i64 (i:Int)),(26,.int .i64 (c.ways:Int)),(4,.int .i64 ((c.fr line:Nat):Int)),(0,.fn (.yield Y) [] []),(1,.ptr p 0)]/\n=c.ways-i/\i<=c.ways/\KD R W0 H1 Hx i V) ?_ ?_
 ·exact ⟨_,_,⟨0,W0,rfl,rfl,xx _,⟨hR0,λ b hb=>⟨hW0 b hb,.inl hb⟩,Fr.refl _⟩⟩,by simp only [↓qd,qp,aa,reduceIte,reduceEqDiff]⟩
 rintro n E Hx ⟨i,V,rfl,rfl,hi,hI⟩;rcases zt i c.ways with hlt|hge
 ·have c1:(i:Int)<(c.ways:Int):=by omega
  have l2:Op.ae [.ptr b 2] Hx=some sv:=lb 2 hI.fr;have wi:ak .i64 (((c.fr line:Nat):Int)+(i:Int))=((c.fr line+i:Nat):Int):=by rw [xm (by omega) (by omega)];omega
  have ix:=hc.ix (hci.gk line hlt);obtain ⟨bb,H2,W2,hr,hf,hW2,ht,hs⟩:=step i [eA sv (c.fr line+i)] (by rw [xg,ku hlt];rfl) V Hx hI.hR hI.hV (hI.fr.mono λ _ _ q=>.inl q);have sR:Fr W0 H1 H2:=hI.fr.trans hf λ b q=>(hI.hV b q).2;have hV2:∀ b,W2 b->b<H2.next/\(W0 b\/H1.next<=b):=λ b q=>⟨(hW2 b q).1,(hW2 b q).2.elim (λ w=>(hI.hV b w).2) λ w=>.inr (xj hI.fr.next w)⟩
  have wj:ak .i64 ((i:Int)+1)=((i+1:Nat):Int):=by rw [xm (by omega) (by omega)];omega
  simp only [↓qd,qp,aa,reduceIte,reduceEqDiff,w12,c1,w18,lp hI.fr,qi,l2,wi,ix];refine C3.B9 hr ?_;cases bb with
  | true =>
   simp only [↓qd,qp,aa,reduceIte,reduceEqDiff,w27,wj];exact ⟨_,_,⟨i+1,W2,rfl,rfl,by omega,⟨ht rfl,hV2,sR⟩⟩,by simp only [↓qd,qp,aa,reduceIte,reduceEqDiff],by omega⟩
  | false =>
   simp only [↓qd,qp,aa,reduceIte,reduceEqDiff];exact ⟨W2,sR.mono λ _ _ q=>.inl q,hV2,.inr (hs rfl)⟩
 ·have c1:¬ (i:Int)<(c.ways:Int):=by omega
  have hiw:i=c.ways:=by omega
  simp only [↓qd,qp,aa,reduceIte,reduceEqDiff,w12,c1];exact ⟨V,hI.fr.mono λ _ _ q=>.inl q,hI.hV,.inl (by rw [<-hiw];exact hI.hR)⟩
theorem q2m {H:AHeap} (b:Nat) (line:Int):zq M qlp [.ptr b 0,.int .i64 line] H λ v H'=>v=.fn (.func EB) [] [.ptr H.next 0,.ptr (H.next+1) 0]/\H'=(H.alloc (OR [.ptr b 0] yo)).alloc (OR [.int .i64 line] eM):=by
 refine qug ?_;obtain ⟨H1,e1⟩:∃ X,X=H.alloc (OR [.ptr b 0] yo):=⟨_,rfl⟩
 have n1:H1.next=H.next+1:=by rw [e1,xd]
 have ca:AV.cells (.ptr b 0)=[.ptr b 0]:=rfl;have cb:AV.cells (.int .i64 line)=[.int .i64 line]:=rfl;have mk:Op.cA EB 0 [.ptr H.next 0,.ptr (H.next+1) 0]=some (.fn (.func EB) [] [.ptr H.next 0,.ptr (H.next+1) 0]):=rfl;simp only [↓qd,qp,aa,reduceIte,reduceEqDiff,quh,ca,cb,<-e1,n1,mk];rfl
structure AtI (c:Ca) (line:Int) (t:Nat) (i:Nat) (V:Nat->Prop) (Hx:AHeap):Prop where
 vt:V t
 g:Hx.get t=some (OR [.nilp] js)
 lt:t<Hx.next
 no:∀ k,k<i->c.iX line k=false
structure AtS (c:Ca) (sv:AV) (line:Int) (t:Nat) (V:Nat->Prop) (Hx:AHeap):Prop where
 vt:V t
 ex:∃ k,k<c.ways/\b9 (c.iX line) c.ways=some k/\Hx.get t=some (OR [eA sv (c.fr line+k)] js)
 lt:t<Hx.next
def qR (c:Ca) (sv:AV) (line:Int):AV:=match c.pos line with
 | none=>.nilp
 | some i=>eA sv i
theorem Qi {H:AHeap} {b:Nat} {sv:AV} {c:Ca} {lines line:Int} (hc:cD H b sv c) (hci:CI lines c):zq M FN [.ptr b 0,.int .i64 line] H λ v H'=>v=qR c sv line/\Fr Em H H':=by
 refine qwb ?_;obtain ⟨w0,wa,wb,w2,w7⟩:=qm9 M ⟨none,FN⟩;obtain ⟨H1,e1⟩:∃ X,X=H.alloc (OR [.int .i64 line] eM):=⟨_,rfl⟩
 obtain ⟨H2,e2⟩:∃ X,X=H1.alloc (OR [.nilp] js):=⟨_,rfl⟩
 have f1:Fr Em H H1:=by rw [e1];exact (Fr.refl H).alloc _
 have f12:Fr Em H1 H2:=by rw [e2];exact (Fr.refl H1).alloc _
 have f2:Fr Em H H2:=f1.trans f12 λ _ q=>q.elim;have n1:H1.next=H.next+1:=by rw [e1,xd]
 have n2:H2.next=H.next+2:=by rw [e2,xd,n1]
 have g1:H2.get H.next=some (OR [.int .i64 line] eM):=by rw [f12.ah _ (by omega) id,e1,qw]
 have g2:H2.get (H.next+1)=some (OR [.nilp] js):=by rw [e2,<-n1,qw]
 have cl:AV.cells (.int .i64 line)=[.int .i64 line]:=rfl;have l1:Op.ae [.ptr H.next 0] H2=some (.int .i64 line):=xp (qz g1) 0;simp only [↓qd,qp,aa,reduceIte,reduceEqDiff,w0,cl,<-e1,<-e2,n1,w2,l1];refine C3.q (q2m (M:=M) b line) λ v H5 ⟨hv,hh⟩=>?_;obtain ⟨H3,e3⟩:∃ X,X=H2.alloc (OR [.ptr b 0] yo):=⟨_,rfl⟩
 obtain ⟨H4,e4⟩:∃ X,X=H3.alloc (OR [.int .i64 line] eM):=⟨_,rfl⟩
 rw [<-e3,<-e4] at hh;rw [hv,hh];have f23:Fr Em H2 H3:=by rw [e3];exact (Fr.refl H2).alloc _
 have f34:Fr Em H3 H4:=by rw [e4];exact (Fr.refl H3).alloc _
 have f24:Fr Em H2 H4:=f23.trans f34 λ _ q=>q.elim;have f4:Fr Em H H4:=f2.trans f24 λ _ q=>q.elim;have n3:H3.next=H.next+3:=by rw [e3,xd,n2]
 have n4:H4.next=H.next+4:=by rw [e4,xd,n3]
 have g3:H4.get H2.next=some (OR [.ptr b 0] yo):=by rw [f34.ah _ (by omega) id,e3,qw]
 have g4:H4.get (H2.next+1)=some (OR [.int .i64 line] eM):=by rw [show H2.next+1=H3.next by omega,e4,qw]
 have hc4:=hc.em f4;have hlt:=hc.lt;have hsb:aF sv<H.next:=hc.sl.lt
 have kp:∀ {Hx:AHeap},Fr (λ x=>(x=H.next+1)\/False) H4 Hx->cD Hx b sv c/\Op.ae [.ptr H.next 0] Hx=some (.int .i64 line):=λ f =>
  ⟨hc4.fr f (λ q=>q.elim (λ q=>by omega) id) (λ q=>q.elim (λ q=>by omega) id),xp (qz (by rw [f.ah H.next (by omega) (λ q=>q.elim (λ q=>by omega) id),f24.ah _ (by omega) id];exact g1)) 0⟩
 have res:∀ {d:Nat} {Hx:AHeap} {x:AV},Hx.get (H.next+1)=some (OR [x] js)->d ≠ H.next+1->Op.ae [.ptr (H.next+1) 0] (Hx.set d (.deferred none))=some x:=λ g hd=>by
  rw [xp (qz (by rw [yb hd];exact g))];rfl
 refine gN.iter (fn:=Ln) (lp:=G1) (pa:=NH 0) (pb:=Mn 0) quf qkx.1 qkx.2 (by decide) qsz qs0
  (qzc (M:=M) hc4 hci g3 g4 (by omega) (by omega)) (λ i V Hx=>AtI c line (H.next+1) i V Hx) (λ e V Hx=>e=.ret/\AtS c sv line (H.next+1) V Hx) (λ x=>x=H.next+1) (qf _) ?_ ?_ ?_ ?_ ?_ ?_ ?_ ?_
 ·rintro x ((q|q|q) | q)
  ·exact ⟨by omega,rfl,by omega⟩
  ·exact ⟨by omega,rfl,by omega⟩
  ·exact ⟨by omega,rfl,by omega⟩
  ·exact q.elim
 ·exact λ x hx=>by omega
 ·exact ⟨rfl,by rw [f24.ah _ (by omega) id];exact g2,by omega,λ k hk=>by omega⟩
 ·exact λ i V Ha Hb h hs hn=>⟨h.vt,by rw [hs _ h.vt];exact h.g,qk h.lt hn,h.no⟩
 ·rintro e V Ha Hb ⟨he,h⟩ hs hn;obtain ⟨k,k1,k2,k3⟩:=h.ex;exact ⟨he,h.vt,⟨k,k1,k2,by rw [hs _ h.vt];exact k3⟩,qk h.lt hn⟩
 ·intro L2 i lr lb x hx hL2 V H6 hP hV hf6 hnL hL6 hgL;unfold lJ at hx;split at hx
  ·simp at hx
  rename_i hl;rw [xg,xe] at hx;obtain ⟨y,hy,rfl⟩:=hx;have hiw:i<c.ways:=by have:=(qe.1 hy).1;rw [jq] at this;exact this
  rw [ku hiw] at hy;injection hy with hy;subst hy
  refine ⟨_,rfl,?_⟩;obtain ⟨-,wa,wb,-⟩:=qm9 M ⟨some L2,FN⟩;simp only [↓qd,qp,aa,reduceIte,reduceEqDiff,wa,EK];refine ⟨hgL,?_⟩;have fx:Fr (On L2) H6 (H6.set L2 lb):=(Fr.refl H6).set (W:=On L2) (.inl rfl) _;have gL:(H6.set L2 lb).get L2=some lb:=xb ..;have nL:(H6.set L2 lb).next=H6.next:=rfl
  obtain ⟨hc6,lq6⟩:=kp hf6;have h7:cD (H6.set L2 lb) b sv c:=hc6.fr fx (λ (q:b=L2)=>by omega) (λ (q:aF sv=L2)=>by omega);have lq7:Op.ae [.ptr H.next 0] (H6.set L2 lb)=some (.int .i64 line):=by
   have hg:(H6.set L2 lb).get H.next=H6.get H.next:=by rw [yb (by omega)]
   exact xp (qz (by rw [hg,hf6.ah H.next (by omega) (λ q=>q.elim (λ q=>by omega) id),f24.ah _ (by omega) id];exact g1)) 0
  have hLt:L2 ≠ H.next+1:=λ q=>hnL (by rw [q];exact hP.vt)
  have hgt:(H6.set L2 lb).get (H.next+1)=some (OR [.nilp] js):=by rw [yb hLt];exact hP.g
  generalize H6.set L2 lb=H7 at *;have hi:=hci.gk line hiw;obtain ⟨e,he⟩:∃ e,e=c.en (c.fr line+i):=⟨_,rfl⟩
  have l0:Op.ae [.ptr (aF sv) (bI 21 sv (c.fr line+i))] H7=some (.int .i64 e.line):=by rw [he];exact h7.BS hi
  have l1:Op.ae [.ptr (aF sv) (bI 21 sv (c.fr line+i)+1)] H7=some (.int .i64 e.st):=by rw [he];exact h7.ld hi (k:=1) (by decide)
  have hhit:c.iX line i=(e.st != 0 && e.line == line):=by rw [he];rfl
  have stay:c.iX line i=false->IE (λ V Hx=>AtI c line (H.next+1) (i+1) V Hx) (λ e V Hx=>e=.ret/\AtS c sv line (H.next+1) V Hx) L2 lb V H6 .normal [] [] H7:=λ hh =>
   ⟨rfl,gL,V,λ b hb=>⟨by rw [nL];exact (hV b hb).1,.inl hb⟩,fx.mono λ x _ q=>.inr q,.inl ⟨rfl,hP.vt,hgt,by rw [nL];exact hP.lt,λ k hk=>by
    by_cases q:k=i
    ·rw [q];exact hh
    ·exact hP.no k (by omega)⟩⟩
  by_cases q1:e.st=0
  ·simp only [↓qd,qp,aa,reduceIte,reduceEqDiff,wb,qi,l1,xc q1];exact stay (by rw [hhit,q1];rfl)
  by_cases q2:e.line=line
  ·have st:=tj hgt (u:=eA sv (c.fr line+i)) rfl;simp only [↓qd,qp,aa,reduceIte,reduceEqDiff,wb,qi,l1,q1,l0,lq7,xc q2,st];refine ⟨rfl,?_,V,?_,?_,.inr ⟨trivial,rfl,hP.vt,⟨i,hiw,GC hiw (by rw [hhit];simp [q1,q2]) hP.no,xb ..⟩,?_⟩⟩
   ·rw [yb (yt hLt)];exact gL
   ·exact λ b hb=>⟨by show b<H7.next;rw [nL];exact (hV b hb).1,.inl hb⟩
   ·exact (fx.mono λ x _ q=>.inr q).set (.inl (.inl hP.vt)) _
   ·show H.next+1<H7.next;rw [nL];exact hP.lt
  ·simp only [↓qd,qp,aa,reduceIte,reduceEqDiff,wb,qi,l1,q1,l0,lq7,q2];exact stay (by rw [hhit];simp [q2])
 ·intro d V Hd hd1 hd2 hgd hfd hVd hP;have st:=tj hP.g (u:=.nilp) rfl;have hdt:d ≠ H.next+1:=λ q=>by have:=(hVd _ hP.vt).2.2;omega
  have gd:(Hd.set (H.next+1) (OR [.nilp] js)).get d=some (.deferred (some [])):=by rw [yb (yt hdt)];exact hgd
  have rd:=res (d:=d) (xb Hd (H.next+1) (OR [.nilp] js)) hdt;have hpos:c.pos line=none:=by
   unfold Ca.pos;split
   ·rfl
   ·rename_i hl;have hno:=hP.no;unfold lJ at hno;rw [qg hl,xu,jq] at hno;rw [Eg hno];rfl
  simp only [↓qd,qp,aa,reduceIte,reduceEqDiff,w7,st,zX,rd];refine ⟨gd,?_,?_⟩
  ·unfold qR;rw [hpos]
  ·exact (((f4.trans (W':=λ x=>x=H.next+1\/False) hfd λ x q=>q.elim (λ q=>.inr (by omega)) False.elim).set (.inr (by omega)) _).set (.inr (by omega)) _)
 ·rintro e d V Hd hj hd1 hd2 hgd hfd hVd ⟨he,hS⟩;subst he;obtain ⟨k,k1,k2,k3⟩:=hS.ex;have hdt:d ≠ H.next+1:=λ q=>by have:=(hVd _ hS.vt).2.2;omega
  have rd:=res (d:=d) k3 hdt;have hpos:qR c sv line=eA sv (c.fr line+k):=by
   unfold qR Ca.pos
   by_cases hl:line<0
   ·exfalso;obtain ⟨q1,q2,-⟩:=E7 k2;unfold Ca.iX at q2;simp only [xh,bne_iff_ne,ne_eq,AN] at q2;have:=(hci.ok _ (hci.gk line k1) q2.1).2.1;omega
   ·rw [qg hl,k2];rfl
  simp only [↓qd,qp,aa,reduceIte,reduceEqDiff,zX,rd];refine ⟨hgd,hpos.symm,?_⟩;exact ((f4.trans (W':=λ x=>x=H.next+1\/False) hfd λ x q=>q.elim (λ q=>.inr (by omega)) False.elim).set (.inr (by omega)) _)
end Go.Am
namespace Go.Am
open Go.Proofs Ca
variable {M:aA} [MK M]
theorem iH {H:AHeap} {b e n:Nat} {l x:List AV} (h:H.get b=some (OR l e)) (hl:l.length=n) (hx:x.length=n) (h1:aO x=true):Op.store n [.ptr b 0,.agg x] H=some (.undef,H.set b (OR x e)):=by
 have st:=oS h (o:=0) (n:=n) (v:=.agg x) (by rw [xk];exact hx) (by omega) (by rw [xk];exact h1);rw [st,xk,BW,zn,jh (by omega),xt]
theorem fU {H:AHeap} {b e n:Nat} {l:List AV} (h:H.get b=some (OR l e)) (hl:l.length=n):Op.aG n [.ptr b 0] H=some (.agg l):=by
 rw [Ac (qz h) (by omega),GP,zj (by omega)]
theorem Br (l:List AV):Op.build l [] []=some (.agg l):=rfl
theorem eZ:[AV.int .i64 0,.int .i64 0,.bool false,.bool false,.int .u64 0,.int .u64 0,.int .u64 0,.int .u64 0,.int .u64 0,.int .u64 0,.int .u64 0,.int .u64 0,.int .u64 0,.int .u64 0,.int .u64 0,.int .u64 0,.int .u64 0,.int .u64 0,.int .u64 0,.int .u64 0,.int .i64 0]=ao .zero:=rfl
abbrev cJ (d:L8):List AV:=d.l.map uW
theorem vf (d:L8):(cJ d).length=8:=by simp [cJ,d.h]
theorem tq (d:L8):aO (cJ d)=true:=by rw [oQ];simp [cJ,aT]
theorem lZ:[AV.int .u64 0,.int .u64 0,.int .u64 0,.int .u64 0,.int .u64 0,.int .u64 0,.int .u64 0,.int .u64 0]=cJ .zero:=rfl
def jB (b:Nat) (sv:AV):Nat->Prop:=λ x=>x=b\/x=aF sv
section
variable {H:AHeap} {b:Nat} {sv:AV} {c:Ca} {lines line:Int}
theorem cD.set (h:cD H b sv c) {i:Nat} {e:En} {H':AHeap} (hs:dR ao qr 21 H' sv (c.sl.set i e)) (f:Fr (On (aF sv)) H H'):cD H' b sv (c.set i e) :=
 ⟨by rw [f.ah _ h.lt (λ q:b=aF sv=>h.ne q.symm)];exact h.row,qk h.lt f.next,hs,h.ne,h.s8,h.w4,h.us⟩
theorem cD.bS (h:cD H b sv c) {i:Nat} (hi:i<c.sl.length) {j:Nat} (hj:j<21) {u:AV} (hu:aT u=true) {e:En} (he:ao e=(ao (c.en i)).set j u):∃ H',Op.store 1 [.ptr (aF sv) (bI 21 sv i+j),u] H=some (.undef,H')/\cD H' b sv (c.set i e)/\Fr (On (aF sv)) H H':=by
 obtain ⟨H',a1,a2,a3⟩:=h.sl.A8 zd (rO hi) hj hu he;exact ⟨H',a1,h.set a2 a3,a3⟩
theorem cD.LJ (h:cD H b sv c) {i:Nat} (hi:i<c.sl.length) {j n:Nat} {u:AV} (hu:u.cells.length=n) (ho:aO u.cells=true) (hj:j+n<=21) {e:En} (he:ao e=(ao (c.en i)).take j++u.cells++(ao (c.en i)).drop (j+n)):∃ H',Op.store n [.ptr (aF sv) (bI 21 sv i+j),u] H=some (.undef,H')/\cD H' b sv (c.set i e)/\Fr (On (aF sv)) H H':=by
 obtain ⟨H',a1,a2,a3⟩:=h.sl.r9 zd (rO hi) hu ho hj he;exact ⟨H',a1,h.set a2 a3,a3⟩
theorem cD.stE (h:cD H b sv c) {i:Nat} (hi:i<c.sl.length) (e:En):∃ H',Op.store 21 [.ptr (aF sv) (bI 21 sv i),.agg (ao e)] H=some (.undef,H')/\cD H' b sv (c.set i e)/\Fr (On (aF sv)) H H':=by
 obtain ⟨H',a1,a2,a3⟩:=h.sl.wW zd oH (rO hi) e;exact ⟨H',a1,h.set a2 a3,a3⟩
theorem cD.stU (h:cD H b sv c) {u:Int} (hu:0<=u/\u<=1000000):∃ H',Op.store 1 [.ptr b 3,.int .i64 u] H=some (.undef,H')/\cD H' b sv { c with us:=u }/\Fr (On b) H H':=by
 have st:=oS h.row (o:=3) (n:=1) (v:=.int .i64 u) rfl (by simp [vQ]) rfl;have e:(vQ c sv).take 3++(AV.int .i64 u).cells++(vQ c sv).drop (3+1)=vQ { c with us:=u } sv:=rfl;rw [e] at st;have f:Fr (On b) H (H.set b (OR (vQ { c with us:=u } sv) J1)):=(Fr.refl H).set (W:=On b) (.inl rfl) _;exact ⟨_,st,⟨xb ..,h.lt,h.sl.fr f λ (q:aF sv=b)=>h.ne q,h.ne,h.s8,h.w4,hu⟩,f⟩
theorem cD.Ko (h:cD H b sv c) (k:Nat):Op.ae [.ptr b k] H=(vQ c sv)[k]?:=xp (qz h.row) k
theorem cD.KS (h:cD H b sv c) {i:Nat} (hi:i<c.sl.length):Op.aG 21 [.ptr (aF sv) (bI 21 sv i)] H=some (.agg (ao (c.en i))):=(h.sl.sl zd).aG zd (by decide) (rO hi)
theorem cD.cells (h:cD H b sv c) {i:Nat} (hi:i<c.sl.length) {j n:Nat} (hj:j+n<=21):Op.aG n [.ptr (aF sv) (bI 21 sv i+j)] H=some (.agg (((ao (c.en i)).drop j).take n)):=by
 obtain ⟨sb,e,h1,h2⟩:=h.sl;have hb:aF sv=sb:=by rw [e];rfl
 have ho:bI 21 sv i=i*21:=by rw [e];simp [bI]
 have hb2:(i+1)*21<=c.sl.length*21:=jl _ hi;have hl:=zV zd c.sl;rw [hb,ho,Ac (qz h2) (by omega)];have hm:=qys (L:=c.sl.flatMap ao) (E:=ao (c.en i)) (p:=i*21) (size:=21) (zd _) (by omega) (λ r hr=>Fc zd c.sl (rO hi) hr);have hA:((c.sl.flatMap ao).take (i*21)).length=i*21:=by rw [ja];omega
 have e1:(c.sl.flatMap ao).drop (i*21+j)=(ao (c.en i)).drop j++(c.sl.flatMap ao).drop (i*21+21):=by
  conv=>lhs;rw [hm]
  rw [yp,hA,jh (by omega),zn,kt,kn (by rw [zd];omega)]
 rw [e1,jv (by rw [ju,zd];omega)]
theorem cD.ldD (h:cD H b sv c) {i:Nat} (hi:i<c.sl.length):Op.aG 8 [.ptr (aF sv) (bI 21 sv i+4)] H=some (.agg (cJ (c.en i).d)):=by
 rw [h.cells hi (by decide)];have:((ao (c.en i)).drop 4).take 8=cJ (c.en i).d:=by
  show ((cJ (c.en i).d++(cJ (c.en i).o ++ [AV.int .i64 (c.en i).u]))).take 8=_;rw [List.take_left' (vf _)]
 rw [this]
theorem cD.ldO (h:cD H b sv c) {i:Nat} (hi:i<c.sl.length):Op.aG 8 [.ptr (aF sv) (bI 21 sv i+12)] H=some (.agg (cJ (c.en i).o)):=by
 rw [h.cells hi (by decide)];have:((ao (c.en i)).drop 12).take 8=cJ (c.en i).o:=by
  have e:(ao (c.en i)).drop 12=(cJ (c.en i).d++(cJ (c.en i).o ++ [AV.int .i64 (c.en i).u])).drop 8:=rfl;rw [e,List.drop_left' (vf _),List.take_left' (vf _)]
 rw [this]
def B0 (c:Ca) (sv:AV) (line st:Int):AV:=match c.gq line st with
 | none=>.tuple [.nilp,.int .i64 20]
 | some i=>.tuple [eA sv i,.int .i64 0]
theorem Es (hc:cD H b sv c) (hci:CI lines c) (line st:Int):zq M Po [.ptr b 0,.int .i64 line,.int .i64 st] H λ v H'=>v=B0 c sv line st/\Fr Em H H':=by
 refine qwc ?_;obtain ⟨w0,w2,w10,w12,w20⟩:=qwd M ⟨none,Po⟩;simp only [↓qd,qp,aa,reduceIte,reduceEqDiff,w0,w2,kv,w10];refine C3.q (Qi (M:=M) (line:=line) hc hci) λ v H1 ⟨hv,f1⟩=>?_;rw [hv];unfold qR B0 gq;cases hp:c.pos line with
 | none =>
  simp only [↓qd,qp,aa,reduceIte,reduceEqDiff,w12,Kd];exact f1
 | some i =>
  obtain ⟨-,hi,-⟩:=hci.aN hp;have l1:Op.ae [.ptr (aF sv) (bI 21 sv i+1)] H1=some (.int .i64 (c.en i).st):=(hc.em f1).ld hi (by decide)
  by_cases h0:st=0
  ·subst h0;simp only [↓qd,qp,aa,reduceIte,reduceEqDiff,w12,kv,w20];exact f1
  by_cases h1:(c.en i).st=st
  ·simp only [↓qd,qp,aa,reduceIte,reduceEqDiff,w12,kv,h0,qi,l1,xc h1,w20];exact f1
  ·simp only [↓qd,qp,aa,reduceIte,reduceEqDiff,w12,kv,h0,qi,l1,h1];exact f1
abbrev CaQ (H:AHeap) (b:Nat) (sv:AV) (c':Ca) (r:AV):AV->AHeap->Prop:=λ v H'=>v=r/\cD H' b sv c'/\Fr (jB b sv) H H'
theorem pM {H1 H2:AHeap} (f:Fr (On (aF sv)) H1 H2):Fr (jB b sv) H1 H2:=f.mono λ _ _ q=>.inr q
theorem frB {H1 H2:AHeap} (f:Fr (On b) H1 H2):Fr (jB b sv) H1 H2:=f.mono λ _ _ q=>.inl q
theorem ng {H1 H2:AHeap} (f:Fr Em H1 H2):Fr (jB b sv) H1 H2:=f.mono λ _ _ q=>q.elim
theorem pJ {H1 H2 H3:AHeap} (f:Fr (jB b sv) H1 H2) (g:Fr (jB b sv) H2 H3):Fr (jB b sv) H1 H3:=f.trans g λ _ q=>.inl q
theorem Pt (hc:cD H b sv c) (hu:c.us+1<=1000000) {i:Nat} (hi:i<c.sl.length):zq M qlq [.ptr b 0,eA sv i] H λ _ H'=>cD H' b sv (c.use i)/\Fr (jB b sv) H H':=by
 refine qui ?_;have l3:Op.ae [.ptr b 3] H=some (.int .i64 c.us):=hc.Ko 3;have:=hc.us;have w1:ak .i64 (c.us+1)=c.us+1:=xm (by omega) (by omega);obtain ⟨H1,s1,h1,f1⟩:=hc.stU (u:=c.us+1) (by omega);have l3':Op.ae [.ptr b 3] H1=some (.int .i64 (c.us+1)):=h1.Ko 3;obtain ⟨H2,s2,h2,f2⟩:=h1.bS hi (j:=20) (by decide) (u:=.int .i64 (c.us+1)) rfl (e:={ c.en i with u:=c.us+1 }) (by
  show ao { c.en i with u:=c.us+1 } = (ao (c.en i)).set 20 _;obtain ⟨line,st,r,w,⟨d,hd⟩,⟨o,ho⟩,u⟩:=c.en i
  match d,hd,o,ho with
  | [d0,d1,d2,d3,d4,d5,d6,d7],_,[o0,o1,o2,o3,o4,o5,o6,o7],_=>rfl)
 simp only [↓qd,qp,aa,reduceIte,reduceEqDiff,quj,qi,l3,w1,s1,l3',s2];exact ⟨h2,pJ (frB f1) (pM f2)⟩
def nJ (c:Ca) (line:Int):AV:=match c.find line with
 | none=>.tuple [.agg (ao .zero),.bool false]
 | some e=>.tuple [.agg (ao e),.bool true]
theorem Ki (hc:cD H b sv c) (hci:CI lines c) (line:Int):zq M Py [.ptr b 0,.int .i64 line] H λ v H'=>v=nJ c line/\Fr Em H H':=by
 refine qst ?_;obtain ⟨w0,w4,w12⟩:=qsu M ⟨none,Py⟩;obtain ⟨H1,e1⟩:∃ X,X=H.alloc (OR (ao .zero) qr):=⟨_,rfl⟩
 have f1:Fr Em H H1:=by rw [e1];exact (Fr.refl H).alloc _
 have n1:H1.next=H.next+1:=by rw [e1,xd]
 have g1:H1.get H.next=some (OR (ao .zero) qr):=by rw [e1,qw]
 simp only [↓qd,qp,aa,reduceIte,reduceEqDiff,w0,eZ,<-e1];refine C3.q (Qi (M:=M) (line:=line) (hc.em f1) hci) λ v H2 ⟨hv,f2⟩=>?_;rw [hv];have g2:H2.get H.next=some (OR (ao .zero) qr):=by rw [f2.ah _ (by omega) id];exact g1
 have f12:Fr Em H H2:=f1.trans f2 λ _ q=>q.elim;unfold qR nJ Ca.find;cases hp:c.pos line with
 | none =>
  have st:=iH g2 (zd _) (zd .zero) (oH _);have ld:=fU (xb H2 H.next (OR (ao .zero) qr)) (zd _);simp only [↓qd,qp,aa,reduceIte,reduceEqDiff,w4,Kd,eZ,Br,st,ld];exact ⟨rfl,f12.set (.inr (qf _)) _⟩
 | some i =>
  obtain ⟨-,hi,-⟩:=hci.aN hp;have le:=(hc.em f12).KS hi;have st:=iH g2 (zd _) (zd (c.en i)) (oH _);have ld:=fU (xb H2 H.next (OR (ao (c.en i)) qr)) (zd _);simp only [↓qd,qp,aa,reduceIte,reduceEqDiff,w4,kv,w12,qi,le,st,ld];exact ⟨rfl,f12.set (.inr (qf _)) _⟩
end
end Go.Am
