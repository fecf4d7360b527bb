/- NmQ5: SrG NhA NhB. -/
import Derived.Test.YtiibohocdbaekaaAmQNmQ4
import Derived.Test.YtiibohocdbaekaaAmQNmQ0
set_option linter.unusedVariables false
set_option linter.unusedSimpArgs false
set_option linter.unusedSectionVars false
set_option maxRecDepth 100000
namespace Go.Am
open Go.Proofs
variable {M:Mac} [MK M]
abbrev N_pdq:Nat:=xz
abbrev PdqQ (H:AHeap) (v:AV) (xs:List En) (a b:Nat):AV->AHeap->Prop:=fun _ H'=>∃ ys,Dt H' v ys/\Fr (OnS v) H H'/\RP a b xs ys/\Ord En.line a b ys
def LB (a b:Nat) (ys:List En):Prop:=∀ z,0<a->ys[a-1]? = some z -> ∀ (k:Nat) (x:En),a<=k->k<b->ys[k]? = some x->z.line<=x.line
theorem LB.rp {a b:Nat} {ys zs:List En} (h:LB a b ys) (hr:RP a b ys zs):LB a b zs:=fun z h0 hz=>by
 rw [hr.out (by omega)] at hz
 exact hr.all (P:=fun x=>z.line<=x.line) (h z h0 hz)
structure PdqS (H:AHeap) (v:AV) (xs:List En) (a b c d:Nat) (Hc:AHeap) (ys:List En):Prop where
 ha:a<=c
 ab:c<=d
 hb:d<=b
 dt:Dt Hc v ys
 f:Fr (OnS v) H Hc
 r:RP a b xs ys
 o:OrdX En.line a b c d ys
 lb:LB c d ys
section
variable {H:AHeap} {v:AV} {xs:List En} {a b c d:Nat} {Hc:AHeap} {ys:List En}
theorem PdqS.rp (h:PdqS H v xs a b c d Hc ys) {H':AHeap} {zs:List En} (hr:RP c d ys zs) (hd:Dt H' v zs) (hf:Fr (OnS v) Hc H'):PdqS H v xs a b c d H' zs :=
 ⟨h.ha,h.ab,h.hb,hd,h.f.trans hf fun _ q=>.inl q,h.r.trans (hr.mono h.ha h.hb),h.o.rp h.ha h.hb hr,h.lb.rp hr⟩
theorem PdqS.fin (h:PdqS H v xs a b c d Hc ys) (ho:Ord En.line c d ys) {r:AV}:PdqQ H v xs a b r Hc:=⟨ys,h.dt,h.f,h.r,h.o.done ho⟩
def PdqI (H:AHeap) (v:AV) (xs:List En) (a b:Nat) (k:Nat) (E':Env) (Hc:AHeap):Prop:=∃ (c d lim:Nat) (q1 q2:Bool) (ys:List En),E'=[(11,.bool q2),(10,.bool q1),(0,v),(1,.int .i64 (c:Int)),(2,.int .i64 (d:Int)),(3,.int .i64 (lim:Int)),(4,cmpE)]/\k=d+1-c/\lim<=64/\PdqS H v xs a b c d Hc ys
abbrev PdqK (M:Mac) (H:AHeap) (v:AV) (xs:List En) (a b n:Nat):Post3:=BLK3 1 (LQ3 (PdqI H v xs a b) [] n (BLK3 0 (FIN3 M [] (RT3 (PdqQ H v xs a b)))))
def PdqR (M:Mac) (n:Nat):Prop:=∀ {H:AHeap} {v:AV} {xs:List En} {a b lim:Nat},Dt H v xs->b-a<n->a<=b->b<=xs.length->xs.length<=40->lim<=64->LB a b xs->yf M N_pdq [v,.int .i64 (a:Int),.int .i64 (b:Int),.int .i64 (lim:Int),cmpE] H (PdqQ H v xs a b)
theorem pdq_p69 {n k:Nat} (ih:PdqR M n) (h:PdqS H v xs a b c d Hc ys) (hn:d-c<=n) (hk:d+1-c=k) (hb:b<=xs.length) (hl:xs.length<=40) {lim mid:Nat} (hlim:lim<=64) {zs:List En} {Hd:AHeap} (hp:Part c d mid ys zs) (hdz:Dt Hd v zs) (hfz:Fr (OnS v) Hc Hd) {q2:Bool}
 {E:Env} (h0:lk E 0=some v) (h1:lk E 1=some (.int .i64 (c:Int))) (h2:lk E 2=some (.int .i64 (d:Int))) (h3:lk E 3=some (.int .i64 (lim:Int))) (h4:lk E 4=some cmpE) (h11:lk E 11=some (.bool q2)) (h12:lk E 12=some (.int .i64 ((d-c:Nat):Int))) (h16:lk E 16=some (.int .i64 (mid:Int))) :
 W M ⟨none,N_pdq⟩ (qg 69) true (PdqK M H v xs a b k) E [] Hd:=by
 obtain ⟨-,-,-,-,-,-,-,-,-,-,w69,w73⟩:=vf M ⟨none,xz⟩
 have hz:=h.rp hp.rp hdz hfz
 have m1:=hp.m1;have m2:=hp.m2
 have g1:=h.ha;have g2:=h.hb
 have hzl:zs.length=xs.length:=hz.r.len
 have u1:wrapI .i64 ((mid:Int)-(c:Int))=((mid-c:Nat):Int):=by rw [xr (by omega) (by omega)];omega
 have u2:wrapI .i64 ((d:Int)-(mid:Int))=((d-mid:Nat):Int):=by rw [xr (by omega) (by omega)];omega
 have u3:wrapI .i64 ((mid:Int)+1)=((mid+1:Nat):Int):=by rw [xr (by omega) (by omega)];omega
 have dv:Op.bin .quo [.int .i64 ((d-c:Nat):Int),.int .i64 8]=some (.int .i64 (((d-c) / 8:Nat):Int)):=by
  rw [o_quo .i64 _ _ (by decide),qbu (by omega),xr (by omega) (by omega)];rfl
 obtain ⟨w,hw⟩:∃ w,zs[mid]? = some w:=⟨zs[mid]'(by omega),by simp⟩
 have lo:=fun k z k1 k2 hz=>hp.lo k z w k1 k2 hz hw
 have hi:=fun k z k1 k2 hz=>hp.hi k z w k1 k2 hz hw
 by_cases q:((mid-c:Nat):Int)<((d-mid:Nat):Int)
 ·simp only [↓qj,xh,reduceIte,Nat.reduceEqDiff,w69,h16,h1,h2,h12,u1,u2,dv,w73,h0,h3,h4,q]
  have lb1:LB c mid zs:=fun z z0 hz0 k x k1 k2 hx=>hz.lb z z0 hz0 k x k1 (by omega) hx
  refine C3.q (ih hdz (by omega) m1 (by omega) (by omega) hlim lb1) fun _ He ⟨ws,hdw,hfw,hrw,how⟩=>?_
  simp only [↓qj,xh,reduceIte,Nat.reduceEqDiff,h16,u3]
  have hw':ws[mid]? = some w:=by rw [hrw.out (.inr (qe _))];exact hw
  have lo':∀ (k:Nat) (x:En),c<=k->k<mid->ws[k]? = some x->x.line<w.line:=hrw.all (P:=fun x=>x.line<w.line) lo
  have hi':∀ (k:Nat) (x:En),mid<k->k<d->ws[k]? = some x->w.line<=x.line:=fun k x k1 k2 hx=>hi k x k1 k2 (by rw [<-hrw.out (by omega)];exact hx)
  have hz2:=hz.rp (hrw.mono (qe _) (by omega)) hdw hfw
  refine ⟨_,_,⟨mid+1,d,lim,decide ((((d-c) / 8:Nat):Int)<=((mid-c:Nat):Int)),q2,ws,rfl,rfl,hlim,⟨by omega,by omega,g2,hdw,hz2.f,hz2.r,?_,?_⟩⟩,by simp only [↓qj,xh,reduceIte,Nat.reduceEqDiff,h11,h0,h2,h3,h4],by omega⟩
  ·intro i j x y k1 k2 k3 k4 hx hy
   by_cases e:i<c\/d<=j
   ·exact hz2.o i j x y k1 k2 k3 e hx hy
   ·by_cases e1:j<mid
    ·exact how i j x y (by omega) k2 e1 hx hy
    ·by_cases e2:j=mid
     ·subst e2;rw [hw'] at hy;injection hy with hy;subst hy
      have:=lo' i x (by omega) k2 hx;omega
     ·have a1:=hi' j y (by omega) (by omega) hy
      by_cases e3:i=mid
      ·subst e3;rw [hw'] at hx;injection hx with hx;subst hx;exact a1
      ·have:=lo' i x (by omega) (by omega) hx;omega
  ·intro z z0 hz0 k x k1 k2 hx
   rw [Nat.add_sub_cancel,hw'] at hz0;injection hz0 with hz0;subst hz0
   exact hi' k x (by omega) k2 hx
 ·simp only [↓qj,xh,reduceIte,Nat.reduceEqDiff,w69,h16,h1,h2,h12,u1,u2,dv,w73,h0,h3,h4,q,u3]
  have lb1:LB (mid+1) d zs:=fun z z0 hz0 k x k1 k2 hx=>by
   rw [Nat.add_sub_cancel,hw] at hz0;injection hz0 with hz0;subst hz0
   exact hi k x (by omega) k2 hx
  refine C3.q (ih hdz (by omega) (by omega) (by omega) (by omega) hlim lb1) fun _ He ⟨ws,hdw,hfw,hrw,how⟩=>?_
  simp only [↓qj,xh,reduceIte,Nat.reduceEqDiff,h16]
  have hw':ws[mid]? = some w:=by rw [hrw.out (.inl (by omega))];exact hw
  have lo':∀ (k:Nat) (x:En),c<=k->k<mid->ws[k]? = some x->x.line<w.line:=fun k x k1 k2 hx=>lo k x k1 k2 (by rw [<-hrw.out (by omega)];exact hx)
  have hi':∀ (k:Nat) (x:En),mid+1<=k->k<d->ws[k]? = some x->w.line<=x.line:=hrw.all (P:=fun x=>w.line<=x.line) fun k x k1 k2 hx=>hi k x (by omega) k2 hx
  have hz2:=hz.rp (hrw.mono (by omega) (qe _)) hdw hfw
  refine ⟨_,_,⟨c,mid,lim,decide ((((d-c) / 8:Nat):Int)<=((d-mid:Nat):Int)),q2,ws,rfl,rfl,hlim,⟨g1,m1,by omega,hdw,hz2.f,hz2.r,?_,?_⟩⟩,by simp only [↓qj,xh,reduceIte,Nat.reduceEqDiff,h11,h0,h1,h3,h4],by omega⟩
  ·intro i j x y k1 k2 k3 k4 hx hy
   by_cases e:i<c\/d<=j
   ·exact hz2.o i j x y k1 k2 k3 e hx hy
   ·by_cases e1:mid<i
    ·exact how i j x y (by omega) k2 (by omega) hx hy
    ·by_cases e2:j=mid
     ·subst e2;rw [hw'] at hy;injection hy with hy;subst hy
      have:=lo' i x (by omega) k2 hx;omega
     ·have a1:=hi' j y (by omega) (by omega) hy
      by_cases e3:i=mid
      ·subst e3;rw [hw'] at hx;injection hx with hx;subst hx;exact a1
      ·have:=lo' i x (by omega) (by omega) hx;omega
  ·exact fun z z0 hz0 k x k1 k2 hx=>hz2.lb z z0 hz0 k x k1 (by omega) hx
theorem pdq_p55 {n k:Nat} (ih:PdqR M n) (h:PdqS H v xs a b c d Hc ys) (hn:d-c<=n) (hk:d+1-c=k) (hcd:c+8<=d) (hb:b<=xs.length) (hl:xs.length<=40) {lim p:Nat} (hlim:lim<=64) (hp1:c<=p) (hp2:p<d) {q1 q2:Bool}
 {E:Env} (h0:lk E 0=some v) (h1:lk E 1=some (.int .i64 (c:Int))) (h2:lk E 2=some (.int .i64 (d:Int))) (h3:lk E 3=some (.int .i64 (lim:Int))) (h4:lk E 4=some cmpE) (h10:lk E 10=some (.bool q1)) (h11:lk E 11=some (.bool q2)) (h12:lk E 12=some (.int .i64 ((d-c:Nat):Int))) (h13:lk E 13=some (.int .i64 (p:Int))) :
 W M ⟨none,N_pdq⟩ (qg 55) true (PdqK M H v xs a b k) E [] Hc:=by
 obtain ⟨-,-,-,-,-,-,-,-,w55,w65,-,-⟩:=vf M ⟨none,xz⟩
 have g1:=h.ha;have g2:=h.hb
 have hyl:ys.length=xs.length:=h.r.len
 -- parted by the pivot
 have part:∀ {Hd:AHeap},PdqS H v xs a b c d Hd ys->W M ⟨none,N_pdq⟩ (qg 65) true (PdqK M H v xs a b k) E [] Hd:=by
  intro Hd hs
  simp only [↓qj,xh,reduceIte,Nat.reduceEqDiff,w65,h0,h1,h2,h13,h4]
  refine C3.q (qv3 (M:=M) hs.dt (by omega) hp1 hp2 (by omega) (by omega)) fun r He ⟨zs,mid,q,hr,hdz,hfz,hpt⟩=>?_
  rw [hr]
  simp only [↓qj,xh,reduceIte,Nat.reduceEqDiff,xa]
  exact pdq_p69 ih hs hn hk hb hl hlim hpt hdz hfz h0 h1 h2 h3 h4 rfl h12 rfl
 by_cases q:(0:Int)<(c:Int)
 ·have u1:wrapI .i64 ((c:Int)-1)=((c-1:Nat):Int):=by rw [xr (by omega) (by omega)];omega
  obtain ⟨z,hz,iz,lz⟩:=dt_at h.dt (i:=c-1) (by omega)
  obtain ⟨w,hw,iw,lw⟩:=dt_at h.dt (i:=p) (by omega)
  simp only [↓qj,xh,reduceIte,Nat.reduceEqDiff,w55,h1,q,h4,h0,u1,iz,lz,h13,iw,lw]
  refine C3.q (qer (M:=M) z w) fun vc Hd ⟨hv,hfd⟩=>?_
  rw [hv]
  have hs:PdqS H v xs a b c d Hd ys:=h.rp .refl (Own.em h.dt hfd) ⟨hfd.next,fun x hx _=>hfd.keep x hx id⟩
  by_cases hc:z.line<w.line
  ·have hc':=qcs.2 hc
   simp only [↓qj,xh,reduceIte,Nat.reduceEqDiff,hc']
   exact part hs
  ·have hc':¬ ordI z.line w.line<0:=fun q=>hc (qcs.1 q)
   simp only [↓qj,xh,reduceIte,Nat.reduceEqDiff,hc',h0,h1,h2,h13,h4]
   refine C3.q (qor (M:=M) hs.dt (by omega) hp1 hp2 (by omega) (by omega)) fun r He ⟨zs,mid,P,hr,hdz,hfz,hrz,m1,m2,hP,lo,hi⟩=>?_
   rw [hr]
   have hz2:=hs.rp hrz hdz hfz
   have hwP:=hP w hw
   simp only [↓qj,xh,reduceIte,Nat.reduceEqDiff]
   refine ⟨_,_,⟨mid,d,lim,q1,q2,zs,rfl,rfl,hlim,⟨by omega,m2,g2,hdz,hz2.f,hz2.r,?_,?_⟩⟩,by simp only [↓qj,xh,reduceIte,Nat.reduceEqDiff,h11,h10,h0,h2,h3,h4],by omega⟩
   ·intro i j x y k1 k2 k3 k4 hx hy
    by_cases e:i<c\/d<=j
    ·exact hz2.o i j x y k1 k2 k3 e hx hy
    ·have a1:=lo i x (by omega) (by omega) hx
     by_cases e1:mid<=j
     ·have:=hi j y e1 (by omega) hy;omega
     ·have a2:=hz2.lb z (by omega) (by rw [hrz.out (by omega)];exact hz) j y (by omega) (by omega) hy
      omega
   ·intro u u0 hu k x k1 k2 hx
    have a1:=lo (mid-1) u (by omega) (by omega) hu
    have a2:=hi k x k1 k2 hx
    omega
 ·simp only [↓qj,xh,reduceIte,Nat.reduceEqDiff,w55,h1,q]
  exact part h
theorem q59 {n k:Nat} (ih:PdqR M n) (h:PdqS H v xs a b c d Hc ys) (hn:d-c<=n) (hk:d+1-c=k) (hcd:c+8<=d) (hb:b<=xs.length) (hl:xs.length<=40) {lim:Nat} (hlim:lim<=64) {q1 q2:Bool}
 {E:Env} (h0:lk E 0=some v) (h1:lk E 1=some (.int .i64 (c:Int))) (h2:lk E 2=some (.int .i64 (d:Int))) (h3:lk E 3=some (.int .i64 (lim:Int))) (h4:lk E 4=some cmpE) (h10:lk E 10=some (.bool q1)) (h11:lk E 11=some (.bool q2)) (h12:lk E 12=some (.int .i64 ((d-c:Nat):Int))) :
 W M ⟨none,N_pdq⟩ (qg 33) true (PdqK M H v xs a b k) E [] Hc:=by
 obtain ⟨-,-,-,-,-,w33,w35,w45,-,-,-,-⟩:=vf M ⟨none,xz⟩
 have g1:=h.ha;have g2:=h.hb
 have hyl:ys.length=xs.length:=h.r.len
 have p45:∀ {Hd:AHeap} {zs:List En} {p:Nat} {hint:Int},PdqS H v xs a b c d Hd zs->c<=p->p<d -> ∀ {E:Env},lk E 0=some v->lk E 1=some (.int .i64 (c:Int))->lk E 2=some (.int .i64 (d:Int))->lk E 3=some (.int .i64 (lim:Int))->lk E 4=some cmpE->lk E 10=some (.bool q1)->lk E 11=some (.bool q2)->lk E 12=some (.int .i64 ((d-c:Nat):Int))->lk E 13=some (.int .i64 (p:Int))->lk E 14=some (.int .i64 hint) ->
  W M ⟨none,N_pdq⟩ (qg 45) true (PdqK M H v xs a b k) E [] Hd:=by
  intro Hd zs p hint hs hp1 hp2 E h0 h1 h2 h3 h4 h10 h11 h12 h13 h14
  have hzl:zs.length=xs.length:=hs.r.len
  have nx:∀ {He:AHeap},PdqS H v xs a b c d He zs->W M ⟨none,N_pdq⟩ (qg 55) true (PdqK M H v xs a b k) E [] He:=fun hs'=>pdq_p55 ih hs' hn hk hcd hb hl hlim hp1 hp2 h0 h1 h2 h3 h4 h10 h11 h12 h13
  cases q1 with
  | false=>simp only [↓qj,xh,reduceIte,Nat.reduceEqDiff,w45,h10];exact nx hs
  | true =>
   cases q2 with
   | false=>simp only [↓qj,xh,reduceIte,Nat.reduceEqDiff,w45,h10,h11];exact nx hs
   | true =>
    by_cases e:hint=1
    ·simp only [↓qj,xh,reduceIte,Nat.reduceEqDiff,w45,h10,h11,h14,ja e,h0,h1,h2,h4]
     refine C3.q (qu2 (M:=M) hs.dt (by omega) (by omega) (by omega)) fun r He ⟨hf,q,hr,hq⟩=>?_
     rw [hr]
     have hs':PdqS H v xs a b c d He zs:=hs.rp .refl (Own.em hs.dt hf) ⟨hf.next,fun x hx _=>hf.keep x hx id⟩
     cases q with
     | true=>simp only [↓qj,xh,reduceIte,Nat.reduceEqDiff];exact hs'.fin (hq rfl)
     | false=>simp only [↓qj,xh,reduceIte,Nat.reduceEqDiff];exact nx hs'
    ·simp only [↓qj,xh,reduceIte,Nat.reduceEqDiff,w45,h10,h11,h14,e];exact nx hs
 simp only [↓qj,xh,reduceIte,Nat.reduceEqDiff,w33,h0,h1,h2,h4]
 refine C3.q (choose_spec (M:=M) h.dt (by omega) (by omega) (by omega)) fun r Hd ⟨hf,p,hint,hr,hp1,hp2⟩=>?_
 rw [hr]
 have hs:PdqS H v xs a b c d Hd ys:=h.rp .refl (Own.em h.dt hf) ⟨hf.next,fun x hx _=>hf.keep x hx id⟩
 simp only [↓qj,xh,reduceIte,Nat.reduceEqDiff,xa]
 by_cases e:hint=2
 ·simp only [↓qj,xh,reduceIte,Nat.reduceEqDiff,w35,ja e,h0,h1,h2,h4]
  refine C3.q (q0i (M:=M) hs.dt (by omega) (by omega) (by omega)) fun _ He ⟨zs,hdz,hfz,hrz⟩=>?_
  have u1:wrapI .i64 ((d:Int)-1)=((d-1:Nat):Int):=by rw [xr (by omega) (by omega)];omega
  have u2:wrapI .i64 ((p:Int)-(c:Int))=((p-c:Nat):Int):=by rw [xr (by omega) (by omega)];omega
  have u3:wrapI .i64 (((d-1:Nat):Int)-((p-c:Nat):Int))=((d-1-(p-c):Nat):Int):=by rw [xr (by omega) (by omega)];omega
  simp only [↓qj,xh,reduceIte,Nat.reduceEqDiff,h1,h2,u1,u2,u3]
  exact p45 (hs.rp hrz hdz hfz) (p:=d-1-(p-c)) (hint:=1) (by omega) (by omega) h0 h1 h2 h3 h4 h10 h11 h12 rfl rfl
 ·simp only [↓qj,xh,reduceIte,Nat.reduceEqDiff,w35,e]
  exact p45 hs hp1 hp2 h0 h1 h2 h3 h4 h10 h11 h12 rfl rfl
end
theorem pdq_step {n:Nat} (ih:PdqR M n) {H:AHeap} {v:AV} {xs:List En} {a b lim:Nat} (h:Dt H v xs) (hn:b-a<n+1) (hab:a<=b) (hb:b<=xs.length) (hl:xs.length<=40) (hlim:lim<=64) (hlb:LB a b xs) :
 yf M N_pdq [v,.int .i64 (a:Int),.int .i64 (b:Int),.int .i64 (lim:Int),cmpE] H (PdqQ H v xs a b):=by
 refine qg1 ?_
 obtain ⟨w0,w6,w9,w17,w25,-,-,-,-,-,-,-⟩:=vf M ⟨none,xz⟩
 simp only [↓qj,xh,reduceIte,Nat.reduceEqDiff,w0]
 refine LOOP3.intro (PdqI H v xs a b) ?_ ?_
 ·exact ⟨_,_,⟨a,b,lim,true,true,xs,rfl,rfl,hlim,⟨qe _,hab,qe _,h,Fr.refl _,.refl,OrdX.start,hlb⟩⟩,by simp only [↓qj,xh,reduceIte,Nat.reduceEqDiff]⟩
 rintro k E' Hc ⟨c,d,lim,q1,q2,ys,rfl,rfl,hlim,hs⟩
 have g0:=hs.ha;have g1:=hs.ab;have g2:=hs.hb
 have hyl:ys.length=xs.length:=hs.r.len
 have u1:wrapI .i64 ((d:Int)-(c:Int))=((d-c:Nat):Int):=by rw [xr (by omega) (by omega)];omega
 by_cases c12:((d-c:Nat):Int)<=12
 ·simp only [↓qj,xh,reduceIte,Nat.reduceEqDiff,w6,u1,w9,c12]
  refine C3.q (qvq (M:=M) hs.dt g1 (by omega) (by omega)) fun _ Hd ⟨zs,hdz,hfz,hrz,hoz⟩=>?_
  simp only [↓qj,xh,reduceIte,Nat.reduceEqDiff]
  exact (hs.rp hrz hdz hfz).fin hoz
 by_cases c0:(lim:Int)=0
 ·simp only [↓qj,xh,reduceIte,Nat.reduceEqDiff,w6,u1,w9,c12,w17,ja c0]
  refine C3.q (q5t (M:=M) hs.dt (by omega) (by omega) (by omega)) fun _ Hd ⟨zs,hdz,hfz,hrz,hoz⟩=>?_
  simp only [↓qj,xh,reduceIte,Nat.reduceEqDiff]
  exact (hs.rp hrz hdz hfz).fin hoz
 cases q1 with
 | true =>
  simp only [↓qj,xh,reduceIte,Nat.reduceEqDiff,w6,u1,w9,c12,w17,c0,w25]
  exact q59 ih hs (by omega) rfl (by omega) hb hl hlim rfl rfl rfl rfl rfl rfl rfl rfl
 | false =>
  simp only [↓qj,xh,reduceIte,Nat.reduceEqDiff,w6,u1,w9,c12,w17,c0,w25]
  refine C3.q (q3o (M:=M) hs.dt (by omega) (by omega) (by omega)) fun _ Hd ⟨zs,hdz,hfz,hrz⟩=>?_
  have u2:wrapI .i64 ((lim:Int)-1)=((lim-1:Nat):Int):=by rw [xr (by omega) (by omega)];omega
  simp only [↓qj,xh,reduceIte,Nat.reduceEqDiff,u2]
  exact q59 ih (hs.rp hrz hdz hfz) (by omega) rfl (by omega) hb hl (lim:=lim-1) (by omega) rfl rfl rfl rfl rfl rfl rfl rfl
theorem q2y:∀ n,PdqR M n
 | 0=>fun h hn=>by omega
 | n+1=>fun h hn hab hb hl hlim hlb=>pdq_step (q2y n) h hn hab hb hl hlim hlb
theorem qw7 {H:AHeap} {v:AV} {xs:List En} (h:Dt H v xs) (hl:xs.length<=40) :
 yf M yc [v,cmpE] H fun _ H'=>∃ ys,Dt H' v ys/\Fr (OnS v) H H'/\ys.Perm xs/\ys.Pairwise fun a b=>a.line<=b.line:=by
 refine qjg ?_
 have hln:=(OwnT.sl h).len
 have wu:wrapI .u64 (xs.length:Int)=(xs.length:Int):=w_u64 (by omega)
 simp only [↓qj,xh,reduceIte,Nat.reduceEqDiff,qjh,hln,wu]
 refine C3.q (qzq (M:=M) (n:=xs.length) (by omega)) fun r H1 ⟨⟨L,hr,hL,_,_⟩,hh⟩=>?_
 rw [hr,hh]
 have hp:=q2y (M:=M) (xs.length+1) (a:=0) (b:=xs.length) (lim:=L) h (by omega) (zl _) (qe _) hl (by omega) fun z z0=>by omega
 rw [show ((0:Nat):Int)=0 from rfl] at hp
 simp only [↓qj,xh,reduceIte,Nat.reduceEqDiff]
 refine C3.q hp fun _ H2 ⟨ys,hd,hf,hr,ho⟩=>?_
 simp only [↓qj,xh,reduceIte,Nat.reduceEqDiff]
 refine ⟨ys,hd,hf,hr.perm,?_⟩
 rw [List.pairwise_iff_getElem]
 intro i j hi hj hij
 exact ho i j _ _ (zl _) hij (by rw [<-hr.len];exact hj) (xu hi) (xu hj)
end Go.Am
namespace Go.Am
open Go.Proofs Ca
variable {M:Mac} [MK M]
theorem SCP_n (b:ACode) (Q:Post3) (E:Env) (D:List ADef) (H:AHeap):SCP3 b Q .normal E D H=Q .normal E D H:=rfl
theorem SCP_r (b:ACode) (Q:Post3) (E:Env) (D:List ADef) (H:AHeap):SCP3 b Q .ret E D H=Q .ret E D H:=rfl
def caC (c:Ca) (sv:AV):List AV:=[.int .i64 (c.sets:Int),.int .i64 (c.ways:Int),sv,.int .i64 c.us]
abbrev eA (sv:AV) (i:Nat):AV:=.ptr (slB sv) (slO 21 sv i)
structure CaR (H:AHeap) (b:Nat) (sv:AV) (c:Ca):Prop where
 row:H.get b=some (OR (caC c sv) qkc)
 lt:b<H.next
 sl:RowT encE qk 21 H sv c.sl
 ne:slB sv ≠ b
 s8:c.sets<=8
 w4:c.ways<=4
 us:0<=c.us/\c.us<=1000000
theorem CaR.em {H H':AHeap} {b:Nat} {sv:AV} {c:Ca} (h:CaR H b sv c) (f:Fr Em H H'):CaR H' b sv c:=⟨by rw [f.keep _ h.lt id];exact h.row,ql h.lt f.next,h.sl.fr f id,h.ne,h.s8,h.w4,h.us⟩
theorem CaR.fr {H H':AHeap} {W:Nat->Prop} {b:Nat} {sv:AV} {c:Ca} (h:CaR H b sv c) (f:Fr W H H') (h1:¬ W b) (h2:¬ W (slB sv)):CaR H' b sv c:=⟨by rw [f.keep _ h.lt h1];exact h.row,ql h.lt f.next,h.sl.fr f h2,h.ne,h.s8,h.w4,h.us⟩
theorem CaR.ix {H:AHeap} {b:Nat} {sv:AV} {c:Ca} (h:CaR H b sv c) {i:Nat} (hi:i<c.sl.length):Op.indexSl 21 [sv,.int .i64 (i:Int)]=some (eA sv i):=(h.sl.sl x9).idx (qjn hi) rfl .i64
theorem CaR.ld {H:AHeap} {b:Nat} {sv:AV} {c:Ca} (h:CaR H b sv c) {i:Nat} (hi:i<c.sl.length) {k:Nat} (hk:k<21):Op.load1 [.ptr (slB sv) (slO 21 sv i+k)] H=(encE (c.en i))[k]?:=(h.sl.sl x9).load1 x9 (qjn hi) hk
theorem CaR.ld0 {H:AHeap} {b:Nat} {sv:AV} {c:Ca} (h:CaR H b sv c) {i:Nat} (hi:i<c.sl.length):Op.load1 [.ptr (slB sv) (slO 21 sv i)] H=some (.int .i64 (c.en i).line):=(h.sl.sl x9).load0 x9 (qjn hi) (by decide)
theorem qau (b o:Nat) (H:AHeap):Op.eq .ptr false [.ptr b o,.nilp] H=some (.bool false):=rfl
theorem ptr_nil' (b o:Nat) (H:AHeap):Op.eq .ptr true [.ptr b o,.nilp] H=some (.bool true):=rfl
theorem qx5 (H:AHeap):Op.eq .ptr false [.nilp,.nilp] H=some (.bool true):=rfl
theorem nil_nil' (H:AHeap):Op.eq .ptr true [.nilp,.nilp] H=some (.bool false):=rfl
def ItQ (R:Nat->(Nat->Prop)->AHeap->Prop) (S:(Nat->Prop)->AHeap->Prop) (W0 O:Nat->Prop) (H:AHeap) (n:Nat) (v:AV) (H':AHeap):Prop:=∃ W':Nat->Prop,Fr (fun b=>W0 b\/O b) H H'/\(∀ b,W' b->b<H'.next/\(W0 b\/H.next<=b))/\(R n W' H'\/S W' H')
def setL (c:Ca) (sv:AV) (line:Int):List (List AV):=if line<0 then [] else (List.range c.ways).map fun k=>[eA sv (c.fr line+k)]
structure LpI (R:Nat->(Nat->Prop)->AHeap->Prop) (W0:Nat->Prop) (H1 Hx:AHeap) (i:Nat) (V:Nat->Prop):Prop where
 hR:R i V Hx
 hV:∀ b,V b->b<Hx.next/\(W0 b\/H1.next<=b)
 fr:Fr W0 H1 Hx
theorem q0k {H0:AHeap} {p q b:Nat} {sv:AV} {c:Ca} {lines line:Int} (hc:CaR H0 b sv c) (hci:CI lines c) (hp:H0.get p=some (OR [.ptr b 0] yi)) (hq:H0.get q=some (OR [.int .i64 line] T_int)) (hpl:p<H0.next) (hql:q<H0.next) :
 ITERO M yo [] [.ptr p 0,.ptr q 0] (fun x=>x=p\/x=q\/x=b) (fun _=>False) H0 (setL c sv line):=by
 intro Y R S W0 H1 hnx hN hR0 hW0 loc locS step
 obtain ⟨p1,p2,p3⟩:=hN p (.inl (.inl rfl))
 obtain ⟨q1,q2,q3⟩:=hN q (.inl (.inr (.inl rfl)))
 obtain ⟨b1,b2,b3⟩:=hN b (.inl (.inr (.inr rfl)))
 suffices h:yf M yo [.fn (.yield Y) [] [],.ptr p 0,.ptr q 0] H1 (ItQ R S W0 (fun _=>False) H1 (setL c sv line).length) by
  obtain ⟨v,H',hc,W',q1,q2,q3⟩:=h.elim
  exact ⟨v,H',W',hc,q1,q2,q3⟩
 refine qrq ?_
 obtain ⟨w0,w6,w12,w18,w27⟩:=qrr M ⟨none,yo⟩
 have lp:∀ {Hx:AHeap},Fr W0 H1 Hx->Op.load1 [.ptr p 0] Hx=some (.ptr b 0):=fun f=>by rw [zw (xd (by rw [f.keep _ (by omega) p3,p2];exact hp))];rfl
 have lq:∀ {Hx:AHeap},Fr W0 H1 Hx->Op.load1 [.ptr q 0] Hx=some (.int .i64 line):=fun f=>by rw [zw (xd (by rw [f.keep _ (by omega) q3,q2];exact hq))];rfl
 have lb:∀ {Hx:AHeap} (k:Nat),Fr W0 H1 Hx->Op.load1 [.ptr b k] Hx=(caC c sv)[k]?:=fun k f=>zw (xd (by rw [f.keep _ (by omega) b3,b2];exact hc.row)) k
 have r0:=Fr.refl (W:=W0) H1
 by_cases hl:line<0
 ·simp only [↓qj,xh,reduceIte,Nat.reduceEqDiff,w0,lp r0,qau,lq r0,hl]
  exact ⟨W0,Fr.refl _,fun b hb=>⟨hW0 b hb,.inl hb⟩,.inl (by unfold setL;rw [xc hl];exact hR0)⟩
 have hsl:(setL c sv line)=(List.range c.ways).map fun k=>[eA sv (c.fr line+k)]:=by unfold setL;rw [qo hl]
 rw [hsl] at step ⊢
 rw [zd,qcx]
 have l0:Op.load1 [.ptr b 0] H1=some (.int .i64 (c.sets:Int)):=lb 0 r0
 have l1:Op.load1 [.ptr b 1] H1=some (.int .i64 (c.ways:Int)):=lb 1 r0
 have rm:Op.bin .rem [.int .i64 line,.int .i64 (c.sets:Int)]=some (.int .i64 ((line.toNat % c.sets:Nat):Int)):=by
  have:=hci.s0
  obtain ⟨n,rfl⟩:=ji (Int.not_lt.1 hl)
  rw [o_rem .i64 _ _ (by omega)];rfl
 have hmod:line.toNat % c.sets<c.sets:=qhc _ hci.s0
 have h8:=hc.s8;have h4:=hc.w4
 have hfr:(line.toNat % c.sets)*c.ways<=7*4:=Nat.mul_le_mul (by omega) h4
 have wm:wrapI .i64 (((line.toNat % c.sets:Nat):Int)*(c.ways:Int))=((c.fr line:Nat):Int):=by
  rw [<-Int.natCast_mul];exact xr (by omega) (by omega)
 have hfr':c.fr line<=28:=hfr
 simp only [↓qj,xh,reduceIte,Nat.reduceEqDiff,w0,lp r0,qau,qn,lq r0,hl,w6,l0,l1,rm,wm]
 refine LOOP3.intro (fun n E Hx=>∃ (i:Nat) (V:Nat->Prop),E=[(27,.int .i64 (i:Int)),(26,.int .i64 (c.ways:Int)),(4,.int .i64 ((c.fr line:Nat):Int)),(0,.fn (.yield Y) [] []),(1,.ptr p 0)]/\n=c.ways-i/\i<=c.ways/\LpI R W0 H1 Hx i V) ?_ ?_
 ·exact ⟨_,_,⟨0,W0,rfl,rfl,zl _,⟨hR0,fun b hb=>⟨hW0 b hb,.inl hb⟩,Fr.refl _⟩⟩,by simp only [↓qj,xh,reduceIte,Nat.reduceEqDiff]⟩
 rintro n E Hx ⟨i,V,rfl,rfl,hi,hI⟩
 rcases z8 i c.ways with hlt|hge
 ·have c1:(i:Int)<(c.ways:Int):=by omega
  have l2:Op.load1 [.ptr b 2] Hx=some sv:=lb 2 hI.fr
  have wi:wrapI .i64 (((c.fr line:Nat):Int)+(i:Int))=((c.fr line+i:Nat):Int):=by rw [xr (by omega) (by omega)];omega
  have ix:=hc.ix (hci.fr_lt line hlt)
  obtain ⟨bb,H2,W2,hr,hf,hW2,ht,hs⟩:=step i [eA sv (c.fr line+i)] (by rw [xf,vo hlt];rfl) V Hx hI.hR hI.hV (hI.fr.mono fun _ _ q=>.inl q)
  have fr2:Fr W0 H1 H2:=hI.fr.trans hf fun b q=>(hI.hV b q).2
  have hV2:∀ b,W2 b->b<H2.next/\(W0 b\/H1.next<=b):=fun b q=>⟨(hW2 b q).1,(hW2 b q).2.elim (fun w=>(hI.hV b w).2) fun w=>.inr (zn hI.fr.next w)⟩
  have wj:wrapI .i64 ((i:Int)+1)=((i+1:Nat):Int):=by rw [xr (by omega) (by omega)];omega
  simp only [↓qj,xh,reduceIte,Nat.reduceEqDiff,w12,c1,w18,lp hI.fr,qn,l2,wi,ix]
  refine C3.yret hr ?_
  cases bb with
  | true =>
   simp only [↓qj,xh,reduceIte,Nat.reduceEqDiff,w27,wj]
   exact ⟨_,_,⟨i+1,W2,rfl,rfl,by omega,⟨ht rfl,hV2,fr2⟩⟩,by simp only [↓qj,xh,reduceIte,Nat.reduceEqDiff],by omega⟩
  | false =>
   simp only [↓qj,xh,reduceIte,Nat.reduceEqDiff]
   exact ⟨W2,fr2.mono fun _ _ q=>.inl q,hV2,.inr (hs rfl)⟩
 ·have c1:¬ (i:Int)<(c.ways:Int):=by omega
  have hiw:i=c.ways:=by omega
  simp only [↓qj,xh,reduceIte,Nat.reduceEqDiff,w12,c1]
  exact ⟨V,hI.fr.mono fun _ _ q=>.inl q,hI.hV,.inl (by rw [<-hiw];exact hI.hR)⟩
theorem q25 {H:AHeap} (b:Nat) (line:Int):yf M qds [.ptr b 0,.int .i64 line] H fun v H'=>v=.fn (.func yo) [] [.ptr H.next 0,.ptr (H.next+1) 0]/\H'=(H.alloc (OR [.ptr b 0] yi)).alloc (OR [.int .i64 line] T_int):=by
 refine qvx ?_
 obtain ⟨H1,e1⟩:∃ X,X=H.alloc (OR [.ptr b 0] yi):=⟨_,rfl⟩
 have n1:H1.next=H.next+1:=by rw [e1,za]
 have ca:AV.cells (.ptr b 0)=[.ptr b 0]:=rfl
 have cb:AV.cells (.int .i64 line)=[.int .i64 line]:=rfl
 have mk:Op.mkFunc yo 0 [.ptr H.next 0,.ptr (H.next+1) 0]=some (.fn (.func yo) [] [.ptr H.next 0,.ptr (H.next+1) 0]):=rfl
 simp only [↓qj,xh,reduceIte,Nat.reduceEqDiff,qvy,ca,cb,<-e1,n1,mk]
 rfl
structure AtI (c:Ca) (line:Int) (t:Nat) (i:Nat) (V:Nat->Prop) (Hx:AHeap):Prop where
 vt:V t
 g:Hx.get t=some (OR [.nilp] jk)
 lt:t<Hx.next
 no:∀ k,k<i->c.hit line k=false
structure AtS (c:Ca) (sv:AV) (line:Int) (t:Nat) (V:Nat->Prop) (Hx:AHeap):Prop where
 vt:V t
 ex:∃ k,k<c.ways/\firstN (c.hit line) c.ways=some k/\Hx.get t=some (OR [eA sv (c.fr line+k)] jk)
 lt:t<Hx.next
def posV (c:Ca) (sv:AV) (line:Int):AV:=match c.pos line with
 | none=>.nilp
 | some i=>eA sv i
theorem q0z {H:AHeap} {b:Nat} {sv:AV} {c:Ca} {lines line:Int} (hc:CaR H b sv c) (hci:CI lines c):yf M qa9 [.ptr b 0,.int .i64 line] H fun v H'=>v=posV c sv line/\Fr Em H H':=by
 refine qxo ?_
 obtain ⟨w0,wa,wb,w2,w7⟩:=qpd M ⟨none,qa9⟩
 obtain ⟨H1,e1⟩:∃ X,X=H.alloc (OR [.int .i64 line] T_int):=⟨_,rfl⟩
 obtain ⟨H2,e2⟩:∃ X,X=H1.alloc (OR [.nilp] jk):=⟨_,rfl⟩
 have f1:Fr Em H H1:=by rw [e1];exact (Fr.refl H).alloc _
 have f12:Fr Em H1 H2:=by rw [e2];exact (Fr.refl H1).alloc _
 have f2:Fr Em H H2:=f1.trans f12 fun _ q=>q.elim
 have n1:H1.next=H.next+1:=by rw [e1,za]
 have n2:H2.next=H.next+2:=by rw [e2,za,n1]
 have g1:H2.get H.next=some (OR [.int .i64 line] T_int):=by rw [f12.keep _ (by omega) id,e1,xg]
 have g2:H2.get (H.next+1)=some (OR [.nilp] jk):=by rw [e2,<-n1,xg]
 have cl:AV.cells (.int .i64 line)=[.int .i64 line]:=rfl
 have l1:Op.load1 [.ptr H.next 0] H2=some (.int .i64 line):=zw (xd g1) 0
 simp only [↓qj,xh,reduceIte,Nat.reduceEqDiff,w0,cl,<-e1,<-e2,n1,w2,l1]
 refine C3.q (q25 (M:=M) b line) fun v H5 ⟨hv,hh⟩=>?_
 obtain ⟨H3,e3⟩:∃ X,X=H2.alloc (OR [.ptr b 0] yi):=⟨_,rfl⟩
 obtain ⟨H4,e4⟩:∃ X,X=H3.alloc (OR [.int .i64 line] T_int):=⟨_,rfl⟩
 rw [<-e3,<-e4] at hh
 rw [hv,hh]
 have f23:Fr Em H2 H3:=by rw [e3];exact (Fr.refl H2).alloc _
 have f34:Fr Em H3 H4:=by rw [e4];exact (Fr.refl H3).alloc _
 have f24:Fr Em H2 H4:=f23.trans f34 fun _ q=>q.elim
 have f4:Fr Em H H4:=f2.trans f24 fun _ q=>q.elim
 have n3:H3.next=H.next+3:=by rw [e3,za,n2]
 have n4:H4.next=H.next+4:=by rw [e4,za,n3]
 have g3:H4.get H2.next=some (OR [.ptr b 0] yi):=by rw [f34.keep _ (by omega) id,e3,xg]
 have g4:H4.get (H2.next+1)=some (OR [.int .i64 line] T_int):=by rw [show H2.next+1=H3.next by omega,e4,xg]
 have hc4:=hc.em f4
 have hlt:=hc.lt
 have hsb:slB sv<H.next:=hc.sl.lt
 have kp:∀ {Hx:AHeap},Fr (fun x=>(x=H.next+1)\/False) H4 Hx->CaR Hx b sv c/\Op.load1 [.ptr H.next 0] Hx=some (.int .i64 line):=fun f =>
  ⟨hc4.fr f (fun q=>q.elim (fun q=>by omega) id) (fun q=>q.elim (fun q=>by omega) id),zw (xd (by rw [f.keep H.next (by omega) (fun q=>q.elim (fun q=>by omega) id),f24.keep _ (by omega) id];exact g1)) 0⟩
 have res:∀ {d:Nat} {Hx:AHeap} {x:AV},Hx.get (H.next+1)=some (OR [x] jk)->d ≠ H.next+1->Op.load1 [.ptr (H.next+1) 0] (Hx.set d (.deferred none))=some x:=fun g hd=>by
  rw [zw (xd (by rw [qae hd];exact g))];rfl
 refine RNG3.iter (fn:=qek) (lp:=qdw) (pa:=qn6 0) (pb:=qn7 0) qvv qm2.1 qm2.2 (by decide) ⟨rfl,qeb qdw.assign⟩ ⟨rfl,qeb qdw.body⟩
  (q0k (M:=M) hc4 hci g3 g4 (by omega) (by omega)) (fun i V Hx=>AtI c line (H.next+1) i V Hx) (fun e V Hx=>e=.ret/\AtS c sv line (H.next+1) V Hx) (fun x=>x=H.next+1) (qe _) ?_ ?_ ?_ ?_ ?_ ?_ ?_ ?_
 ·rintro x ((q|q|q) | q)
  ·exact ⟨by omega,rfl,by omega⟩
  ·exact ⟨by omega,rfl,by omega⟩
  ·exact ⟨by omega,rfl,by omega⟩
  ·exact q.elim
 ·exact fun x hx=>by omega
 ·exact ⟨rfl,by rw [f24.keep _ (by omega) id];exact g2,by omega,fun k hk=>by omega⟩
 ·exact fun i V Ha Hb h hs hn=>⟨h.vt,by rw [hs _ h.vt];exact h.g,ql h.lt hn,h.no⟩
 ·rintro e V Ha Hb ⟨he,h⟩ hs hn
  obtain ⟨k,k1,k2,k3⟩:=h.ex
  exact ⟨he,h.vt,⟨k,k1,k2,by rw [hs _ h.vt];exact k3⟩,ql h.lt hn⟩
 ·intro L2 i lr lb x hx hL2 V H6 hP hV hf6 hnL hL6 hgL
  unfold setL at hx
  split at hx
  ·simp at hx
  rename_i hl
  rw [xf,qv] at hx
  obtain ⟨y,hy,rfl⟩:=hx
  have hiw:i<c.ways:=by have:=(qi.1 hy).1;rw [qcx] at this;exact this
  rw [vo hiw] at hy;injection hy with hy;subst hy
  refine ⟨_,rfl,?_⟩
  obtain ⟨-,wa,wb,-⟩:=qpd M ⟨some L2,qa9⟩
  simp only [↓qj,xh,reduceIte,Nat.reduceEqDiff,wa,qin]
  refine ⟨hgL,?_⟩
  have fx:Fr (On L2) H6 (H6.set L2 lb):=(Fr.refl H6).set (W:=On L2) (.inl rfl) _
  have gL:(H6.set L2 lb).get L2=some lb:=xj ..
  have nL:(H6.set L2 lb).next=H6.next:=rfl
  obtain ⟨hc6,lq6⟩:=kp hf6
  have h7:CaR (H6.set L2 lb) b sv c:=hc6.fr fx (fun (q:b=L2)=>by omega) (fun (q:slB sv=L2)=>by omega)
  have lq7:Op.load1 [.ptr H.next 0] (H6.set L2 lb)=some (.int .i64 line):=by
   have hg:(H6.set L2 lb).get H.next=H6.get H.next:=by rw [qae (by omega)]
   exact zw (xd (by rw [hg,hf6.keep H.next (by omega) (fun q=>q.elim (fun q=>by omega) id),f24.keep _ (by omega) id];exact g1)) 0
  have hLt:L2 ≠ H.next+1:=fun q=>hnL (by rw [q];exact hP.vt)
  have hgt:(H6.set L2 lb).get (H.next+1)=some (OR [.nilp] jk):=by rw [qae hLt];exact hP.g
  generalize H6.set L2 lb=H7 at *
  have hi:=hci.fr_lt line hiw
  obtain ⟨e,he⟩:∃ e,e=c.en (c.fr line+i):=⟨_,rfl⟩
  have l0:Op.load1 [.ptr (slB sv) (slO 21 sv (c.fr line+i))] H7=some (.int .i64 e.line):=by rw [he];exact h7.ld0 hi
  have l1:Op.load1 [.ptr (slB sv) (slO 21 sv (c.fr line+i)+1)] H7=some (.int .i64 e.st):=by rw [he];exact h7.ld hi (k:=1) (by decide)
  have hhit:c.hit line i=(e.st != 0 && e.line == line):=by rw [he];rfl
  have stay:c.hit line i=false->BD3 (fun V Hx=>AtI c line (H.next+1) (i+1) V Hx) (fun e V Hx=>e=.ret/\AtS c sv line (H.next+1) V Hx) L2 lb V H6 .normal [] [] H7:=fun hh =>
   ⟨rfl,gL,V,fun b hb=>⟨by rw [nL];exact (hV b hb).1,.inl hb⟩,fx.mono fun x _ q=>.inr q,.inl ⟨rfl,hP.vt,hgt,by rw [nL];exact hP.lt,fun k hk=>by
    by_cases q:k=i
    ·rw [q];exact hh
    ·exact hP.no k (by omega)⟩⟩
  by_cases q1:e.st=0
  ·simp only [↓qj,xh,reduceIte,Nat.reduceEqDiff,wb,qn,l1,ja q1]
   exact stay (by rw [hhit,q1];rfl)
  by_cases q2:e.line=line
  ·have st:=qee hgt (u:=eA sv (c.fr line+i)) rfl
   simp only [↓qj,xh,reduceIte,Nat.reduceEqDiff,wb,qn,l1,q1,l0,lq7,ja q2,st]
   refine ⟨rfl,?_,V,?_,?_,.inr ⟨trivial,rfl,hP.vt,⟨i,hiw,qhl hiw (by rw [hhit];simp [q1,q2]) hP.no,xj ..⟩,?_⟩⟩
   ·rw [qae (Ne.symm hLt)];exact gL
   ·exact fun b hb=>⟨by show b<H7.next;rw [nL];exact (hV b hb).1,.inl hb⟩
   ·exact (fx.mono fun x _ q=>.inr q).set (.inl (.inl hP.vt)) _
   ·show H.next+1<H7.next;rw [nL];exact hP.lt
  ·simp only [↓qj,xh,reduceIte,Nat.reduceEqDiff,wb,qn,l1,q1,l0,lq7,q2]
   exact stay (by rw [hhit];simp [q2])
 ·intro d V Hd hd1 hd2 hgd hfd hVd hP
  have st:=qee hP.g (u:=.nilp) rfl
  have hdt:d ≠ H.next+1:=fun q=>by have:=(hVd _ hP.vt).2.2;omega
  have gd:(Hd.set (H.next+1) (OR [.nilp] jk)).get d=some (.deferred (some [])):=by rw [qae (Ne.symm hdt)];exact hgd
  have rd:=res (d:=d) (xj Hd (H.next+1) (OR [.nilp] jk)) hdt
  have hpos:c.pos line=none:=by
   unfold Ca.pos
   split
   ·rfl
   ·rename_i hl
    have hno:=hP.no
    unfold setL at hno
    rw [qo hl,zd,qcx] at hno
    rw [qhk hno];rfl
  simp only [↓qj,xh,reduceIte,Nat.reduceEqDiff,w7,st,qh1,rd]
  refine ⟨gd,?_,?_⟩
  ·unfold posV;rw [hpos]
  ·exact (((f4.trans (W':=fun x=>x=H.next+1\/False) hfd fun x q=>q.elim (fun q=>.inr (by omega)) False.elim).set (.inr (by omega)) _).set (.inr (by omega)) _)
 ·rintro e d V Hd hj hd1 hd2 hgd hfd hVd ⟨he,hS⟩
  subst he
  obtain ⟨k,k1,k2,k3⟩:=hS.ex
  have hdt:d ≠ H.next+1:=fun q=>by have:=(hVd _ hS.vt).2.2;omega
  have rd:=res (d:=d) k3 hdt
  have hpos:posV c sv line=eA sv (c.fr line+k):=by
   unfold posV Ca.pos
   by_cases hl:line<0
   ·exfalso
    obtain ⟨q1,q2,-⟩:=qhj k2
    unfold Ca.hit at q2
    simp only [xb,bne_iff_ne,ne_eq,qft] at q2
    have:=(hci.ok _ (hci.fr_lt line k1) q2.1).2.1
    omega
   ·rw [qo hl,k2];rfl
  simp only [↓qj,xh,reduceIte,Nat.reduceEqDiff,qh1,rd]
  refine ⟨hgd,hpos.symm,?_⟩
  exact ((f4.trans (W':=fun x=>x=H.next+1\/False) hfd fun x q=>q.elim (fun q=>.inr (by omega)) False.elim).set (.inr (by omega)) _)
end Go.Am
namespace Go.Am
open Go.Proofs Ca
variable {M:Mac} [MK M]
theorem stN {H:AHeap} {b e n:Nat} {l x:List AV} (h:H.get b=some (OR l e)) (hl:l.length=n) (hx:x.length=n) (h1:allOne x=true):Op.store n [.ptr b 0,.agg x] H=some (.undef,H.set b (OR x e)):=by
 have st:=qf7 h (o:=0) (n:=n) (v:=.agg x) (by rw [xx];exact hx) (by omega) (by rw [xx];exact h1)
 rw [st,xx,qev,jj,j7 (by omega),jb]
theorem ldN {H:AHeap} {b e n:Nat} {l:List AV} (h:H.get b=some (OR l e)) (hl:l.length=n):Op.loadN n [.ptr b 0] H=some (.agg l):=by
 rw [qhz (xd h) (by omega),qct,zb (by omega)]
theorem bd0 (l:List AV):Op.build l [] []=some (.agg l):=rfl
theorem eZ:[AV.int .i64 0,.int .i64 0,.bool false,.bool false,.int .u64 0,.int .u64 0,.int .u64 0,.int .u64 0,.int .u64 0,.int .u64 0,.int .u64 0,.int .u64 0,.int .u64 0,.int .u64 0,.int .u64 0,.int .u64 0,.int .u64 0,.int .u64 0,.int .u64 0,.int .u64 0,.int .i64 0]=encE .zero:=rfl
abbrev enL (d:L8):List AV:=d.l.map uW
theorem qez (d:L8):(enL d).length=8:=by simp [enL,d.h]
theorem qmo (d:L8):allOne (enL d)=true:=by rw [qgo];simp [enL,oneCell]
theorem lZ:[AV.int .u64 0,.int .u64 0,.int .u64 0,.int .u64 0,.int .u64 0,.int .u64 0,.int .u64 0,.int .u64 0]=enL .zero:=rfl
def CaW (b:Nat) (sv:AV):Nat->Prop:=fun x=>x=b\/x=slB sv
section
variable {H:AHeap} {b:Nat} {sv:AV} {c:Ca} {lines line:Int}
theorem CaR.set (h:CaR H b sv c) {i:Nat} {e:En} {H':AHeap} (hs:RowT encE qk 21 H' sv (c.sl.set i e)) (f:Fr (On (slB sv)) H H'):CaR H' b sv (c.set i e) :=
 ⟨by rw [f.keep _ h.lt (fun q:b=slB sv=>h.ne q.symm)];exact h.row,ql h.lt f.next,hs,h.ne,h.s8,h.w4,h.us⟩
theorem CaR.st1 (h:CaR H b sv c) {i:Nat} (hi:i<c.sl.length) {j:Nat} (hj:j<21) {u:AV} (hu:oneCell u=true) {e:En} (he:encE e=(encE (c.en i)).set j u):∃ H',Op.store 1 [.ptr (slB sv) (slO 21 sv i+j),u] H=some (.undef,H')/\CaR H' b sv (c.set i e)/\Fr (On (slB sv)) H H':=by
 obtain ⟨H',a1,a2,a3⟩:=h.sl.set1 x9 (qjn hi) hj hu he
 exact ⟨H',a1,h.set a2 a3,a3⟩
theorem CaR.stP (h:CaR H b sv c) {i:Nat} (hi:i<c.sl.length) {j n:Nat} {u:AV} (hu:u.cells.length=n) (ho:allOne u.cells=true) (hj:j+n<=21) {e:En} (he:encE e=(encE (c.en i)).take j++u.cells++(encE (c.en i)).drop (j+n)):∃ H',Op.store n [.ptr (slB sv) (slO 21 sv i+j),u] H=some (.undef,H')/\CaR H' b sv (c.set i e)/\Fr (On (slB sv)) H H':=by
 obtain ⟨H',a1,a2,a3⟩:=h.sl.setP x9 (qjn hi) hu ho hj he
 exact ⟨H',a1,h.set a2 a3,a3⟩
theorem CaR.stE (h:CaR H b sv c) {i:Nat} (hi:i<c.sl.length) (e:En):∃ H',Op.store 21 [.ptr (slB sv) (slO 21 sv i),.agg (encE e)] H=some (.undef,H')/\CaR H' b sv (c.set i e)/\Fr (On (slB sv)) H H':=by
 obtain ⟨H',a1,a2,a3⟩:=h.sl.setE x9 qdp (qjn hi) e
 exact ⟨H',a1,h.set a2 a3,a3⟩
theorem CaR.stU (h:CaR H b sv c) {u:Int} (hu:0<=u/\u<=1000000):∃ H',Op.store 1 [.ptr b 3,.int .i64 u] H=some (.undef,H')/\CaR H' b sv { c with us:=u }/\Fr (On b) H H':=by
 have st:=qf7 h.row (o:=3) (n:=1) (v:=.int .i64 u) rfl (by simp [caC]) rfl
 have e:(caC c sv).take 3++(AV.int .i64 u).cells++(caC c sv).drop (3+1)=caC { c with us:=u } sv:=rfl
 rw [e] at st
 have f:Fr (On b) H (H.set b (OR (caC { c with us:=u } sv) qkc)):=(Fr.refl H).set (W:=On b) (.inl rfl) _
 exact ⟨_,st,⟨xj ..,h.lt,h.sl.fr f fun (q:slB sv=b)=>h.ne q,h.ne,h.s8,h.w4,hu⟩,f⟩
theorem CaR.ldb (h:CaR H b sv c) (k:Nat):Op.load1 [.ptr b k] H=(caC c sv)[k]?:=zw (xd h.row) k
theorem CaR.ldE (h:CaR H b sv c) {i:Nat} (hi:i<c.sl.length):Op.loadN 21 [.ptr (slB sv) (slO 21 sv i)] H=some (.agg (encE (c.en i))):=(h.sl.sl x9).loadN x9 (by decide) (qjn hi)
theorem CaR.cells (h:CaR H b sv c) {i:Nat} (hi:i<c.sl.length) {j n:Nat} (hj:j+n<=21):Op.loadN n [.ptr (slB sv) (slO 21 sv i+j)] H=some (.agg (((encE (c.en i)).drop j).take n)):=by
 obtain ⟨sb,e,h1,h2⟩:=h.sl
 have hb:slB sv=sb:=by rw [e];rfl
 have ho:slO 21 sv i=i*21:=by rw [e];simp [slO]
 have hb2:(i+1)*21<=c.sl.length*21:=zt _ hi
 have hl:=qej x9 c.sl
 rw [hb,ho,qhz (xd h2) (by omega)]
 have hm:=qzv (L:=c.sl.flatMap encE) (E:=encE (c.en i)) (p:=i*21) (size:=21) (x9 _) (by omega) (fun r hr=>qfb x9 c.sl (qjn hi) hr)
 have hA:((c.sl.flatMap encE).take (i*21)).length=i*21:=by rw [zm];omega
 have e1:(c.sl.flatMap encE).drop (i*21+j)=(encE (c.en i)).drop j++(c.sl.flatMap encE).drop (i*21+21):=by
  conv=>lhs;rw [hm]
  rw [qbm,hA,j7 (by omega),jj,kr,ki (by rw [x9];omega)]
 rw [e1,j9 (by rw [vx,x9];omega)]
theorem CaR.ldD (h:CaR H b sv c) {i:Nat} (hi:i<c.sl.length):Op.loadN 8 [.ptr (slB sv) (slO 21 sv i+4)] H=some (.agg (enL (c.en i).d)):=by
 rw [h.cells hi (by decide)]
 have:((encE (c.en i)).drop 4).take 8=enL (c.en i).d:=by
  show ((enL (c.en i).d++(enL (c.en i).o ++ [AV.int .i64 (c.en i).u]))).take 8=_
  rw [List.take_left' (qez _)]
 rw [this]
theorem CaR.ldO (h:CaR H b sv c) {i:Nat} (hi:i<c.sl.length):Op.loadN 8 [.ptr (slB sv) (slO 21 sv i+12)] H=some (.agg (enL (c.en i).o)):=by
 rw [h.cells hi (by decide)]
 have:((encE (c.en i)).drop 12).take 8=enL (c.en i).o:=by
  have e:(encE (c.en i)).drop 12=(enL (c.en i).d++(enL (c.en i).o ++ [AV.int .i64 (c.en i).u])).drop 8:=rfl
  rw [e,List.drop_left' (qez _),List.take_left' (qez _)]
 rw [this]
def inV (c:Ca) (sv:AV) (line st:Int):AV:=match c.inS line st with
 | none=>.tuple [.nilp,.int .i64 20]
 | some i=>.tuple [eA sv i,.int .i64 0]
theorem qoi (hc:CaR H b sv c) (hci:CI lines c) (line st:Int):yf M wg [.ptr b 0,.int .i64 line,.int .i64 st] H fun v H'=>v=inV c sv line st/\Fr Em H H':=by
 refine qxq ?_
 obtain ⟨w0,w2,w10,w12,w20⟩:=qxr M ⟨none,wg⟩
 simp only [↓qj,xh,reduceIte,Nat.reduceEqDiff,w0,w2,qau,w10]
 refine C3.q (q0z (M:=M) (line:=line) hc hci) fun v H1 ⟨hv,f1⟩=>?_
 rw [hv]
 unfold posV inV inS
 cases hp:c.pos line with
 | none =>
  simp only [↓qj,xh,reduceIte,Nat.reduceEqDiff,w12,qx5]
  exact f1
 | some i =>
  obtain ⟨-,hi,-⟩:=hci.pos_some hp
  have l1:Op.load1 [.ptr (slB sv) (slO 21 sv i+1)] H1=some (.int .i64 (c.en i).st):=(hc.em f1).ld hi (by decide)
  by_cases h0:st=0
  ·subst h0
   simp only [↓qj,xh,reduceIte,Nat.reduceEqDiff,w12,qau,w20]
   exact f1
  by_cases h1:(c.en i).st=st
  ·simp only [↓qj,xh,reduceIte,Nat.reduceEqDiff,w12,qau,h0,qn,l1,ja h1,w20]
   exact f1
  ·simp only [↓qj,xh,reduceIte,Nat.reduceEqDiff,w12,qau,h0,qn,l1,h1]
   exact f1
abbrev CaQ (H:AHeap) (b:Nat) (sv:AV) (c':Ca) (r:AV):AV->AHeap->Prop:=fun v H'=>v=r/\CaR H' b sv c'/\Fr (CaW b sv) H H'
theorem frW {H1 H2:AHeap} (f:Fr (On (slB sv)) H1 H2):Fr (CaW b sv) H1 H2:=f.mono fun _ _ q=>.inr q
theorem frB {H1 H2:AHeap} (f:Fr (On b) H1 H2):Fr (CaW b sv) H1 H2:=f.mono fun _ _ q=>.inl q
theorem frE {H1 H2:AHeap} (f:Fr Em H1 H2):Fr (CaW b sv) H1 H2:=f.mono fun _ _ q=>q.elim
theorem frT {H1 H2 H3:AHeap} (f:Fr (CaW b sv) H1 H2) (g:Fr (CaW b sv) H2 H3):Fr (CaW b sv) H1 H3:=f.trans g fun _ q=>.inl q
theorem qyu (hc:CaR H b sv c) (hu:c.us+1<=1000000) {i:Nat} (hi:i<c.sl.length):yf M qcv [.ptr b 0,eA sv i] H fun _ H'=>CaR H' b sv (c.use i)/\Fr (CaW b sv) H H':=by
 refine qv0 ?_
 have l3:Op.load1 [.ptr b 3] H=some (.int .i64 c.us):=hc.ldb 3
 have:=hc.us
 have w1:wrapI .i64 (c.us+1)=c.us+1:=xr (by omega) (by omega)
 obtain ⟨H1,s1,h1,f1⟩:=hc.stU (u:=c.us+1) (by omega)
 have l3':Op.load1 [.ptr b 3] H1=some (.int .i64 (c.us+1)):=h1.ldb 3
 obtain ⟨H2,s2,h2,f2⟩:=h1.st1 hi (j:=20) (by decide) (u:=.int .i64 (c.us+1)) rfl (e:={ c.en i with u:=c.us+1 }) (by
  show encE { c.en i with u:=c.us+1 } = (encE (c.en i)).set 20 _
  obtain ⟨line,st,r,w,⟨d,hd⟩,⟨o,ho⟩,u⟩:=c.en i
  match d,hd,o,ho with
  | [d0,d1,d2,d3,d4,d5,d6,d7],_,[o0,o1,o2,o3,o4,o5,o6,o7],_=>rfl)
 simp only [↓qj,xh,reduceIte,Nat.reduceEqDiff,qv1,qn,l3,w1,s1,l3',s2]
 exact ⟨h2,frT (frB f1) (frW f2)⟩
def findV (c:Ca) (line:Int):AV:=match c.find line with
 | none=>.tuple [.agg (encE .zero),.bool false]
 | some e=>.tuple [.agg (encE e),.bool true]
theorem qo6 (hc:CaR H b sv c) (hci:CI lines c) (line:Int):yf M qai [.ptr b 0,.int .i64 line] H fun v H'=>v=findV c line/\Fr Em H H':=by
 refine qty ?_
 obtain ⟨w0,w4,w12⟩:=qtz M ⟨none,qai⟩
 obtain ⟨H1,e1⟩:∃ X,X=H.alloc (OR (encE .zero) qk):=⟨_,rfl⟩
 have f1:Fr Em H H1:=by rw [e1];exact (Fr.refl H).alloc _
 have n1:H1.next=H.next+1:=by rw [e1,za]
 have g1:H1.get H.next=some (OR (encE .zero) qk):=by rw [e1,xg]
 simp only [↓qj,xh,reduceIte,Nat.reduceEqDiff,w0,eZ,<-e1]
 refine C3.q (q0z (M:=M) (line:=line) (hc.em f1) hci) fun v H2 ⟨hv,f2⟩=>?_
 rw [hv]
 have g2:H2.get H.next=some (OR (encE .zero) qk):=by rw [f2.keep _ (by omega) id];exact g1
 have f12:Fr Em H H2:=f1.trans f2 fun _ q=>q.elim
 unfold posV findV Ca.find
 cases hp:c.pos line with
 | none =>
  have st:=stN g2 (x9 _) (x9 .zero) (qdp _)
  have ld:=ldN (xj H2 H.next (OR (encE .zero) qk)) (x9 _)
  simp only [↓qj,xh,reduceIte,Nat.reduceEqDiff,w4,qx5,eZ,bd0,st,ld]
  exact ⟨rfl,f12.set (.inr (qe _)) _⟩
 | some i =>
  obtain ⟨-,hi,-⟩:=hci.pos_some hp
  have le:=(hc.em f12).ldE hi
  have st:=stN g2 (x9 _) (x9 (c.en i)) (qdp _)
  have ld:=ldN (xj H2 H.next (OR (encE (c.en i)) qk)) (x9 _)
  simp only [↓qj,xh,reduceIte,Nat.reduceEqDiff,w4,qau,w12,qn,le,st,ld]
  exact ⟨rfl,f12.set (.inr (qe _)) _⟩
end
end Go.Am
