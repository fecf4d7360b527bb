/- LqM8: MnC MnD MnE. -/
import Derived.Test.YtbimikjajohflaaGreatDoorAmMLqM7
import Derived.Test.YtbimikjajohflaaGreatDoorAmMLqM3
set_option linter.unusedVariables false
set_option linter.unusedSimpArgs false
set_option linter.unusedSectionVars false
set_option maxRecDepth 100000
open Nat (reduceEqDiff)
namespace Go.Am
open Lang Go.Proofs
variable {M:aO} [MK M]
theorem Fr.lf {r:Nat} {wv:AV} {H H':AHeap} (f:Fr Em H H'):Fr (MW r wv) H H':=f.mono λ _ _ q=>q.elim
theorem im.trans {r:Nat} {wv:AV} {H H1 H2:AHeap} (f:Fr (MW r wv) H H1) (g:Fr (MW r wv) H1 H2):Fr (MW r wv) H H2:=f.trans g λ _ q=>.inl q
theorem Ms (b:ab) (Q:aK) (E:Env) (D:List aC) (H:AHeap):pA b Q .normal E D H=Q .normal E D H:=rfl
theorem xaa (b:ab) (Q:aK) (c:ah) (E:Env) (D:List aC) (H:AHeap):pA b Q (.panic c) E D H=Q (.panic c) E D H:=rfl
abbrev DX (H0 H:AHeap) (r:Nat) (tv wv:AV) (s':MS):Nat->AHeap->Prop:=λ k H'=>s'.err=k/\k ≠ 0 /\ ∃ wv' a',dD H0 H' r tv wv' a' s'/\Fr (MW r wv) H H' /\ ∀ b,bL wv' b->bL wv b\/H.next<=b
abbrev DR (H0 H:AHeap) (r:Nat) (tv wv:AV) (a:Bool) (s':MS):AV->AHeap->Prop:=λ _ H'=>s'.err=0/\dD H0 H' r tv wv a s'/\Fr (MW r wv) H H'
abbrev DQ (H0 H:AHeap) (r:Nat) (tv wv:AV) (a:Bool) (s':MS):bE->AHeap->Prop:=EQ (DR H0 H r tv wv a s') (DX H0 H r tv wv s')
theorem DX.up {H0 H H1 H':AHeap} {r k:Nat} {tv wv:AV} {s':MS} (h:DX H0 H1 r tv wv s' k H') (f:Fr (MW r wv) H H1):DX H0 H r tv wv s' k H':=by
 obtain ⟨h1,h2,wv',a',h3,h4,h5⟩:=h;exact ⟨h1,h2,wv',a',h3,im.trans f h4,λ b hb=>(h5 b hb).imp id λ q=>xz f.next q⟩
theorem DX.at {H0 H H':AHeap} {r k:Nat} {tv wv:AV} {a:Bool} {s s':MS} (h:dD H0 H' r tv wv a s) (f:Fr (MW r wv) H H') (hk:k ≠ 0) (hs:s' = { s with err:=k }):DX H0 H r tv wv s' k H':=by
 subst hs;exact ⟨rfl,hk,wv,a,h.err k,f,λ b hb=>.inl hb⟩
theorem nO {s:MS} (h:s.left ≠ 0):s.bx = { s with left:=s.left-1 }:=by unfold MS.bx;rw [qc h]
theorem xek {s:MS} (h:s.left=0):s.bx = { s with err:=190 }:=by unfold MS.bx;rw [qk h]
theorem FN {H0 H:AHeap} {r i:Nat} {tv wv:AV} {ts:List Nd} {a:Bool} {s s':MS} {x:Nd} (hn:eT H0 tv ts) (h:dD H0 H r tv wv a s) (hx:ts[i]? = some x) (h20:x.k ≠ 20) (h17:x.k ≠ 17)
 (h0:s.left=0->s'=s.bx)
 (hk:s.left ≠ 0 -> ∀ (ka:AV) (p:Nat) (H2:AHeap),cU eB 1 H0 ka x.kids->dD H0 H2 r tv wv a s.bx->Lc H2 r wv p [.int .i64 x.k,.int .u64 x.n,ka] xf->Fr (MW r wv) H H2 ->
  W M ⟨none,yc⟩ (qz 8) true (aU M [] (DQ H0 H r tv wv a s')) [(4,.ptr p 0),(0,.ptr r 0),(1,.int .i64 (i:Int))] [] H2) :
 kj M yc [.ptr r 0,.int .i64 (i:Int)] H (DQ H0 H r tv wv a s'):=by
 refine O7 ?_;obtain ⟨ka,ha,e2,e3,e4,h1,l1,k1⟩:=Kv hn h hx;obtain ⟨w0,w2,-,-,-,-,-,-,-,-,-,-,-,-,-,-,-,-,-,-,-⟩:=zh M ⟨none,yc⟩;simp only [↓qh,qq,reduceIte,reduceEqDiff,w0,w2,qi,h.l0,e2,e3,e4,l1.ld,h20,h17];refine P3.e (q9h h1) (λ v H2 ⟨hl,h2,f2⟩=>?_) λ k H2 ⟨hl,hk,hh⟩=>?_
 ·exact hk hl ka _ H2 ha h2 (l1.mv f2) (im.trans (Fr.lf k1) f2)
 ·subst hk;subst hh;simp only [↓qh,qq,reduceIte,reduceEqDiff,jA,jF];exact DX.at h1 (Fr.lf k1) (by decide) (by rw [h0 hl,xek hl])
def SD (M:aO) (H0:AHeap) (tv:AV) (ts:List Nd) (x:Lang.St):Prop:=∀ (H:AHeap) (r bb:Nat) (wv:AV) (a:Bool) (s:MS),bj ts bb (x.enc bb)->x.ok->x.small->(a=true->x.dq=false)->s.on->dD H0 H r tv wv a s ->
 kj M yc [.ptr r 0,.int .i64 ((bb+x.sz-1:Nat):Int)] H (DQ H0 H r tv wv a (x.run a s))
def LD (M:aO) (H0:AHeap) (tv:AV) (ts:List Nd) (l:Ls):Prop:=∀ (H:AHeap) (r bb:Nat) (wv:AV) (a:Bool) (s:MS),bj ts bb (l.cu bb)->l.ok->l.small->(a=true->l.dq=false)->s.err=0->dD H0 H r tv wv a s ->
 kj M yc [.ptr r 0,.int .i64 ((bb+l.sz:Nat):Int)] H (DQ H0 H r tv wv a (l.run a s))
def runs (i:Bool):List Lang.St->MS->MS
 | [],s=>s
 | x::l,s=>if s.on then runs i l (x.run i s) else s
theorem xeu (i:Bool):∀ (l:Ls) (s:MS),l.run i s=runs i (av l) s
 | .nil,s=>rfl
 | .cons x l,s=>by simp only [Ls.run,av,runs,xeu i l]
theorem sD (i:Bool) {l:List Lang.St} {s:MS} (h:¬ s.on):runs i l s=s:=by cases l<;>simp [runs,h]
theorem xfa:∀ l:Ls,l.dq=false -> ∀ s ∈ av l,s.dq=false
 | .nil,_,s,h=>by cases h
 | .cons x l,ho,s,h=>by
  simp only [Ls.dq,BL] at ho;rcases x8.1 h with rfl|h
  ·exact ho.1
  ·exact xfa l ho.2 s h
theorem FM {H0:AHeap} {tv:AV} {ts:List Nd} (hn:eT H0 tv ts) (ht:ts.length<=2000) (l:Ls) (hsp:∀ s ∈ av l,SD M H0 tv ts s):LD M H0 tv ts l:=by
 intro H r bb wv a s hs ho hsm hat herr h;refine O7 ?_;obtain ⟨hnd,-⟩:=bj.nd (x:=.l l) hs;have hse:bj ts bb (l.enc bb):=hs.left;have hsz:(It.l l).sz=l.sz+1:=rfl;rw [hsz,show bb+(l.sz+1)-1=bb+l.sz by omega] at hnd;have hnd':(It.l l).nd bb=⟨20,0,ints (l.ends bb)⟩:=by simp [It.nd,It.kn,It.ks,Ls.fv]
 rw [hnd'] at hnd;obtain ⟨ka,ha,e2,e3,e4,h1,l1,k1⟩:=Kv hn h hnd;have hal:=(ha.em h1.fr).len;rw [Nw] at hal;have hlen:=KX l;have aT:=bj.lt (x:=.l l) hs;rw [hsz] at aT;obtain ⟨w0,w2,w8,w14,-,w15,-,-,w17,-,-,w21,-,-,w27,-,-,w38,w31,-,w37⟩:=zh M ⟨none,yc⟩;have t20:=j0 (show (20:Int)=20 from rfl);simp only [↓qh,qq,reduceIte,reduceEqDiff,w0,w2,w8,w14,w15,w17,qi,h.l0,e2,e3,e4,l1.ld,t20,hal,Ms];rw [xeu];refine bS.intro (λ k E' H'=>∃ j sj,E'=[(33,.int .i64 (j:Nat)),(32,.int .i64 ((av l).length:Nat)),(31,ka),(4,.ptr H.next 0),(0,.ptr r 0)]/\k=(av l).length-j/\j<=(av l).length/\dD H0 H' r tv wv a sj/\sj.err=0/\Fr (MW r wv) H H'/\runs a ((av l).drop j) sj=runs a (av l) s) ?_ ?_
 ·exact ⟨_,_,⟨0,s,rfl,rfl,by omega,h1,herr,Fr.lf k1,rfl⟩,by simp only [↓qh,qq,reduceIte,reduceEqDiff]⟩
 rintro k E' Hc ⟨j,sj,rfl,rfl,hj,hw,he,hk,hrun⟩;rcases kg j (av l).length with aT|hge
 ·have q1:(j:Int)<((av l).length:Nat):=by omega
  obtain ⟨x,hsj⟩:∃ x,(av l)[j]? = some x:=⟨(av l)[j],by simp [aT]⟩
  have hm:=xv hsj;obtain ⟨c,hkc,hsc⟩:=MI hse hsj;obtain ⟨i1,i2⟩:=dQ ha hw.fr hkc (z:=(j:Int)) rfl;rw [Lj hsj,runs] at hrun;cases hh:sj.aT with
  | true =>
   have hoff:¬ sj.on:=λ q=>by rw [q.1] at hh;cases hh
   rw [qc hoff] at hrun;have qE:=hw.qE;rw [hh] at qE;simp only [↓qh,qq,reduceIte,reduceEqDiff,w21,w27,w31,q1,i1 .i64,i2,qi,qE,iO,Ms];rw [<-hrun];exact ⟨he,hw,hk⟩
  | false =>
   rw [qk ⟨hh,he⟩] at hrun;have qE:=hw.qE;rw [hh] at qE;simp only [↓qh,qq,reduceIte,reduceEqDiff,w21,w27,w31,w37,q1,i1 .i64,i2,qi,qE];refine P3.e (hsp x hm Hc r c wv a sj hsc (Lb l ho x hm) (OO l hsm x hm) (λ q=>xfa l (hat q) x hm) ⟨hh,he⟩ hw) (λ v H2 ⟨he2,h2,f2⟩=>?_) λ k H2 hx=>?_
   ·have wj:ae .i64 ((j:Int)+1)=((j+1:Nat):Int):=by rw [zk (by omega) (by omega)];omega
    simp only [↓qh,qq,reduceIte,reduceEqDiff,w38,wj];exact ⟨_,_,⟨j+1,x.run a sj,rfl,rfl,by omega,h2,he2,im.trans hk f2,hrun⟩,by simp only [↓qh,qq,reduceIte,reduceEqDiff],by omega⟩
   ·have hoff:¬ (x.run a sj).on:=λ q=>hx.2.1 (by rw [<-hx.1];exact q.2);rw [sD a hoff] at hrun;simp only [↓qh,qq,reduceIte,reduceEqDiff,jA,jF,xaa];rw [<-hrun];exact DX.up hx hk
 ·have q1:¬ (j:Int)<((av l).length:Nat):=by omega
  rw [kc hge,runs] at hrun;simp only [↓qh,qq,reduceIte,reduceEqDiff,w21,q1,iO,Ms];rw [<-hrun];exact ⟨he,hw,hk⟩
end Go.Am
namespace Go.Am
open Lang Go.Proofs
variable {M:aO} [MK M]
theorem xey {l:List Int} (h:∀ x ∈ l,u64 x) {y:Int} (hy:u64 y) (w:Nat):∀ x ∈ l.set w y,u64 x:=λ x hx=>(List.mem_or_eq_of_mem_set hx).elim (h x) λ q=>by rw [q];exact hy
theorem EA {H0:AHeap} {tv:AV} {ts:List Nd} (hn:eT H0 tv ts) (w:Nat) (x:Ex):SD M H0 tv ts (.set w x):=by
 intro H r bb wv a s hs ho hsm hat hon h;obtain ⟨hnd,hks⟩:=bj.nd (x:=.s (.set w x)) hs;have hsx:bj ts bb (x.enc bb):=hks.cons.1;have hnd':(It.s (.set w x)).nd bb=⟨14,w,[((bb+x.sz-1:Nat):Int)]⟩:=by simp [It.nd,It.kn,It.ks,aH,ints,It.sz]
 rw [hnd'] at hnd;obtain ⟨ho7,hox⟩:=ho;refine FN hn h hnd (show (14:Int) ≠ 20 by decide) (show (14:Int) ≠ 17 by decide) (λ q=>by simp only [St.run,qk q]) λ hl ka p H2 ha h2 l2 f2=>?_;simp only [St.run,qc hl];rw [nO hl] at h2 ⊢;obtain ⟨i1,i2⟩:=dQ ha h2.fr (i:=0) rfl (z:=0) rfl;have t14:=j0 (show (14:Int)=14 from rfl);simp only [↓qh,qq,reduceIte,reduceEqDiff,zh,qi,l2.ld,Int.reduceEq,t14,i1 .i64,i2];refine P3.e (HP hn x hsx hox hsm h2) (λ v H3 ⟨y,hu,hv,f3⟩=>?_) λ k H3 ⟨hk,hu,f3⟩=>?_
 ·subst hv;have h3:=h2.em f3;have l3:=l2.em f3;have hu:x.val s.w s.v=some y:=hu;have ry:=Lang.Ex.FA h.wr h.vr hsm hu;have h8:=h.v8;have ei:Op.bp 8 1 [.ptr r 2,.int .u64 (w:Int)]=some (.ptr r (2+w)):=by have:=Ma (len:=8) (size:=1) (b:=r) (o:=2) (k:=.u64) (j:=(w:Int)) (i:=w) rfl (by omega);rwa [oK] at this
  have st:=y9 h3.row (o:=2+w) (n:=1) (v:=.int .u64 y) rfl (by simp [aG,aP,h8];omega) rfl;obtain ⟨h4,f4⟩:=h3.rf (s':={ s with left:=s.left-1,v:=s.v.set w y }) (a':=a) (c:=(aG tv wv a { s with left:=s.left-1 }).take (2+w)++(AV.int .u64 y).cells++(aG tv wv a { s with left:=s.left-1 }).drop (2+w+1)) (by
   obtain ⟨v0,v1,v2,v3,v4,v5,v6,v7,e⟩:=rC (tv:=tv) (wv:=wv) (a:=a) h8;unfold aG aP;simp only [e];rcases (show w=0\/w=1\/w=2\/w=3\/w=4\/w=5\/w=6\/w=7 by omega) with rfl|rfl|rfl|rfl|rfl|rfl|rfl|rfl<;>rfl) rfl (by simpa using h8) (xey h.vr ry w) (by have:=h.fl;simp only;omega)
  simp only [↓qh,qq,reduceIte,reduceEqDiff,zh,l3.ld,ei,st,iO];simp only [hu];exact ⟨hon.2,h4,im.trans (im.trans f2 (Fr.lf f3)) f4⟩
 ·subst hk;have hu:x.val s.w s.v=none:=hu;simp only [↓qh,qq,reduceIte,reduceEqDiff,zh,jA,jF];simp only [hu];exact DX.at (h2.em f3) (im.trans f2 (Fr.lf f3)) (by decide) rfl
theorem Az {H0:AHeap} {tv:AV} {ts:List Nd} (hn:eT H0 tv ts):SD M H0 tv ts .halt:=by
 intro H r bb wv a s hs ho hsm hat hon h;obtain ⟨hnd,hks⟩:=bj.nd (x:=.s .halt) hs;have hnd':(It.s .halt).nd bb=⟨19,0,[]⟩:=by simp [It.nd,It.kn,It.ks,aH,ints,It.sz]
 rw [hnd'] at hnd;refine FN hn h hnd (by decide) (by decide) (λ q=>by simp only [St.run,qk q]) λ hl ka p H2 ha h2 l2 f2=>?_;simp only [St.run,qc hl];rw [nO hl] at h2 ⊢;have t19:=j0 (show (19:Int)=19 from rfl);have K8:=h2.K8;cases a with
 | true =>
  have e1:Op.build [(.int .i64 0)] [(0,1)] [.int .i64 111]=some (.agg [.int .i64 ((111:Nat):Int)]):=rfl;have e2:Op.cM yg [.agg [.int .i64 ((111:Nat):Int)]]=some (fw 111):=rfl;simp only [↓qh,qq,reduceIte,reduceEqDiff,zh,qi,l2.ld,Int.reduceEq,t19,K8,e1,e2,Kz,jA,jF];exact DX.at h2 f2 (by decide) rfl
 | false =>
  have st:=y9 h2.row (o:=15) (n:=1) (v:=.bool true) rfl (by simp [aG,aP,h.v8]) rfl;obtain ⟨h4,f4⟩:=h2.rf (s':={ s with left:=s.left-1,aT:=true }) (a':=false) (c:=(aG tv wv false { s with left:=s.left-1 }).take 15++(AV.bool true).cells++(aG tv wv false { s with left:=s.left-1 }).drop (15+1)) (by
   obtain ⟨v0,v1,v2,v3,v4,v5,v6,v7,e⟩:=rC (tv:=tv) (wv:=wv) (a:=false) h.v8;unfold aG aP;simp only [e];rfl) rfl h.v8 h.vr (by have:=h.fl;simp only;omega)
  simp only [↓qh,qq,reduceIte,reduceEqDiff,zh,qi,l2.ld,Int.reduceEq,t19,K8,st,iO];simp only [qc (show ¬ (false=true) by decide)];exact ⟨hon.2,h4,im.trans f2 f4⟩
theorem dD.OK {H0 H:AHeap} {r i:Nat} {tv wv:AV} {a:Bool} {s:MS} (h:dD H0 H r tv wv a s) (hi:i<s.w.length) {y:Int} (hy:u64 y) :
 ∃ H',Op.store 1 [.ptr (dK wv) (eU 1 wv i),.int .u64 y] H=some (.undef,H')/\dD H0 H' r tv wv a { s with w:=s.w.set i y }/\Fr (MW r wv) H H':=by
 obtain ⟨x,hx⟩:∃ x,s.w[i]? = some x:=⟨s.w[i],by simp⟩
 obtain ⟨H',h1,h2,h3⟩:=h.nw.own.pj q8y hx (j:=0) (by decide) (u:=.int .u64 y) rfl (y:=y) rfl;have f:Fr (MW r wv) H H':=h3.mono λ _ _ q=>.inr q;have hg:=h3.aj r h.hi h.off;exact ⟨H',h1,⟨by rw [hg];exact h.row,h.lo,qe h.hi h3.next,⟨h2,h.nw.fr.trans h3 λ x hx=>.inr (h.nw.fresh x hx),h.nw.fresh⟩,h.off,h.v8,by simp only [xm];exact h.wl,xey h.wr hy i,h.vr,h.fl⟩,f⟩
theorem wP {H0:AHeap} {tv:AV} {ts:List Nd} (hn:eT H0 tv ts) (x y:Ex):SD M H0 tv ts (.store x y):=by
 intro H r bb wv a s hs ho hsm hat hon h;obtain ⟨hnd,hks⟩:=bj.nd (x:=.s (.store x y)) hs;have hsx:bj ts bb (x.enc bb):=hks.cons.1;have hsy:bj ts (bb+x.sz) (y.enc (bb+x.sz)):=hks.cons.2.cons.1;have hnd':(It.s (.store x y)).nd bb=⟨15,0,[((bb+x.sz-1:Nat):Int),((bb+x.sz+y.sz-1:Nat):Int)]⟩:=by simp [It.nd,It.kn,It.ks,aH,ints,It.sz]
 rw [hnd'] at hnd;obtain ⟨hox,hoy⟩:=ho;refine FN hn h hnd (show (15:Int) ≠ 20 by decide) (show (15:Int) ≠ 17 by decide) (λ q=>by simp only [St.run,qk q]) λ hl ka p H2 ha h2 l2 f2=>?_;simp only [St.run,qc hl];rw [nO hl] at h2 ⊢;obtain ⟨i1,i2⟩:=dQ ha h2.fr (i:=0) rfl (z:=0) rfl;have t15:=j0 (show (15:Int)=15 from rfl);simp only [↓qh,qq,reduceIte,reduceEqDiff,zh,qi,l2.ld,Int.reduceEq,t15,i1 .i64,i2];refine P3.e (HP hn x hsx hox hsm.1 h2) (λ v H3 ⟨u,hu,hv,f3⟩=>?_) λ k H3 ⟨hk,hu,f3⟩=>?_
 ·subst hv;have h3:=h2.em f3;have l3:=l2.em f3;have hu:x.val s.w s.v=some u:=hu;have ru:=Lang.Ex.FA h.wr h.vr hsm.1 hu;obtain ⟨j1,j2⟩:=dQ ha h3.fr (i:=1) rfl (z:=1) rfl;simp only [↓qh,qq,reduceIte,reduceEqDiff,zh,l3.ld,j1 .i64,j2];refine P3.e (HP hn y hsy hoy hsm.2 h3) (λ v H4 ⟨z,hz,hv,f4⟩=>?_) λ k H4 ⟨hk,hz,f4⟩=>?_
  ·subst hv;have h4:=h3.em f4;have hz:y.val s.w s.v=some z:=hz;have rz:=Lang.Ex.FA h.wr h.vr hsm.2 hz;have f24:=im.trans (im.trans f2 (Fr.lf f3)) (Fr.lf f4);simp only [↓qh,qq,reduceIte,reduceEqDiff,zh,qi,h4.l1];refine P3.e (xfk h4 ru) (λ v H5 ⟨aT,hv,hh⟩=>?_) λ k H5 ⟨hge,hk,hh⟩=>?_
   ·subst hv;subst hh;have aT:u.toNat<s.w.length:=aT;obtain ⟨w0,hw0⟩:∃ w0,s.w[u.toNat]? = some w0:=⟨s.w[u.toNat],by simp⟩
    have q1:=h4.nw.sl.idx hw0 rfl .i64;obtain ⟨H6,st,h6,f6⟩:=h4.OK (i:=u.toNat) aT rz;simp only [↓qh,qq,reduceIte,reduceEqDiff,zh,h4.l1,q1,st,iO];simp only [hu,hz,qk aT];exact ⟨hon.2,h6,im.trans f24 f6⟩
   ·subst hk;subst hh;have hge:s.w.length<=u.toNat:=hge;simp only [↓qh,qq,reduceIte,reduceEqDiff,zh,jA,jF];simp only [hu,hz,qc (Nat.not_lt.2 hge)];exact DX.at h4 f24 (by decide) rfl
  ·subst hk;have hz:y.val s.w s.v=none:=hz;simp only [↓qh,qq,reduceIte,reduceEqDiff,zh,jA,jF];simp only [hu,hz];exact DX.at (h3.em f4) (im.trans (im.trans f2 (Fr.lf f3)) (Fr.lf f4)) (by decide) rfl
 ·subst hk;have hu:x.val s.w s.v=none:=hu;simp only [↓qh,qq,reduceIte,reduceEqDiff,zh,jA,jF];simp only [hu];exact DX.at (h2.em f3) (im.trans f2 (Fr.lf f3)) (by decide) rfl
end Go.Am
namespace Go.Am
open Lang Go.Proofs
variable {M:aO} [MK M]
theorem Ea {H0:AHeap} {tv:AV} {ts:List Nd} (hn:eT H0 tv ts) (c:Cn) (l:Ls) (hl':LD M H0 tv ts l):SD M H0 tv ts (.ite c l):=by
 intro H r bb wv a s hs ho hsm hat hon h;obtain ⟨hnd,hks⟩:=bj.nd (x:=.s (.ite c l)) hs;have hsc:bj ts bb (c.enc bb):=hks.cons.1;have hsl:bj ts (bb+c.sz) (l.cu (bb+c.sz)):=hks.cons.2.cons.1;have hnd':(It.s (.ite c l)).nd bb=⟨16,0,[((bb+c.sz-1:Nat):Int),((bb+c.sz+l.sz:Nat):Int)]⟩:=by simp [It.nd,It.kn,It.ks,aH,ints,It.sz]
 rw [hnd'] at hnd;refine FN hn h hnd (show (16:Int) ≠ 20 by decide) (show (16:Int) ≠ 17 by decide) (λ q=>by simp only [St.run,qk q]) λ hl ka p H2 ha h2 l2 f2=>?_;simp only [St.run,qc hl];rw [nO hl] at h2 ⊢;obtain ⟨i1,i2⟩:=dQ ha h2.fr (i:=0) rfl (z:=0) rfl;have t16:=j0 (show (16:Int)=16 from rfl);simp only [↓qh,qq,reduceIte,reduceEqDiff,zh,qi,l2.ld,Int.reduceEq,t16,i1 .i64,i2];refine P3.e (Oi hn c hsc ho.1 hsm.1 h2) (λ v H3 ⟨q,hq,hv,f3⟩=>?_) λ k H3 ⟨hk,hq,f3⟩=>?_
 ·subst hv;have h3:=h2.em f3;have l3:=l2.em f3;have hq:c.so s.w s.v=some q:=hq;have f23:=im.trans f2 (Fr.lf f3);cases q with
  | true =>
   obtain ⟨j1,j2⟩:=dQ ha h3.fr (i:=1) rfl (z:=1) rfl;simp only [↓qh,qq,reduceIte,reduceEqDiff,zh,l3.ld,j1 .i64,j2];simp only [hq];refine P3.e (hl' H3 r _ wv a { s with left:=s.left-1 } hsl ho.2 hsm.2 hat hon.2 h3) (λ v H4 ⟨g1,g2,g3⟩=>?_) λ k H4 hx=>?_
   ·simp only [↓qh,qq,reduceIte,reduceEqDiff,zh,iO];exact ⟨g1,g2,im.trans f23 g3⟩
   ·simp only [↓qh,qq,reduceIte,reduceEqDiff,zh,jA,jF];exact DX.up hx f23
  | false =>
   have hal:=(ha.em h3.fr).len;have t1:¬ (([((bb+c.sz-1:Nat):Int),((bb+c.sz+l.sz:Nat):Int)].length:Nat):Int)=3:=by simp
   simp only [↓qh,qq,reduceIte,reduceEqDiff,zh,l3.ld,hal,t1,iO];simp only [hq];exact ⟨hon.2,h3,f23⟩
 ·subst hk;have hq:c.so s.w s.v=none:=hq;simp only [↓qh,qq,reduceIte,reduceEqDiff,zh,jA,jF];simp only [hq];exact DX.at (h2.em f3) (im.trans f2 (Fr.lf f3)) (by decide) rfl
theorem A2 {H0:AHeap} {tv:AV} {ts:List Nd} (hn:eT H0 tv ts) (c:Cn) (l m:Ls) (hl':LD M H0 tv ts l) (hm':LD M H0 tv ts m):SD M H0 tv ts (.cG c l m):=by
 intro H r bb wv a s hs ho hsm hat hon h;obtain ⟨hnd,hks⟩:=bj.nd (x:=.s (.cG c l m)) hs;have hsc:bj ts bb (c.enc bb):=hks.cons.1;have hsl:bj ts (bb+c.sz) (l.cu (bb+c.sz)):=hks.cons.2.cons.1;have hse:bj ts (bb+c.sz+(l.sz+1)) (m.cu (bb+c.sz+(l.sz+1))):=hks.cons.2.cons.2.cons.1;have hnd':(It.s (.cG c l m)).nd bb=⟨16,0,[((bb+c.sz-1:Nat):Int),((bb+c.sz+l.sz:Nat):Int),((bb+c.sz+(l.sz+1)+m.sz:Nat):Int)]⟩:=by
  simp only [It.nd,It.kn,It.ks,aH,ints,It.sz,xx,kw,Nd.mk.injEq,xc,kr,mQ];refine ⟨rfl,?_⟩;constructor<;>omega
 rw [hnd'] at hnd;have hat1:a=true->l.dq=false:=λ q=>by have:=hat q;simp only [St.dq,BL] at this;exact this.1
 have hat2:a=true->m.dq=false:=λ q=>by have:=hat q;simp only [St.dq,BL] at this;exact this.2
 refine FN hn h hnd (show (16:Int) ≠ 20 by decide) (show (16:Int) ≠ 17 by decide) (λ q=>by simp only [St.run,qk q]) λ hl ka p H2 ha h2 l2 f2=>?_;simp only [St.run,qc hl];rw [nO hl] at h2 ⊢;obtain ⟨i1,i2⟩:=dQ ha h2.fr (i:=0) rfl (z:=0) rfl;have t16:=j0 (show (16:Int)=16 from rfl);simp only [↓qh,qq,reduceIte,reduceEqDiff,zh,qi,l2.ld,Int.reduceEq,t16,i1 .i64,i2];refine P3.e (Oi hn c hsc ho.1 hsm.1 h2) (λ v H3 ⟨q,hq,hv,f3⟩=>?_) λ k H3 ⟨hk,hq,f3⟩=>?_
 ·subst hv;have h3:=h2.em f3;have l3:=l2.em f3;have hq:c.so s.w s.v=some q:=hq;have f23:=im.trans f2 (Fr.lf f3);cases q with
  | true =>
   obtain ⟨j1,j2⟩:=dQ ha h3.fr (i:=1) rfl (z:=1) rfl;simp only [↓qh,qq,reduceIte,reduceEqDiff,zh,l3.ld,j1 .i64,j2];simp only [hq];refine P3.e (hl' H3 r _ wv a { s with left:=s.left-1 } hsl ho.2.1 hsm.2.1 hat1 hon.2 h3) (λ v H4 ⟨g1,g2,g3⟩=>?_) λ k H4 hx=>?_
   ·simp only [↓qh,qq,reduceIte,reduceEqDiff,zh,iO];exact ⟨g1,g2,im.trans f23 g3⟩
   ·simp only [↓qh,qq,reduceIte,reduceEqDiff,zh,jA,jF];exact DX.up hx f23
  | false =>
   have hal:=(ha.em h3.fr).len;have t1:=j0 (show ((([((bb+c.sz-1:Nat):Int),((bb+c.sz+l.sz:Nat):Int),((bb+c.sz+(l.sz+1)+m.sz:Nat):Int)].length:Nat):Int))=3 from rfl);obtain ⟨j1,j2⟩:=dQ ha h3.fr (i:=2) rfl (z:=2) rfl;simp only [↓qh,qq,reduceIte,reduceEqDiff,zh,l3.ld,hal,t1,j1 .i64,j2];simp only [hq];refine P3.e (hm' H3 r _ wv a { s with left:=s.left-1 } hse ho.2.2 hsm.2.2 hat2 hon.2 h3) (λ v H4 ⟨g1,g2,g3⟩=>?_) λ k H4 hx=>?_
   ·simp only [↓qh,qq,reduceIte,reduceEqDiff,zh,iO];exact ⟨g1,g2,im.trans f23 g3⟩
   ·simp only [↓qh,qq,reduceIte,reduceEqDiff,zh,jA,jF];exact DX.up hx f23
 ·subst hk;have hq:c.so s.w s.v=none:=hq;simp only [↓qh,qq,reduceIte,reduceEqDiff,zh,jA,jF];simp only [hq];exact DX.at (h2.em f3) (im.trans f2 (Fr.lf f3)) (by decide) rfl
theorem Ab {H0:AHeap} {tv:AV} {ts:List Nd} (hn:eT H0 tv ts) (c:Cn) (l:Ls) (hl':LD M H0 tv ts l):SD M H0 tv ts (.loop c l):=by
 intro H r bb wv a s hs ho hsm hat hon h;refine O7 ?_;obtain ⟨hnd,hks⟩:=bj.nd (x:=.s (.loop c l)) hs;have hsc:bj ts bb (c.enc bb):=hks.cons.1;have hsl:bj ts (bb+c.sz) (l.cu (bb+c.sz)):=hks.cons.2.cons.1;have hnd':(It.s (.loop c l)).nd bb=⟨17,0,[((bb+c.sz-1:Nat):Int),((bb+c.sz+l.sz:Nat):Int)]⟩:=by simp [It.nd,It.kn,It.ks,aH,ints,It.sz]
 rw [hnd'] at hnd;obtain ⟨ka,ha,e2,e3,e4,h1,l1,k1⟩:=Kv hn h hnd;simp only [It.sz] at e2 e3;simp only at e4 h1 l1 k1;generalize H.alloc (OR [.int .i64 17,.int .u64 0,ka] xf)=H1 at *;obtain ⟨p,hpe⟩:∃ p,p=H.next:=⟨_,rfl⟩
 rw [<-hpe] at e4 l1;obtain ⟨w0,w2,w8,-,w43,-,-,w64,-,w69,-,-,w75,-,-,w78,-,-,-,w84,-⟩:=zh M ⟨none,yc⟩;have t17:=j0 (show (17:Int)=17 from rfl);simp only [St.run];simp only [↓qh,qq,reduceIte,reduceEqDiff,w0,w2,w8,w43,w64,qi,h.l0,e2,e3,<-hpe,e4,l1.ld,Int.reduceEq,t17];refine bS.intro (λ k E' H'=>∃ sj,E'=[(4,.ptr p 0),(0,.ptr r 0)]/\dD H0 H' r tv wv a sj/\sj.err=0/\Fr (MW r wv) H1 H'/\sj.left+1<=k/\eX c.so (l.run a) k sj=eX c.so (l.run a) (s.left+1) s) ?_ ?_
 ·exact ⟨s.left+1,_,⟨s,rfl,h1,hon.2,Fr.lf (Fr.refl _),qf _,rfl⟩,by simp only [↓qh,qq,reduceIte,reduceEqDiff]⟩
 rintro k E' Hc ⟨sj,rfl,hw,he,hf,hk,hrun⟩;obtain ⟨k,rfl⟩:∃ k',k=k'+1:=⟨k-1,by omega⟩
 have lc:=l1.mv hf;have hfH:=im.trans (Fr.lf (r:=r) (wv:=wv) k1) hf;have qE:=hw.qE;rw [eX] at hrun;cases hh:sj.aT with
 | true =>
  have hoff:¬ sj.on:=λ q=>by rw [q.1] at hh;cases hh
  rw [qc hoff] at hrun;rw [hh] at qE;simp only [↓qh,qq,reduceIte,reduceEqDiff,w69,qi,qE,Int.reduceEq,iO];rw [<-hrun];exact ⟨he,hw,hfH⟩
 | false =>
  rw [qk ⟨hh,he⟩] at hrun;rw [hh] at qE;simp only [↓qh,qq,reduceIte,reduceEqDiff,w69,w75,qi,qE];refine P3.e (q9h hw) (λ v H2 ⟨hl,h2,f2⟩=>?_) λ k H2 ⟨hl,hk',hh2⟩=>?_
  ·rw [qc hl] at hrun;rw [nO hl] at h2 hrun;have l2:=lc.mv f2;obtain ⟨i1,i2⟩:=dQ ha h2.fr (i:=0) rfl (z:=0) rfl;simp only [↓qh,qq,reduceIte,reduceEqDiff,w78,l2.ld,i1 .i64,i2];refine P3.e (Oi hn c hsc ho.1 hsm.1 h2) (λ v H3 ⟨q,hq,hv,f3⟩=>?_) λ k H3 ⟨hk,hq,f3⟩=>?_
   ·subst hv;have h3:=h2.em f3;have l3:=l2.em f3;have hq:c.so sj.w sj.v=some q:=hq;simp only [hq] at hrun;have f13:=im.trans (im.trans hf f2) (Fr.lf f3);cases q with
    | true =>
     obtain ⟨j1,j2⟩:=dQ ha h3.fr (i:=1) rfl (z:=1) rfl;simp only [↓qh,qq,reduceIte,reduceEqDiff,w84,l3.ld,j1 .i64,j2];refine P3.e (hl' H3 r _ wv a { sj with left:=sj.left-1 } hsl ho.2 hsm.2 hat he h3) (λ v H4 ⟨g1,g2,g3⟩=>?_) λ k4 H4 hx=>?_
     ·have hle:=(l.tX a { sj with left:=sj.left-1 }).left;simp only at hle;simp only [↓qh,qq,reduceIte,reduceEqDiff];exact ⟨k,_,⟨_,rfl,g2,g1,im.trans f13 g3,by omega,hrun⟩,by simp only [↓qh,qq,reduceIte,reduceEqDiff],by omega⟩
     ·have hoff:¬ (l.run a { sj with left:=sj.left-1 }).on:=λ q=>hx.2.1 (by rw [<-hx.1];exact q.2);rw [xd2 k hoff] at hrun;simp only [↓qh,qq,reduceIte,reduceEqDiff,jA,jF];rw [<-hrun];exact DX.up hx (im.trans (Fr.lf k1) f13)
    | false =>
     simp only [↓qh,qq,reduceIte,reduceEqDiff,iO];rw [<-hrun];exact ⟨he,h3,im.trans (Fr.lf k1) f13⟩
   ·subst hk;have hq:c.so sj.w sj.v=none:=hq;simp only [hq] at hrun;simp only [↓qh,qq,reduceIte,reduceEqDiff,jA,jF];rw [<-hrun];exact DX.at (h2.em f3) (im.trans (Fr.lf k1) (im.trans (im.trans hf f2) (Fr.lf f3))) (by decide) rfl
  ·subst hk';subst hh2;rw [qk hl,xek hl] at hrun;simp only [↓qh,qq,reduceIte,reduceEqDiff,jA,jF];rw [<-hrun];exact DX.at hw hfH (by decide) rfl
end Go.Am
