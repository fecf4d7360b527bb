/- BuKd: BrD BrE BrF. -/
import Derived.Test.YtiibohocdbaekaaAmRBuKc
import Derived.Test.YtiibohocdbaekaaAmRBuKb
import Derived.Test.YtiibohocdbaekaaAmRCodeK
set_option linter.unusedVariables false
set_option linter.unusedSimpArgs false
set_option linter.unusedSectionVars false
set_option maxRecDepth 100000
open Nat (reduceEqDiff)
namespace Go.Am
open No BuI
theorem DW {n n':No} {m:Mg} {o:List Mg} {L:Nat} (h:HS n m L n' o) (hm:11<=m.k/\m.k<=16) :
 bc (mS wT) o+nT L n'+1<=nT L n+wT m.k/\bc (mS wP) o+nP L n'<=nP L n+wP m.k+1/\bc (mS w3) o+n3 n'<=n3 n+w3 m.k/\bc (mS w4) o<=w4 m.k:=by
 have t1:1<=wT m.k:=by unfold wT;repeat' split
                       all_goals omega
 cases h with
 | same=>exact ⟨by rw [jr];omega,by rw [jr];omega,by rw [jr];omega,by rw [jr];omega⟩
 | Gp n' a hk ha hm ho =>
  have e1:nT L n'<=nT L n:=by unfold nT;rw [ho];omega
  have e2:nP L n'<=nP L n:=by unfold nP;omega
  have e3:n3 n'=n3 n:=by unfold n3;rw [ho]
  have ak:wT a.k=1/\wP a.k=0/\w3 a.k=0/\w4 a.k=1:=by rcases ha with q|q|q<;>rw [q]<;>exact ⟨rfl,rfl,rfl,rfl⟩
  have mk:wT m.k=2/\w4 m.k=1:=by rcases hk with q|q|q<;>rw [q]<;>exact ⟨rfl,rfl⟩
  obtain ⟨a1,a2,a3,a4⟩:=ak;obtain ⟨m1,m4⟩:=mk;simp only [yi,jr,mS];rw [a1,a2,a3,a4,m1,m4,e3];exact ⟨by omega,by omega,by omega,by omega⟩
 | packed n' hk hm ho =>
  have e1:nT L n'=nT L n:=by unfold nT;rw [ho,hm]
  have e2:nP L n'=nP L n:=by unfold nP;rw [hm]
  have e3:n3 n'=n3 n:=by unfold n3;rw [ho]
  rw [jr,jr,jr,jr,e1,e2,e3];exact ⟨by omega,by omega,by omega,by omega⟩
 | Ee n' o a hk ha ho hm =>
  have e3:n3 n'=1:=by unfold n3;rw [ho];rfl
  have e3':n3 n=0:=by unfold n3;rcases hk with q|q<;>rw [q.2]<;>rfl
  have et:nT L n'=2*mT n' L:=by unfold nT;rw [ho];rfl
  have et':nT L n=2*mT n L+if m.k=15 then 2 else 0:=by
   unfold nT;rcases hk with q|q<;>rw [q.1,q.2]<;>rfl
  unfold nP;rw [e3,e3',et,et'];simp only [DP,yi,jr,mS,ha];rcases hm with ⟨eo,e⟩|⟨z,zk,eo,e⟩
  ·rw [eo,e];simp only [jr];rcases hk with q|q<;>rw [q.1]<;>simp (config:={ decide:=true }) only [wT,wP,w3,w4,qw,qo,lG,pe]<;>omega
  ·rw [eo];simp only [yi,jr,mS,zk];rcases hk with q|q<;>rw [q.1] at e ⊢<;>simp (config:={ decide:=true }) only [wT,wP,w3,w4,qw,qo,lG,pe] at e ⊢<;>omega
def CN (L:Nat) (n:No) (r:No × List Mg):Prop:=bc (mS wP) r.2+nP L r.1<=nP L n+1/\bc (mS w3) r.2+n3 r.1<=n3 n/\bc (mS w4) r.2=0
theorem CN.quiet {L:Nat} {n n':No} (ho:n'.out=n.out) (hs:∀ l,n'.st l=n.st l):CN L n (n',[]):=by
 refine ⟨?_,?_,rfl⟩
 ·show 0+nP L n'<=_;unfold nP;rw [Ol λ l _=>hs l];omega
 ·show 0+n3 n'<=_;unfold n3;rw [ho];omega
theorem CN.ask (L:Nat) (n:No) {k:Int} (hk:k=1\/k=2) (l:Int):CN L n (n.ask k l):=by
 unfold No.ask;split
 ·exact CN.quiet rfl λ _=>rfl
 ·rename_i h;have h0:n.out.k=0:=by
   by_cases q:n.out.k=0
   ·exact q
   ·exact absurd (.inl q) h
  have e3:n3 n=1:=by unfold n3;rw [h0];rfl
  have hmk:(n.msg k l).k=k:=rfl;have e:nP L { n with out:=n.msg k l } = nP L n:=by unfold nP;rw [Ol (n:=n) (n':={ n with out:=n.msg k l }) λ _ _=>rfl]
  have e3':n3 { n with out:=n.msg k l } = 0:=by
   unfold n3;show (if k=0 then 1 else 0)=0;rw [qd (by omega)]
  refine ⟨?_,?_,?_⟩
  ·show bc (mS wP) [n.msg k l]+nP L { n with out:=n.msg k l }<=_;rw [e];simp only [yi,jr,mS,hmk];rcases hk with q|q<;>rw [q]<;>simp (config:={ decide:=true }) only [wP,qw,qo]<;>omega
  ·show bc (mS w3) [n.msg k l]+n3 { n with out:=n.msg k l }<=_;rw [e3,e3'];simp only [yi,jr,mS,hmk];rcases hk with q|q<;>rw [q]<;>decide
  ·show bc (mS w4) [n.msg k l]=0;simp only [yi,jr,mS,hmk];rcases hk with q|q<;>rw [q]<;>rfl
theorem zI {n:No} (h:n.NI) {L:Nat} (hL:n.lines=L) (x:Bt):CN L n (n.call x):=by
 unfold No.call;split
 ·by_cases hm:n.may x.n
  ·by_cases hs:n.st (ln x.n)=0
   ·rw [q1v h hm hs];exact CN.ask L n (.inl rfl) _
   ·obtain ⟨e,-,-,eo,-,-,-,hv⟩:=q5a h hm hs;rw [e];exact CN.quiet eo λ l=>by unfold No.st;rw [hv]
  ·unfold No.load;rw [qd hm];exact CN.quiet rfl λ _=>rfl
 split
 ·by_cases hm:n.may x.n
  ·by_cases hs:n.st (ln x.n)=2
   ·obtain ⟨e,-,-,eo,-,-,-,hv⟩:=q2o h x.v hm hs;rw [e];exact CN.quiet eo λ l=>by unfold No.st;rw [hv];split<;>rfl
   ·rw [qys h x.v hm hs];exact CN.ask L n (.inr rfl) _
  ·unfold No.store;rw [qd hm];exact CN.quiet rfl λ _=>rfl
 split
 ·by_cases hm:n.may x.n
  ·cases hl:n.live with
   | true=>unfold No.eD;rw [qm hm,qm hl];exact CN.quiet rfl λ _=>rfl
   | false =>
    by_cases hs:n.st (ln x.n)=2
    ·obtain ⟨e,-,-,eo,-,-,-,-,hv⟩:=q78 h x.o x.v hm hl hs;rw [show n.eD x.n x.o x.v=((n.eD x.n x.o x.v).1,[]) from by rw [<-e]];exact CN.quiet eo λ l=>by unfold No.st;rw [hv];split<;>rfl
    ·rw [q4p h x.o x.v hm hl hs];exact CN.ask L n (.inr rfl) _
  ·unfold No.eD;rw [qd hm];exact CN.quiet rfl λ _=>rfl
 split
 ·refine CN.quiet ?_ λ l=>?_
  ·unfold No.begin;split<;>rfl
  ·unfold No.begin;split<;>rfl
 split
 ·refine CN.quiet ?_ λ l=>?_
  ·unfold No.bn;split<;>rfl
  ·unfold No.bn;split
   ·show ((n.c.bn).vw l).st=_;rw [h.ci.mr];rfl
   ·rfl
 split
 ·refine CN.quiet ?_ λ l=>?_
  ·unfold No.abort;repeat' split
   all_goals rfl
  ·unfold No.abort;repeat' split
   ·rfl
   ·show ((n.dB x.n).vw l).st=_;rw [AS h];rfl
   ·rfl
 split
 ·by_cases hs:n.st x.n=0
  ·rw [q4u h hs];exact CN.quiet rfl λ _=>rfl
  ·obtain ⟨-,eo,hv,hab,-,hc⟩:=q1h h hs;have hr:0<=x.n/\x.n<L:=by
    rcases h.ci.nh x.n with ⟨q,-⟩|⟨-,a,b,-⟩
    ·exact absurd q hs
    ·exact ⟨a,by omega⟩
   have hz:(n.aQ x.n).1.st x.n=0:=by unfold No.st;rw [hv];rfl
   have:=F9 (n:=n) (n':=(n.aQ x.n).1) (L:=L) hr.1 hr.2 λ l q=>Ab.s (hab l q);rw [hz] at this;have e3:n3 (n.aQ x.n).1=n3 n:=by unfold n3;rw [eo]
   rcases hc with ⟨s1,e,-⟩|⟨s2,e,-⟩
   ·rw [s1] at this;refine ⟨?_,by rw [e,e3];simp [jr],by rw [e];rfl⟩;rw [e,jr];unfold nP;simp at this;omega
   ·rw [s2] at this;refine ⟨?_,by rw [e,e3];simp [yi,jr,mS,w3],by rw [e];rfl⟩;rw [e];unfold nP;simp only [yi,jr,mS,show wP 3=2 from rfl];simp at this;omega
 ·exact CN.quiet rfl λ _=>rfl
end Go.Am
namespace Go.Am
open No BuI
def bT (b:Bu):Nat:=bc (mS wT) b.fl+bc eT b.l+bc (nT b.l.length) b.ns
def bP (b:Bu):Nat:=bc (mS wP) b.fl+bc eP b.l+bc (nP b.l.length) b.ns
def b3 (b:Bu):Nat:=bc (mS w3) b.fl+bc e3 b.l+bc n3 b.ns
structure Fk (b:Bu) (k:Nat):Prop where
 p:bP b<=k
 t:b3 b<=4
 f:bc (mS w4) b.fl<=bc e4 b.l
section
variable {b:Bu} {V:Int->L8}
theorem CG (hI:BuI b V) {c:Nat} {n:No} (hn:b.ns[c]? = some n) {l:Int} (l0:0<=l) (l1:l<b.l.length):(n.out=n.msg 1 l->n.st l=0)/\(n.out=n.msg 2 l->n.st l ≠ 2):=by
 have w:=hI.nw _ n hn;obtain ⟨y,v,-,-,he⟩:=hI.entry l0 l1;have lc:=he.lc (c:Int) (by omega) (gw hn);obtain ⟨a1,a2,a3⟩:=cE hn l;rw [a1,a2] at lc;have ot:∀ k,n.out=n.msg k l->n.ot l=k:=λ k e=>by unfold No.ot;rw [e];exact qm rfl
 exact ⟨λ e=>lc.t1 (ot 1 e),λ e=>lc.t2 (ot 2 e)⟩
theorem q8j (hI:BuI b V) {i:Nat} (hi:i<b.fl.length):bT (b.lK i)+1<=bT b/\bP (b.lK i)<=bP b+1/\b3 (b.lK i)<=b3 b/\bc (mS w4) (b.lK i).fl+bc e4 b.l<=bc (mS w4) b.fl+bc e4 (b.lK i).l:=by
 obtain ⟨m,hm⟩:∃ m,b.fl[i]? = some m:=⟨_,qv hi⟩
 obtain ⟨mk,mc,ml⟩:=hI.mw m (jf hm);have er:=λ (w:Int->Nat)=>qyf (mS w) b.fl i m hm;unfold Bu.lK;rw [hm];simp only
 by_cases k7:m.k<=7
 ·obtain ⟨x,w,hx,hw,he⟩:=hI.entry ml.1 ml.2;rw [qm k7,hx,hw];obtain ⟨d1,d2,d3,d4⟩:=EI (zT he.xi w m mc) (by omega);have st:=λ (f:De->Nat)=>Jq f b.l m.line.toNat x (x.av w m).1 hx;unfold bT bP b3;simp only [DP,qz];have e1:=er wT;have e2:=er wP;have e3':=er w3;have e4':=er w4;have s1:=st eT;have s2:=st eP;have s3:=st e3;have s4:=st e4;unfold mS at e1 e2 e3' e4' d1 d2 d3 d4 ⊢;exact ⟨by omega,by omega,by omega,by omega⟩
 ·obtain ⟨n,hn,-⟩:=hI.core mc.1 mc.2;have wn:=hI.nw _ n hn;rw [qd k7,hn];obtain ⟨t1,t2⟩:=CG hI hn ml.1 ml.2;obtain ⟨d1,d2,d3,d4⟩:=DW (L:=b.l.length) (xZ wn.ni m (by have:=wn.lines;omega) t1 t2) (by omega);have st:=λ (f:No->Nat)=>Jq f b.ns m.core.toNat n (n.av m).1 hn;unfold bT bP b3;simp only [DP];have e1:=er wT;have e2:=er wP;have e3':=er w3;have e4':=er w4;have s1:=st (nT b.l.length);have s2:=st (nP b.l.length);have s3:=st n3;unfold mS at e1 e2 e3' e4' d1 d2 d3 d4 ⊢;exact ⟨by omega,by omega,by omega,by omega⟩
theorem zV (hI:BuI b V) {k:Nat} (h:Fk b k) (x:Bt):Fk (b.step x) (k+1):=by
 have refl:Fk b (k+1):=⟨DY h.p,h.t,h.f⟩
 unfold Bu.step;split
 ·split
  ·rename_i hr;obtain ⟨-,d2,d3,d4⟩:=q8j hI (i:=x.n.toNat) (by omega);have:=h.p;have:=h.t;have:=h.f;exact ⟨by omega,by omega,by omega⟩
  ·exact refl
 split
 ·cases hn:b.ns[x.c.toNat]? with
  | none=>exact refl
  | some n =>
   have wn:=hI.nw _ n hn;obtain ⟨c1,c2,c3⟩:=zI wn.ni (L:=b.l.length) (by have:=wn.lines;omega) x;have st:=λ (f:No->Nat)=>Jq f b.ns x.c.toNat n (n.call x).1 hn;have:=h.p;have:=h.t;have hf:=h.f;have s2:=st (nP b.l.length);have s3:=st n3;unfold bP b3 at *;refine ⟨?_,?_,?_⟩
   ·show bc (mS wP) (b.fl++(n.call x).2)+bc eP b.l+bc (nP b.l.length) (b.ns.set x.c.toNat (n.call x).1)<=_;rw [DP];omega
   ·show bc (mS w3) (b.fl++(n.call x).2)+bc e3 b.l+bc n3 (b.ns.set x.c.toNat (n.call x).1)<=_;rw [DP];omega
   ·show bc (mS w4) (b.fl++(n.call x).2)<=bc e4 b.l;rw [DP,c3];exact hf
 ·exact refl
theorem FX {α:Type} (f g:α->Nat) (a:Nat):∀ (l:List α),(∀ x ∈ l,f x<=g x+a)->bc f l<=bc g l+a*l.length
 | [],_=>zl _
 | x::l,h=>by
  have:=FX f g a l λ y hy=>h y (vd _ hy);have:=h x (vk ..);rw [yi,yi,jx,Nat.mul_succ];omega
theorem Ho {α:Type} (f:α->Nat) (c:Nat):∀ (l:List α),bc (λ x=>c*f x) l=c*bc f l
 | []=>rfl
 | x::l=>by rw [yi,yi,Ho f c l,Nat.mul_add]
theorem JU {α:Type} (f g:α->Nat):∀ (l:List α),bc (λ x=>f x+g x) l=bc f l+bc g l
 | []=>rfl
 | x::l=>by rw [yi,yi,yi,JU f g l];omega
theorem Et (s:Nat):pop s<=4:=by unfold pop jR;exact List.length_filter_le ..
theorem Nh (hI:BuI b V) {k:Nat} (h:Fk b k):bT b<=k+84:=by
 have f1:=FX (mS wT) (λ m=>mS wP m+(11*mS w3 m+2*mS w4 m)) 0 b.fl λ m hm=>by
  have:=(hI.mw m hm).k;unfold mS;rcases (show m.k=1\/m.k=2\/m.k=3\/m.k=4\/m.k=5\/m.k=6\/m.k=7\/m.k=11\/m.k=12\/m.k=13\/m.k=14\/m.k=15\/m.k=16 by omega) with q|q|q|q|q|q|q|q|q|q|q|q|q<;>rw [q]<;>decide
 have f2:=FX eT (λ x=>eP x+11*e3 x) 0 b.l λ x _=>by unfold eT e3;omega
 have f3:=FX (nT b.l.length) (nP b.l.length) 2 b.ns λ n _=>by unfold nT nP;split<;>omega
 have f4:=FX e4 (λ x=>4*e3 x) 0 b.l λ x _=>by
  unfold e4 e3;split
  ·rename_i q;have p1:p3 x.ph=1:=by rcases q with q|q<;>rw [q]<;>rfl
   have:=Et x.ask;omega
  ·omega
 rw [JU,JU,Ho,Ho] at f1;rw [JU,Ho] at f2;rw [Ho] at f4;have:=h.p;have:=h.t;have:=h.f;have:=hI.N4;unfold bT;unfold bP b3 at *;omega
theorem uR (hI:BuI b V) (hf:b.fl=[]) {c:Nat} {n:No} (hn:b.ns[c]? = some n):n.out.k=0:=by
 have w:=hI.nw c n hn;rcases w.out with h|⟨hk,l0,l1,ho⟩
 ·exact h
 exfalso;obtain ⟨x,v,-,-,he⟩:=hI.entry l0 l1;have xi:=he.xi;have q0:∀ c l,qs b.fl c l=⟨0,0,0,0,0,0,0,0,0,0,0,0,0⟩:=λ c l=>by rw [hf];rfl
 have lcs:=λ (c:Int) c0 c1=>(he.lc c c0 c1)
 have hcn:=gw hn;have lc:=lcs c (by omega) hcn;rw [q0] at lc;obtain ⟨a1,a2,a3⟩:=cE hn n.out.line;have ot:b.ot n.out.line c=n.out.k:=by rw [a2];unfold No.ot;exact qm rfl
 have ph:x.ph ≠ 0:=λ q=>by
  have o1:=lc.o1;have o2:=lc.o2;rw [he.w0 q,q,yT,ot] at o1 o2;have z:∀ k,wn [] (c:Int) k=0:=λ _=>rfl;rw [z] at o1 o2;rcases hk with q|q
  ·rw [q,iU rfl] at o1;exact absurd o1 (by decide)
  ·rw [q,iU rfl] at o2;exact absurd o2 (by decide)
 have hp:=xi.ph;rcases (show x.ph=1\/x.ph=2\/x.ph=3\/x.ph=4 by omega) with p|p|p|p
 ·obtain ⟨-,-,ha,-,-,hN⟩:=xi.p1 p;have:¬ ∀ d:Int,0<=d->d<4->hb x.ask d=0:=λ q=>ha ((xO xi.ab).2 q);have:∃ d:Int,0<=d/\d<4/\hb x.ask d=1:=jb λ q=>this λ d d0 d1=>by
   have:=ft x.ask d;have:hb x.ask d ≠ 1:=λ w=>q ⟨d,d0,d1,w⟩;omega
  obtain ⟨d,d0,d1,hd⟩:=this;have ac:=(lcs d d0 (hN d d0 d1 hd)).ac;rw [q0,m6 p,hd] at ac;exact absurd ac (by decide)
 ·obtain ⟨-,a,a0,aN,ea,-⟩:=xi.p2 p;have rc:=(lcs a a0 aN).rc;have:=(KH a0 (by have:=xi.N4;omega) a0 (by have:=xi.N4;omega)).2;rw [q0,m6 p,ea] at rc;rw [this,qm rfl] at rc;exact absurd rc (by decide)
 ·have o0:=xi.p3 p;have:=(lcs x.ow o0 xi.ow.2).pt (.inr p) rfl;rw [q0] at this;exact absurd this (by decide)
 ·obtain ⟨-,u0,u1,-⟩:=xi.un ph;have gr:=(lcs x.un.core u0 u1).gr;rw [q0,m6 p,iU rfl] at gr;exact absurd gr (by decide)
end
end Go.Am
namespace Go.Am
open Go.Proofs Ca
open Lang (ints)
variable {M:aO} [MK M]
theorem JJ {α:Type} (f:α->Nat):∀ (l:List α),(∀ z ∈ l,f z=0)->bc f l=0:=λ l h=>by rw [A6 f 0 l h,ve]
theorem q2r {f:Nat->Nat}:∀ (n:Nat),(∀ i,f i=0)->iN f n=0
 | 0,_=>rfl
 | n+1,h=>by rw [iN,q2r n h,h]
theorem Da {l c s w:Int} (h:ib l c s w):Fk (cw l c s w) 0:=by
 have hI:=q4o h;have hw:∀ x ∈ (cw l c s w).l,x=eC:=λ x hx=>List.eq_of_mem_replicate (show x ∈ List.replicate l.toNat eC from hx);have hn:∀ n ∈ (cw l c s w).ns,n.out.k=0 /\ ∀ L,mT n L=0:=λ n hn=>by
  obtain ⟨i,hi⟩:=wz hn;obtain ⟨-,rfl⟩:=EK hi;refine ⟨rfl,λ L=>q2r L λ j=>?_⟩;unfold m2;have:(gg (i:Int) l s w).st (j:Int)=0:=by unfold No.st;rw [Nn];rfl
  rw [this];rfl
 have z1:bc eP (cw l c s w).l=0:=JJ _ _ λ x hx=>by rw [hw x hx];rfl
 have z2:bc e3 (cw l c s w).l=0:=JJ _ _ λ x hx=>by rw [hw x hx];rfl
 have z3:bc e4 (cw l c s w).l=0:=JJ _ _ λ x hx=>by rw [hw x hx];rfl
 have z4:bc (nP (cw l c s w).l.length) (cw l c s w).ns=0:=JJ _ _ λ n q=>by unfold nP;rw [(hn n q).2]
 have z5:bc n3 (cw l c s w).ns=1*(cw l c s w).ns.length:=A6 _ 1 _ λ n q=>by unfold n3;rw [qm (hn n q).1]
 have f0:∀ f:Mg->Nat,bc f (cw l c s w).fl=0:=λ _=>rfl;have:=hI.N4;refine ⟨?_,?_,?_⟩
 ·unfold bP;rw [f0,z1,z4];omega
 ·unfold b3;rw [f0,z2,z5];omega
 ·rw [f0,z3];omega
theorem GY (b:Bu):b.fl.length<=bT b:=by
 have h:=FX (λ _=>1) (mS wT) 0 b.fl λ m _=>by
  have t1:1<=wT m.k:=by
   unfold wT
   repeat' split
   all_goals decide
  exact t1
 rw [A6 (λ _=>1) 1 b.fl λ _ _=>rfl] at h;unfold bT;omega
theorem q9k {H0 H:AHeap} {r nb:Nat} {sv bv:AV} {n:No} {ks:List Nat} (h:cd H0 H r nb sv bv n ks) (hk:n.out.k=0):jv M Dn [.ptr r 0] H λ v H'=>v=.tuple [.agg (ai n.out),.bool false]/\Fr Em H H':=by
 refine qwe ?_;obtain ⟨w0,w2,w10⟩:=qwf M ⟨none,Dn⟩;obtain ⟨H1,e1⟩:∃ X,X=H.alloc (OR (ai ⟨0,0,0,.zero⟩) qk):=⟨_,rfl⟩
 have f1:Fr Em H H1:=by rw [e1];exact (Fr.refl H).alloc _
 have g1:H1.get H.next=some (OR (ai ⟨0,0,0,.zero⟩) qk):=by rw [e1,qx]
 have h1:=h.em f1;have st:=iw g1 (xu _) (xu n.out) (jS _);have ln:=fQ (xd H1 H.next (OR (ai n.out) qk)) (xu n.out);have f2:Fr Em H (H1.set H.next (OR (ai n.out) qk)):=f1.set (.inr (qg _)) _;have l3:=h1.l3;have l3':=(h.em f2).l3;rw [hk] at l3 l3';simp only [↓qh,xa,reduceIte,reduceEqDiff,w0,mZ,<-e1,w2,yk,w10,qf,h1.lo,l3,st,l3',ln];exact f2
section
variable {H0 H:AHeap} {B:Nat} {s:Bs} {b:Bu} {own:Nat->Nat}
theorem sR (h:c6 H0 H B s b own) (hb:BB b) {c:Nat} {n:No} (hn:b.ns[c]? = some n) (hk:n.out.k=0):jv M Fh [.ptr B 0,.int .i64 (c:Int)] H λ v H'=>v=.tuple [.agg (ai n.out),.bool false]/\Fr Em H H':=by
 refine qy8 ?_;obtain ⟨H1,e1⟩:∃ X,X=H.alloc (OR (ai ⟨0,0,0,.zero⟩) qk):=⟨_,rfl⟩
 have f1:Fr Em H H1:=by rw [e1];exact (Fr.refl H).alloc _
 have g1:H1.get H.next=some (OR (ai ⟨0,0,0,.zero⟩) qk):=by rw [e1,qx]
 have n1:H1.next=H.next+1:=by rw [e1,xn]
 have h1:=h.em f1;simp only [↓qh,xa,reduceIte,reduceEqDiff,qy9,mZ,<-e1];refine C3.q (qN (M:=M) h1 hb.N4 (c:Int)) λ v H2 ⟨hh,q1,_⟩=>?_;have hl:=(ql.1 hn).1;obtain ⟨A,hA,hv⟩:=q1 ⟨by omega,by omega⟩;rw [ze] at hA;rw [hv,hh];have nr:=h1.no _ n A hn hA;simp only [↓qh,xa,reduceIte,reduceEqDiff,qp];refine C3.q (q9k (M:=M) nr hk) λ v H3 ⟨hv,f3⟩=>?_;rw [hv];have g3:H3.get H.next=some (OR (ai ⟨0,0,0,.zero⟩) qk):=by rw [f3.ae _ (by omega) id];exact g1
 have st:=iw g3 (xu _) (xu n.out) (jS _);have ln:=fQ (xd H3 H.next (OR (ai n.out) qk)) (xu n.out);simp only [↓qh,xa,reduceIte,reduceEqDiff,qp,st,ln];exact (f1.trans f3 λ _ q=>q.elim).set (.inr (qg _)) _
end
abbrev CY (x:Int):List AV:=[.int .u8 x]
theorem q00 {H:AHeap} {l c s w:Int} {xv yv:AV} {xs:List Bt} {ys:List Int} (hal:∀ H1,Fr Em H H1->jv M qpd [] H1 λ v H'=>v=.bool true/\H'=H1) (hx:ep fH 5 H xv xs) (hy:ep CY 1 H yv ys) (hy0:∀ y ∈ ys,0<=y/\y<256):jv M Fo [.agg (cA l c s w),xv,yv] H λ v _=>v=.bool true:=by
 refine qtb ?_;obtain ⟨w0,w4,w6,w14,w29,w19,w60,w34,w25,w62,w40,w28,w85,w67,w59,w44,w73,w50,w84,w52,w58⟩:=qtc M ⟨none,Fo⟩;obtain ⟨H1,e1⟩:∃ X,X=H.alloc (OR (cA l c s w) vh):=⟨_,rfl⟩
 have f1:Fr Em H H1:=by rw [e1];exact (Fr.refl H).alloc _
 have n1:H1.next=H.next+1:=by rw [e1,xn]
 have g1:H1.get H.next=some (OR (cA l c s w) vh):=by rw [e1,qx]
 have ld4:Op.aq 4 [.ptr H.next 0] H1=some (.agg (cA l c s w)):=fQ g1 rfl;have hx1:=hx.em f1;have hy1:=hy.em f1;simp only [↓qh,xa,reduceIte,reduceEqDiff,w0,xw,<-e1];refine C3.q (hal H1 f1) λ v H2 ⟨hv,hh⟩=>?_;rw [hv,hh];simp only [↓qh,xa,reduceIte,reduceEqDiff,w4,ld4];refine C3.q (q59 (M:=M) l c s w hx1) λ v H3 hv=>?_;rcases Ak hv with ⟨_,hv⟩|⟨⟨hok,hn⟩,B,G,bs,own,gs,tg,hv,hz⟩
 ·rw [hv];simp only [↓qh,xa,reduceIte,reduceEqDiff,qp,w6]
 rw [hv];have hxl:=(hx1.em hz.fr).len
 by_cases q200:(200:Int)<((xs.length:Nat):Int)
 ·simp only [↓qh,xa,reduceIte,reduceEqDiff,qp,w6,hxl,q200]
 simp only [↓qh,xa,reduceIte,reduceEqDiff,qp,w6,hxl,q200,w14];refine bG.intro (λ m E Hx=>∃ (i:Nat) (bs:Bs) (own tg:Nat->Nat) (gs:Gs) (b:Bu) (g:Gh) (V:Int->L8),E=[(11,.int .i64 (i:Int)),(9,.ptr G 0),(8,.ptr B 0),(7,.bool true),(3,.ptr H.next 0),(2,yv),(1,xv)]/\m=xs.length-i/\i<=xs.length/\vZ H1 Hx B G l c i bs own gs tg b g V/\Fk b i) ?_ ?_
 ·exact ⟨_,_,⟨0,_,_,_,_,_,_,_,rfl,rfl,zl _,hz,Da hok⟩,by simp only [↓qh,xa,reduceIte,reduceEqDiff]⟩
 rintro m E Hx ⟨i,bs,own,tg,gs,b,g,V,rfl,rfl,hi,hI,hR⟩;have hxx:=hx1.em hI.fr
 by_cases q:(i:Int)<((xs.length:Nat):Int)
 ·obtain ⟨x,hxi⟩:∃ x,xs[i]? = some x:=⟨_,qv (by omega)⟩
  have ix:=hxx.idx hxi (z:=(i:Int)) rfl .i64;have ld:=hxx.aq q8q (by decide) hxi;have wi:aZ .i64 ((i:Int)+1)=((i+1:Nat):Int):=by rw [wx (by omega) (by omega)];omega
  simp only [↓qh,xa,reduceIte,reduceEqDiff,w19,hxx.len,q,w25,ix,ld];refine C3.q (hI.step (M:=M) (by omega) x) λ v H4 ⟨hv,bs4,own4,gs4,tg4,hJ⟩=>?_;simp only [↓qh,xa,reduceIte,reduceEqDiff,w28,wi];exact ⟨_,_,⟨i+1,_,_,_,_,_,_,_,rfl,rfl,by omega,hJ,zV hI.I hR x⟩,by simp only [↓qh,xa,reduceIte,reduceEqDiff],by omega⟩
 have hT:=Nh hI.I hR;simp only [↓qh,xa,reduceIte,reduceEqDiff,w19,hxx.len,q,w29];refine bG.intro (λ m E Hy=>∃ (k:Nat) (bs:Bs) (own:Nat->Nat) (b:Bu),E=[(12,.int .i64 (k:Int)),(8,.ptr B 0),(7,.bool true),(3,.ptr H.next 0),(2,yv)]/\m=400-k/\k<=400/\c6 H1 Hy B bs b own/\BuI b V/\BC b (200+k)/\bT b+k<=284/\(b.ns.length:Int)=c/\Fr Em H1 Hy) ?_ ?_
 ·exact ⟨_,_,⟨0,bs,own,b,rfl,rfl,by omega,hI.r.jT,hI.I,hI.C.mono (by omega),by omega,hI.ns,hI.fr⟩,by simp only [↓qh,xa,reduceIte,reduceEqDiff]⟩
 rintro m E Hy ⟨k,bs,own,b,rfl,rfl,hk,hr,hbI,hC,hbT,hns,hfr⟩;have hb:=hC.bb hbI (by omega);have fl:=GY b;have q400:(k:Int)<400:=by omega
 simp only [↓qh,xa,reduceIte,reduceEqDiff,w34,q400,w40];refine C3.q (qud (M:=M) hr hb) λ fv H5 hfl=>?_
 by_cases hf:b.fl=[]
 ·have hl0:=hfl.sl.len;rw [hf] at hl0;have hr5:=hr.em hfl.fr;simp only [↓qh,xa,reduceIte,reduceEqDiff,w44,hl0,vx,w60];refine C3.q (qud (M:=M) hr5 hb) λ gv H6 hgl=>?_;have hl1:=hgl.sl.len;rw [hf] at hl1;have f6:=hfr.trans (hfl.fr.trans hgl.fr λ _ q=>q.elim) λ _ q=>q.elim;simp only [↓qh,xa,reduceIte,reduceEqDiff,w62];refine bG.intro (λ m E Hz=>∃ (j:Nat),E=[(16,.int .i64 (j:Int)),(15,gv),(8,.ptr B 0),(7,.bool true),(3,.ptr H.next 0)]/\m=b.ns.length-j/\j<=b.ns.length/\Fr Em H6 Hz) ?_ ?_
  ·exact ⟨_,_,⟨0,rfl,rfl,by omega,Fr.refl _⟩,by simp only [↓qh,xa,reduceIte,reduceEqDiff]⟩
  rintro m E Hz ⟨j,rfl,rfl,hj,fz⟩;have gz:Hz.get H.next=some (OR (cA l c s w) vh):=by rw [(f6.trans fz λ _ q=>q.elim).ae _ (by omega) id];exact g1
  have s1:Op.aa [.ptr H.next 1] Hz=some (.int .i64 c):=zf (xb gz) 1;have hgz:=(hgl.sl.em fz).len;rw [hf] at hgz;have N4:=hbI.N4
  by_cases qj:(j:Int)<c
  ·obtain ⟨n,hn⟩:∃ n,b.ns[j]? = some n:=⟨_,qv (by omega)⟩
   have wj:aZ .i64 ((j:Int)+1)=((j+1:Nat):Int):=by rw [wx (by omega) (by omega)];omega
   simp only [↓qh,xa,reduceIte,reduceEqDiff,w67,s1,qj,w73];refine C3.q (sR (M:=M) ((hr5.em hgl.fr).em fz) hb hn (uR hbI hf hn)) λ v H7 ⟨hv,f7⟩=>?_;rw [hv];obtain ⟨H8,e8⟩:∃ X,X=H7.alloc (OR (ai ⟨0,0,0,.zero⟩) qk):=⟨_,rfl⟩
   have f8:Fr Em H7 H8:=by rw [e8];exact (Fr.refl H7).alloc _
   have g8:H8.get H7.next=some (OR (ai ⟨0,0,0,.zero⟩) qk):=by rw [e8,qx]
   have st:=iw g8 (xu _) (xu n.out) (jS _);have f9:Fr Em H7 (H8.set H7.next (OR (ai n.out) qk)):=f8.set (.inr (qg _)) _;simp only [↓qh,xa,reduceIte,reduceEqDiff,qp,mZ,<-e8,st,w84,wj];exact ⟨_,_,⟨j+1,rfl,rfl,by omega,fz.trans (f7.trans f9 λ _ q=>q.elim) λ _ q=>q.elim⟩,by simp only [↓qh,xa,reduceIte,reduceEqDiff],by omega⟩
  ·simp only [↓qh,xa,reduceIte,reduceEqDiff,w67,s1,qj,w85,hgz,vx]
 have hp:0<b.fl.length:=List.length_pos_iff.2 hf;have hne:¬ ((b.fl.length:Nat):Int)=0:=by omega
 have wk:aZ .i64 ((k:Int)+1)=((k+1:Nat):Int):=by rw [wx (by omega) (by omega)];omega
 have hln:=hfl.sl.len;have hyy:=(hy1.em hfr).em hfl.fr;have go:∀ d:Nat,d<b.fl.length -> ∀ (m:Mg),b.fl[d]? = some m->jv M ky [.ptr B 0,.int .i64 (d:Int)] H5 λ v H'=>∃ (bs':Bs) (eR:Nat->Nat),c6 H1 H' B bs' (b.lK d) eR/\Fr Em H1 H':=λ d hd m hm =>
  (qsg (M:=M) (hr.em hfl.fr) hb hbI (λ x hx=>xt (hC.wt x hx) (by omega)) hm).mono λ v H' ⟨hv,s',o',h1,h2,h3⟩=>⟨s',o',h1,(hfr.trans hfl.fr λ _ q=>q.elim).trans h3 λ z q=>.inr (hr.lo z q)⟩
 have fin:∀ d:Nat,d<b.fl.length->bT (b.lK d)+(k+1)<=284/\BuI (b.lK d) V/\BC (b.lK d) (200+(k+1))/\((b.lK d).ns.length:Int)=c:=λ d hd=>⟨by have:=(q8j hbI hd).1;omega,A4 hbI d,Bf hC d,by
  have:=(N1 b ⟨7,0,d,0,0⟩).1;unfold Bu.step at this;rw [qm rfl,qm ⟨by show (0:Int)<=(d:Int);omega,by show (d:Int)<_;omega⟩,show (⟨7,0,(d:Int),0,0⟩:Bt).n.toNat=d from ze d] at this;rw [this];exact hns⟩
 by_cases qy:ys=[]
 ·have hy0':Op.bB [yv]=some (.int .i64 0):=by have:=hyy.len;rw [qy] at this;exact this
  obtain ⟨m,hm⟩:∃ m,b.fl[0]? = some m:=⟨_,qv hp⟩
  simp only [↓qh,xa,reduceIte,reduceEqDiff,w44,hln,hne,w50,w52,hy0',Int.lt_irrefl,w58];refine C3.q (show jv M ky [.ptr B 0,.int .i64 0] H5 _ from go 0 hp m hm) λ v H6 ⟨bs6,own6,h6,f6⟩=>?_;simp only [↓qh,xa,reduceIte,reduceEqDiff,w59,wk];obtain ⟨a1,a2,a3,a4⟩:=fin 0 hp;exact ⟨_,_,⟨k+1,bs6,own6,_,rfl,rfl,by omega,h6,a2,a3,a1,a4,f6⟩,by simp only [↓qh,xa,reduceIte,reduceEqDiff],by omega⟩
 ·have hyp:0<ys.length:=List.length_pos_iff.2 qy;have hyg:(0:Int)<((ys.length:Nat):Int):=by omega
  obtain ⟨y,hyi⟩:∃ y,ys[k % ys.length]? = some y:=⟨_,qv (zH _ hyp)⟩
  obtain ⟨y0,y1⟩:=hy0 y (jf hyi);obtain ⟨a,rfl⟩:∃ a:Nat,y=(a:Int):=⟨y.toNat,by omega⟩
  have r1:Op.bin .rem [.int .i64 (k:Int),.int .i64 ((ys.length:Nat):Int)]=some (.int .i64 ((k % ys.length:Nat):Int)):=by rw [rV hyg,ze]
  have ix:=hyy.idx hyi (z:=((k % ys.length:Nat):Int)) rfl .i64;have ld:Op.aa [.ptr (aM yv) (cu 1 yv (k % ys.length))] H5=some (.int .u8 (a:Int)):=ep.lT (enc:=CY) (size:=1) (λ _=>rfl) hyy hyi Nat.one_pos;have wa:aZ .i64 (a:Int)=(a:Int):=wx (by omega) (by omega);have r2:Op.bin .rem [.int .i64 (a:Int),.int .i64 ((b.fl.length:Nat):Int)]=some (.int .i64 ((a % b.fl.length:Nat):Int)):=by rw [rV (by omega),ze]
  have hd:a % b.fl.length<b.fl.length:=zH _ hp;obtain ⟨m,hm⟩:∃ m,b.fl[a % b.fl.length]? = some m:=⟨_,qv hd⟩
  simp only [↓qh,xa,reduceIte,reduceEqDiff,w44,hln,hne,w50,w52,hyy.len,hyg,r1,ix,ld,wa,r2,w58];refine C3.q (go _ hd m hm) λ v H6 ⟨bs6,own6,h6,f6⟩=>?_;simp only [↓qh,xa,reduceIte,reduceEqDiff,w59,wk];obtain ⟨a1,a2,a3,a4⟩:=fin _ hd;exact ⟨_,_,⟨k+1,bs6,own6,_,rfl,rfl,by omega,h6,a2,a3,a1,a4,f6⟩,by simp only [↓qh,xa,reduceIte,reduceEqDiff],by omega⟩
end Go.Am
