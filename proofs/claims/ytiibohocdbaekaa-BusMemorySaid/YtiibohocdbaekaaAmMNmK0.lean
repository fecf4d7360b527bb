/- NmK0: StkP SmP Iter3 Iter5 StoN. -/
import Derived.Test.YtiibohocdbaekaaAmMB4
set_option linter.unusedVariables false
set_option linter.unusedSimpArgs false
namespace Go.Am
def dR (x:Nat):List AV:=[.int .i64 (x:Int)]
theorem sy (x:Nat):(dR x).length=1:=rfl
theorem Gc (l:List Nat):l.flatMap dR=l.map λ (x:Nat)=>AV.int .i64 (x:Int):=by
 induction l with
 | nil=>rfl
 | cons a l ih=>rw [ju,ih];rfl
theorem nT (l:List Nat):(l.flatMap dR).length=l.length:=by rw [Gc,zg]
structure iK (e:Nat) (H0 H:AHeap) (v:AV) (xs:List Nat):Prop where
 own:(v=.nils/\xs=[]) \/ ∃ b m rest,v=.gslice b 0 m 1 0 xs.length/\b<H.next/\H0.next<=b/\m=xs.length+rest.length/\H.get b=some (.grown m 1 (xs.flatMap dR++rest) e (0,0))
 fr:Fr Em H0 H
section
variable {e:Nat} {H0 H:AHeap} {v:AV} {xs:List Nat}
theorem iK.nil (e:Nat) (H:AHeap):iK e H H .nils []:=⟨.inl ⟨rfl,rfl⟩,Fr.refl H⟩
theorem iK.fresh (h:iK e H0 H v xs):∀ b,bC v b->H0.next<=b/\b<H.next:=by
 rintro b ⟨h1,rfl⟩;rcases h.own with ⟨rfl,_⟩|⟨b,m,rest,rfl,q1,q2,_⟩
 ·exact (h1 rfl).elim
 ·exact ⟨q2,q1⟩
theorem iK.sl (h:iK e H0 H v xs):eJ dR 1 H v xs:=by
 rcases h.own with ⟨rfl,rfl⟩|⟨b,m,rest,rfl,q1,q2,q3,q4⟩
 ·exact ⟨rfl,rfl⟩
 ·refine ⟨by rw [nT,Dm],rfl,rfl,by omega,.inr ⟨q1,_,L6 q4,?_⟩⟩;rw [oe,qm (by rw [qx,nT];omega),vp,FJ,Dm,j7 (by rw [nT];exact qh _),zh (by rw [nT];exact qh _)]
theorem iK.nX {H':AHeap} {W:Nat->Prop} (h:iK e H0 H v xs) (f:Fr W H H') (f0:Fr Em H0 H') (hw:∀ b,bC v b -> ¬ W b):iK e H0 H' v xs:=by
 refine ⟨?_,f0⟩;rcases h.own with q|⟨b,m,rest,rfl,q1,q2,q3,q4⟩
 ·exact .inl q
 ·exact .inr ⟨b,m,rest,rfl,qp q1 f.next,q2,q3,by rw [f.ae b q1 (hw b ⟨by simp,rfl⟩)];exact q4⟩
theorem iK.em {H':AHeap} (h:iK e H0 H v xs) (f:Fr Em H H'):iK e H0 H' v xs:=h.nX f (h.fr.em f) λ _ _ q=>q
theorem iK.cut (h:iK e H0 H v xs) {k:Nat} (hk:k<=xs.length) {z:Int} (hz:z=k) (kk:IntKind) :
 ∃ v',Op.aQ 1 [none,some 0,none] [v,.int kk z]=some v'/\iK e H0 H v' (xs.take k) /\ ∀ b,bC v' b->bC v b:=by
 rcases h.own with ⟨rfl,rfl⟩|⟨b,m,rest,rfl,q1,q2,q3,q4⟩
 ·have:k=0:=by simpa using hk
  subst this;refine ⟨.nils,?_,⟨.inl ⟨rfl,rfl⟩,h.fr⟩,λ b hb=>hb⟩;have hbn:bound none 0 0=some 0:=rfl;simp [Op.aQ,arg,iS,c6,hbn,pR hz (qh 0)]
 ·have e1:∀ n,Nat.beq n n=true:=λ n=>by simp
  have hb1:∀ d m,bound none d m=some d:=λ _ _=>rfl;have hkm:=yn (show k<=m-0 by omega);refine ⟨.gslice b (0+0) m 1 (cond (Nat.beq 0 0) 0 (0*1)) (k-0),by simp only [Op.aQ,arg,iS,jl,qn,c6,hb1,pR hz (show k<=m-0 by omega),e1,hkm,yn (zq m),jf,xk],⟨.inr ⟨b,m,(xs.drop k).flatMap dR++rest,?_,q1,q2,?_,?_⟩,h.fr⟩,λ b hb=>⟨by simp,hb.2⟩⟩
  ·rw [j6,Nat.min_eq_left hk];rfl
  ·rw [j6,qx,nT,j5];omega
  ·rw [q4,<-zi,<-j4,kn]
theorem iK.push (h:iK e H0 H v xs) {x:Nat} {zero:List AV} {bytes:Nat} (hz:zero.length=1) (hf:(xs.length+1)*bytes<=140737488355328) (hf':xs.length+1<=140737488355328) {K:bK->(Nat->AV)->Bool->AV->AHeap->Prop} {m:Bool}
 (hk:∀ v' H',iK e H0 H' v' (xs ++ [x])->Fr (bC v) H H'->(∀ b,bC v' b->bC v b\/H.next<=b)->K (.row [.int .i64 (x:Int)] e (0,0) true) (Op.sliceTo 1 1) m v' H') :
 aY m (Op.buildSlice e 1 zero [(0,1)] [.int .i64 (x:Int)]) λ g o mk=>aY g (Op.append e 1 bytes [v,mk H.next] (H.alloc o)) (K o mk):=by
 have hb:Op.buildSlice e 1 zero [(0,1)] [.int .i64 (x:Int)]=some (.row [.int .i64 (x:Int)] e (0,0) true,Op.sliceTo 1 1):=KQ e 1 zero (.int .i64 (x:Int)) hz rfl;rw [hb];have hfr:Fr Em H (H.alloc (.row [.int .i64 (x:Int)] e (0,0) true)):=(Fr.refl H).alloc _;have hx:Sl (H.alloc (.row [.int .i64 (x:Int)] e (0,0) true)) 1 (Op.sliceTo 1 1 H.next) 1 [.int .i64 (x:Int)]:=sH rfl;have e1:∀ n,Nat.beq n n=true:=λ n=>by simp
 have ha:aX [AV.int .i64 (x:Int)]=true:=rfl;have hlt:Nat.blt 0 1=true:=rfl;have h10:Nat.beq 1 0=false:=rfl;have hfit:=Jp hf hf';refine aY.intro rfl ?_;rcases h.own with ⟨rfl,rfl⟩|⟨b,mm,rest,rfl,q1,q2,q3,q4⟩
 ·have hfit:fits 1 bytes=true:=by simpa using hfit
  refine aY.intro (a:=.gslice (H.next+1) 0 1 1 0 1) (b:=(H.alloc (.row [.int .i64 (x:Int)] e (0,0) true)).alloc (.grown 1 1 [.int .i64 (x:Int)] e (0,0))) ?_ (hk _ _ ⟨.inr ⟨H.next+1,1,[],rfl,?_,?_,rfl,?_⟩,?_⟩ ((hfr.alloc _).mono λ _ _ q=>q.elim) λ b hb=>.inr ?_)
  ·simp only [Op.append,hx.dO,hx.first,qn,ha,xk,bX,h10,zk,hfit,hlt,jf,cm,xp]
  ·rw [xp,xp];omega
  ·have:=h.fr.next;omega
  ·exact qy ..
  ·exact (h.fr.em hfr).alloc _
  ·rw [hb.2];show H.next<=H.next+1;omega
 ·have q4':(H.alloc (.row [.int .i64 (x:Int)] e (0,0) true)).get b=some (.grown mm 1 (xs.flatMap dR++rest) e (0,0)):=by rw [Kg q1];exact q4
  cases rest with
  | nil =>
   have hm:mm=xs.length:=by simpa using q3
   subst hm;have h3:Nat.ble (0+xs.length+1) xs.length=false:=by cases hq:Nat.ble (0+xs.length+1) xs.length with|false=>rfl|true=>rw [we] at hq;omega
   have h4:=yn (show 0+xs.length<=xs.length by omega);have h5:=yn (zq (xs.length*1));refine aY.intro (a:=.gslice (H.next+1) 0 (xs.length+1) 1 0 (xs.length+1)) (b:=((H.alloc (.row [.int .i64 (x:Int)] e (0,0) true)).kill b).alloc (.grown (xs.length+1) 1 (xs.flatMap dR ++ [.int .i64 (x:Int)]) e (0,0))) ?_ (hk _ _ ⟨.inr ⟨H.next+1,xs.length+1,[],?_,?_,?_,?_,?_⟩,?_⟩ ?_ λ b hb=>.inr ?_)
   ·simp only [Op.append,hx.dO,hx.first,qn,ha,xk,bX,h10,zk,e1,h4,hlt,jf,h3,hfit,q4',h5,cm,xU,xp,jF,zb,Nat.beq]
   ·rw [qx];rfl
   ·rw [xp,xU,xp];omega
   ·have:=h.fr.next;omega
   ·rw [qx];rfl
   ·rw [zb,j4];have:=qy ((H.alloc (.row [.int .i64 (x:Int)] e (0,0) true)).kill b) (.grown (xs.length+1) 1 (xs.flatMap dR ++ [.int .i64 (x:Int)]) e (0,0));rw [xU,xp] at this;exact this
   ·exact ((h.fr.em hfr).kill (.inr q2)).alloc _
   ·exact (Fr.kill (W:=bC (AV.gslice b 0 xs.length 1 0 xs.length)) (hfr.mono λ _ _ q=>q.elim) (.inl ⟨by simp,rfl⟩)).alloc _
   ·rw [hb.2];show H.next<=H.next+1;omega
  | cons r rest =>
   have h3:=yn (show 0+xs.length+1<=mm by simp at q3;omega);have h4:=yn (show 0+xs.length<=mm by omega);have hst:(H.alloc (.row [.int .i64 (x:Int)] e (0,0) true)).store b ((0+xs.length)*1) [.int .i64 (x:Int)]=some ((H.alloc (.row [.int .i64 (x:Int)] e (0,0) true)).set b (.grown mm 1 ((xs ++ [x]).flatMap dR++rest) e (0,0))):=by
    have ht:cM (0,0) ((0+xs.length)*1) (ct [AV.int .i64 (x:Int)])=true:=by simp [cM]
    simp only [AHeap.store,ha,xk,q4',ht,wM];rw [qm (by rw [qx,nT];simp),qn];congr 4;rw [yd,Dm,j7 (by rw [nT];exact qh _),zh (by rw [nT];exact qh _),j4]
    ·rfl
    ·rw [yd,Dm,show [AV.int .i64 (x:Int)].length=1 from rfl,vz,j3 (by rw [nT];omega),nT];simp
   refine aY.intro (a:=.gslice b 0 mm 1 0 (xs.length+1)) (b:=(H.alloc (.row [.int .i64 (x:Int)] e (0,0) true)).set b (.grown mm 1 ((xs ++ [x]).flatMap dR++rest) e (0,0))) ?_ (hk _ _ ⟨.inr ⟨b,mm,rest,?_,?_,q2,?_,?_⟩,?_⟩ ?_ λ c hc=>.inl ⟨by simp,hc.2⟩)
   ·simp only [Op.append,hx.dO,hx.first,qn,ha,xk,bX,h10,zk,e1,h4,hlt,jf,h3,hst]
   ·rw [qx];rfl
   ·rw [Fp,xp];omega
   ·rw [qx];simp at q3 ⊢;omega
   ·exact xe ..
   ·exact (h.fr.em hfr).set (.inr q2) _
   ·exact Fr.set (W:=bC (AV.gslice b 0 mm 1 0 xs.length)) (hfr.mono λ _ _ q=>q.elim) (.inl ⟨by simp,rfl⟩) _
end
end Go.Am
namespace Go.Am
theorem Nu {len size b o:Nat} {k:IntKind} {j:Int} {i:Nat} (hj:j=i) (hi:i<len):Op.aT len size [.ptr b o,.int k j]=some (.ptr b (o+i*size)):=by
 simp only [Op.aT,Ks hj hi,qn]
theorem GZ {k:IntKind} {a:Nat} {b:Int} (hb:0<b):Op.bin .rem [.int k (a:Int),.int k b]=some (.int k ((a % b.toNat:Nat):Int)):=by
 rw [A7 k _ _ (by omega),Int.tmod_eq_emod_of_nonneg (by omega)];congr 2;rw [Int.natCast_emod];congr 1;omega
namespace Lang
def ints (l:List Nat):List Int:=l.map λ (n:Nat)=>(n:Int)
end Lang
end Go.Am
namespace Go.Am
def ny (AP:aL) (g:Nat) (pre cap:List AV) (N O:Nat->Prop) (H0:AHeap) (xs:List (List AV)):Prop :=
 ∀ (L:Nat) (R:Nat->(Nat->Prop)->AHeap->Prop) (S:(Nat->Prop)->AHeap->Prop) (W0:Nat->Prop) (H:AHeap),
  H0.next<=H.next->(∀ b,N b\/O b->b<H0.next/\H.get b=H0.get b /\ ¬ W0 b)->R 0 W0 H->(∀ b,W0 b->b<H.next) ->
  (∀ i W H H',R i W H->(∀ b,W b->H'.get b=H.get b)->H.next<=H'.next->R i W H')->(∀ W H H',S W H->(∀ b,W b->H'.get b=H.get b)->H.next<=H'.next->S W H') ->
  (∀ (i:Nat) x,xs[i]? = some x -> ∀ W H',R i W H'->(∀ b,W b->b<H'.next/\(W0 b\/H.next<=b))->Fr (λ b=>W0 b\/O b) H H' ->
   ∃ bb H'' W',lT AP L x H' (.ret (.bool bb)) H''/\Fr W H' H''/\(∀ b,W' b->b<H''.next/\(W b\/H'.next<=b))/\(bb=true->R (i+1) W' H'')/\(bb=false->S W' H'')) ->
  ∃ v H' W',iG AP g (pre++(.fn (.yield L) [] []::cap)) H (.ret v) H'/\Fr (λ b=>W0 b\/O b) H H'/\(∀ b,W' b->b<H'.next/\(W0 b\/H.next<=b))/\(R xs.length W' H'\/S W' H')
section
variable {AP:aL}
theorem q9y {f:Nat} {fn:av} {k:Nat} {lp:df} (hf:AP.func f=some fn) (hk:nth fn.loops k=some lp) {tm:T AV} {aR:List aM} {up:Option aC} {H:AHeap} {Q:bU}
 {g:Nat} {pre cap:List AV} {N O:Nat->Prop} {H0:AHeap} {xs:List (List AV)} (iF:ny AP g pre cap N O H0 xs)
 (P:Nat->(Nat->Prop)->AHeap->Prop) (PS:aE->(Nat->Prop)->AHeap->Prop) (W0:Nat->Prop)
 (hn:H0.next<=H.next) (hN:∀ b,N b\/O b->b<H0.next/\H.get b=H0.get b /\ ¬ W0 b) (hW0:∀ b,W0 b->b<H.next) (h0:P 0 W0 H)
 (loc:∀ i W H H',P i W H->(∀ b,W b->H'.get b=H.get b)->H.next<=H'.next->P i W H') (locS:∀ e W H H',PS e W H->(∀ b,W b->H'.get b=H.get b)->H.next<=H'.next->PS e W H')
 (hbody:∀ (L d i:Nat) x,xs[i]? = some x->H.next<=L -> ∀ W H1,P i W H1->(∀ b,W b->b<H1.next/\(W0 b\/H.next<=b))->Fr (λ b=>W0 b\/O b) H H1 -> ¬ W L->L<H1.next->H1.get L=some (.loop .ready none f k tm d) ->
  ∃ tm1,BZ tm lp.params x=some tm1/\WP AP ⟨some L,f⟩ lp.assign ⟨tm1,[],none,H1⟩ λ e bV=>e=.normal/\bV.H.get L=some (.loop .ready none f k tm d) /\
   WP AP ⟨some L,f⟩ lp.body ⟨bV.tm,bV.aR,bV.up,bV.H.set L (.loop .busy none f k tm d)⟩ λ e2 st2=>st2.aR=[]/\st2.H.get L=some (.loop .busy none f k tm d) /\
    ∃ W':Nat->Prop,(∀ b,W' b->b<st2.H.next/\(W b\/H1.next<=b))/\Fr (λ b=>W b\/b=L) H1 st2.H/\(e2=.normal/\P (i+1) W' st2.H\/dE e2/\PS e2 W' st2.H))
 (hend:∀ d W' H',H.next<=d->d<H'.next->H'.get d=some (.deferred (some []))->Fr (λ b=>W0 b\/O b) H H'->(∀ b,W' b->b<H'.next/\(W0 b\/H.next<=b)/\b ≠ d)->P xs.length W' H'->Q .normal ⟨tm,.eU d::aR,up,H'⟩)
 (hstop:∀ e d W' H',dE e->H.next<=d->d<H'.next->H'.get d=some (.deferred (some []))->Fr (λ b=>W0 b\/O b) H H'->(∀ b,W' b->b<H'.next/\(W0 b\/H.next<=b)/\b ≠ d)->PS e W' H'->Q e ⟨tm,.eU d::aR,up,H'⟩) :
 AR AP ⟨none,f⟩ k ⟨tm,aR,up,H⟩ Q (.fn (.func g) pre cap):=by
 let d:=H.next
 let L:=H.next+1
 let Hd:=H.alloc (.deferred (some []))
 let HL:=Hd.alloc (.loop .ready none f k tm d)
 have hHL:HL.next=H.next+2:=rfl
 have hgL:HL.get L=some (.loop .ready none f k tm d):=qy Hd _;have hgd:HL.get d=some (.deferred (some [])):=by rw [show HL.get d=Hd.get d from Kg (by show H.next<H.next+1;omega) _];exact qy H _
 have hfr0:Fr Em H HL:=((Fr.refl H).alloc _).alloc _;have hold:∀ b,b<H.next->HL.get b=H.get b:=λ b hb=>hfr0.ae b hb (λ q=>q)
 obtain ⟨v,H',W',hc,hfr,hW',hres⟩:=iF L
  (λ i W H'=>∃ V:Nat->Prop,(∀ b,V b->W b)/\W L /\ ¬ V L /\ ¬ W d/\(∀ b,W b->V b\/b=L)/\P i V H'/\H'.get L=some (.loop .ready none f k tm d)/\L<H'.next)
  (λ W H'=>∃ (V:Nat->Prop) (e:aE) (j:dX),(∀ b,V b->W b)/\W L /\ ¬ V L /\ ¬ W d/\(∀ b,W b->V b\/b=L)/\dE e/\fP e=some j/\PS e V H'/\H'.get L=some (.loop .done (some j) f k tm d)/\L<H'.next)
  (λ b=>W0 b\/b=L) HL (by rw [hHL];omega)
  (λ b hb=>by
   obtain ⟨h1,h2,h3⟩:=hN b hb;exact ⟨h1,by rw [hold b (by omega)];exact h2,λ q=>q.elim h3 λ q=>by have:L=H.next+1:=rfl;omega⟩)
  ⟨W0,λ b hb=>.inl hb,.inr rfl,λ q=>by have:=hW0 _ q;have:L=H.next+1:=rfl;omega,λ q=>q.elim (λ q=>by have:=hW0 _ q;have:d=H.next:=rfl;omega) λ q=>by have:d=H.next:=rfl;have:L=H.next+1:=rfl;omega,
   λ b hb=>hb,loc 0 W0 H HL h0 (λ b hb=>hold b (hW0 b hb)) (by rw [hHL];omega),hgL,by rw [hHL];show H.next+1<H.next+2;omega⟩
  (λ b hb=>hb.elim (λ q=>by have:=hW0 b q;rw [hHL];omega) λ q=>by rw [hHL,q];show H.next+1<H.next+2;omega)
  (λ i W H1 H2 ⟨V,v1,v2,v3,v4,v5,v6,v7,v8⟩ hs hle=>⟨V,v1,v2,v3,v4,v5,loc i V H1 H2 v6 (λ b hb=>hs b (v1 b hb)) hle,by rw [hs L v2];exact v7,qp v8 hle⟩)
  (λ W H1 H2 ⟨V,e,j,v1,v2,v3,v4,v5,v6,v7,v8,v9,v10⟩ hs hle=>⟨V,e,j,v1,v2,v3,v4,v5,v6,v7,locS e V H1 H2 v8 (λ b hb=>hs b (v1 b hb)) hle,by rw [hs L v2];exact v9,qp v10 hle⟩)
  (λ i x hx W H1 ⟨V,v1,v2,v3,v4,v5,v6,v7,v8⟩ hb hfrS=>by
   have hLn0:L=H.next+1:=rfl
   have hfr1:Fr (λ b=>W0 b\/O b) H H1:=⟨xu (by rw [hHL];omega) hfrS.next,λ b hb hw=>by rw [hfrS.ae b (by rw [hHL];omega) (λ q=>q.elim (λ q=>q.elim (λ q=>hw (.inl q)) λ q=>by omega) λ q=>hw (.inr q)),hold b hb]⟩
   have hbV:∀ b,V b->b<H1.next/\(W0 b\/H.next<=b):=λ b q=>⟨(hb b (v1 b q)).1,(hb b (v1 b q)).2.elim (λ r=>r.elim .inl λ r=>by subst r;exact (v3 q).elim) λ r=>.inr (by rw [hHL] at r;omega)⟩
   obtain ⟨tm1,hbp,hw⟩:=hbody L d i x hx (by show H.next<=H.next+1;omega) V H1 v6 hbV hfr1 v3 v8 v7;obtain ⟨e,H2,hr,bb,rfl,W2,k1,k2,k3,k4⟩:=qw4 (Q:=λ e H2=>∃ bb,e=.ret (.bool bb) /\ ∃ W2:Nat->Prop,Fr W H1 H2/\(∀ b,W2 b->b<H2.next/\(W b\/H1.next<=b)) /\
    (bb=true -> ∃ V:Nat->Prop,(∀ b,V b->W2 b)/\W2 L /\ ¬ V L /\ ¬ W2 d/\(∀ b,W2 b->V b\/b=L)/\P (i+1) V H2/\H2.get L=some (.loop .ready none f k tm d)/\L<H2.next) /\
    (bb=false -> ∃ (V:Nat->Prop) (e:aE) (j:dX),(∀ b,V b->W2 b)/\W2 L /\ ¬ V L /\ ¬ W2 d/\(∀ b,W2 b->V b\/b=L)/\dE e/\fP e=some j/\PS e V H2/\H2.get L=some (.loop .done (some j) f k tm d)/\L<H2.next)) v7 hf hk hbp
    (mg hw λ e bV ⟨he,hgl,hw2⟩=>by
     subst he;show bq aA (beginRound bV.H L) _;have:beginRound bV.H L=some (bV.H.set L (.loop .busy none f k tm d)):=by unfold beginRound;rw [hgl]
     rw [this];refine mg hw2 λ e2 st2 ⟨hd2,hg2,W',w1,w2,w3⟩=>⟨hd2,?_⟩
     have hLn:L<st2.H.next:=qp v8 w2.next
     have hd1:d<H1.next:=by have:d=H.next:=rfl;have:L=H.next+1:=rfl;omega
     have fin:∀ s p,Fr W H1 (st2.H.set L (.loop s p f k tm d)):=λ s p=>⟨w2.next,λ b hb hw=>by
      rw [AHeap.aJ,qe (by rintro rfl;exact hw v2)];exact w2.ae b hb λ q=>q.elim (λ q=>hw (v1 b q)) λ q=>hw (by rw [q];exact v2)⟩
     have hW'L:∀ b,(W' b/\b ≠ L)->(st2.H.set L (.loop .ready none f k tm d)).get b=st2.H.get b:=λ b hb=>by rw [AHeap.aJ,qe (λ q=>hb.2 q.symm)]
     have hnV:¬ W' L:=λ q=>by
      rcases (w1 L q).2 with q|q
      ·exact v3 q
      ·omega
     have hnd:¬ W' d:=λ q=>by
      rcases (w1 d q).2 with q|q
      ·exact v4 (v1 d q)
      ·omega
     have hdL:d ≠ L:=by show H.next ≠ H.next+1;omega
     have bounds:∀ b,(W' b\/b=L)->b<st2.H.next/\(W b\/H1.next<=b):=λ b hb=>hb.elim (λ q=>⟨(w1 b q).1,(w1 b q).2.imp (v1 b) id⟩) λ q=>by subst q;exact ⟨hLn,.inl v2⟩
     rcases w3 with ⟨rfl,w3⟩|⟨hj,w3⟩
     ·show bq aA (bQ st2.H L (cond true .ready .done) none) _;have:bQ st2.H L .ready none=some (st2.H.set L (.loop .ready none f k tm d)):=by unfold bQ;rw [hg2]
      rw [xk,this];refine ⟨true,rfl,λ b=>W' b\/b=L,fin _ _,bounds,λ _=>⟨W',λ b hb=>.inl hb,.inr rfl,hnV,λ q=>q.elim hnd hdL,λ b hb=>hb,loc _ _ _ _ w3 (λ b hb=>by rw [AHeap.aJ,qe (by rintro rfl;exact hnV hb)]) (qh _),xe _ _ _,hLn⟩,λ h=>by cases h⟩
     ·obtain ⟨j,hj2⟩:∃ j,fP e2=some j:=by cases e2<;>first|exact hj.elim|exact ⟨_,rfl⟩
      have hnn:qP e2=false:=by cases e2<;>first|exact hj.elim|rfl
      have hmatch:∀ (A:Prop),(bq aA (bQ st2.H L (cond (qP e2) .ready .done) (fP e2)) λ H=>∃ bb,(br.ret (.bool (qP e2))=.ret (.bool bb)) /\ ∃ W2:Nat->Prop,Fr W H1 H/\(∀ b,W2 b->b<H.next/\(W b\/H1.next<=b)) /\
       (bb=true -> ∃ V:Nat->Prop,(∀ b,V b->W2 b)/\W2 L /\ ¬ V L /\ ¬ W2 d/\(∀ b,W2 b->V b\/b=L)/\P (i+1) V H/\H.get L=some (.loop .ready none f k tm d)/\L<H.next) /\
       (bb=false -> ∃ (V:Nat->Prop) (e:aE) (j:dX),(∀ b,V b->W2 b)/\W2 L /\ ¬ V L /\ ¬ W2 d/\(∀ b,W2 b->V b\/b=L)/\dE e/\fP e=some j/\PS e V H/\H.get L=some (.loop .done (some j) f k tm d)/\L<H.next)):=λ _=>by
       have:bQ st2.H L .done (some j)=some (st2.H.set L (.loop .done (some j) f k tm d)):=by unfold bQ;rw [hg2]
       rw [hnn,hj2,zk,this];refine ⟨false,rfl,λ b=>W' b\/b=L,fin _ _,bounds,λ h=>(by cases h),λ _=>⟨W',e2,j,λ b hb=>.inl hb,.inr rfl,hnV,λ q=>q.elim hnd hdL,λ b hb=>hb,hj,hj2,locS _ _ _ _ w3 (λ b hb=>by rw [AHeap.aJ,qe (by rintro rfl;exact hnV hb)]) (qh _),xe _ _ _,hLn⟩⟩
      cases e2 with
      | normal=>exact hj.elim
      | panic _=>exact hj.elim
      | exit _=>exact hmatch True
      | goto _=>exact hmatch True
      | ret=>exact hmatch True)
   exact ⟨bb,H2,W2,hr,k1,k2,k3,k4⟩)
 have hdL:d ≠ L:=by show H.next ≠ H.next+1;omega
 have hdW:¬ ((W0 d\/d=L)\/O d):=λ q=>q.elim (λ q=>q.elim (λ q=>by have:=hW0 _ q;have:d=H.next:=rfl;omega) hdL) λ q=>by have:=(hN d (.inr q)).1;have:d=H.next:=rfl;omega
 have hgd':H'.get d=some (.deferred (some [])):=by rw [hfr.ae d (by rw [hHL];show H.next<H.next+2;omega) hdW];exact hgd
 have hd':d<H'.next:=qp (by rw [hHL];show H.next<H.next+2;omega) hfr.next
 have hout:∀ (o:bK),Fr (λ b=>W0 b\/O b) H (H'.set L o):=λ o=>⟨xu (by rw [hHL];omega) hfr.next,λ b hb hw=>by
  have:L=H.next+1:=rfl
  rw [AHeap.aJ,qe (by omega),hfr.ae b (by rw [hHL];omega) (λ q=>q.elim (λ q=>q.elim (λ q=>hw (.inl q)) λ q=>by omega) λ q=>hw (.inr q)),hold b hb]⟩
 refine ⟨.ret v,H',hc,?_⟩;rcases hres with ⟨V,v1,v2,v3,v4,v5,v6,v7,v8⟩|⟨V,e,j,v1,v2,v3,v4,v5,v6,v7,v8,v9,v10⟩
 ·refine ⟨.ready,none,f,k,tm,d,v7,by simp,?_⟩;refine hend d V _ (qh _) hd' (by rw [AHeap.aJ,qe (λ q=>hdL q.symm)];exact hgd') (hout _) (λ b hb=>⟨(hW' b (v1 b hb)).1,?_,λ q=>v4 (by rw [<-q];exact v1 b hb)⟩) (loc _ _ _ _ v6 (λ b hb=>by rw [AHeap.aJ,qe (by rintro rfl;exact v3 hb)]) (qh _));rcases (hW' b (v1 b hb)).2 with q|q
  ·exact q.imp id λ q=>by subst q;exact (v3 hb).elim
  ·rw [hHL] at q;exact .inr (by omega)
 ·refine ⟨.done,some j,f,k,tm,d,v9,by simp,?_⟩;have he:kQ (some j)=e:=by cases e<;>first|exact v6.elim|(injection v7 with v7;subst v7;rfl)
  rw [he];refine hstop e d V _ v6 (qh _) hd' (by rw [AHeap.aJ,qe (λ q=>hdL q.symm)];exact hgd') (hout _) (λ b hb=>⟨(hW' b (v1 b hb)).1,?_,λ q=>v4 (by rw [<-q];exact v1 b hb)⟩) (locS _ _ _ _ v8 (λ b hb=>by rw [AHeap.aJ,qe (by rintro rfl;exact v3 hb)]) (qh _));rcases (hW' b (v1 b hb)).2 with q|q
  ·exact q.imp id λ q=>by subst q;exact (v3 hb).elim
  ·rw [hHL] at q;exact .inr (by omega)
def pG:List Nat->List AV->Env->Option Env
 | [],[],E=>some E
 | t::ts,v::vs,E=>pG ts vs ((t,v)::E)
 | _,_,_=>none
def MO (M:aL) (ctx:Ctx) (b:Kp × ah) (L:Nat) (lr lb:bK) (Q:aI):aI:=λ e E D H=>match e with
 | .normal=>H.get L=some lr/\W M ctx b true Q E D (H.set L lb)
 | _=>False
theorem Fu (M:aL) (ctx:Ctx) (b:Kp × ah) (L:Nat) (lr lb:bK) (Q:aI) (E:Env) (D:List aM) (H:AHeap):MO M ctx b L lr lb Q .normal E D H=(H.get L=some lr/\W M ctx b true Q E D (H.set L lb)):=propext j2
def IH (P:(Nat->Prop)->AHeap->Prop) (PS:aE->(Nat->Prop)->AHeap->Prop) (L:Nat) (lb:bK) (W:Nat->Prop) (H1:AHeap):aI:=λ e _ D H=>D=[]/\H.get L=some lb /\
 ∃ W':Nat->Prop,(∀ b,W' b->b<H.next/\(W b\/H1.next<=b))/\Fr (λ b=>W b\/b=L) H1 H/\(e=.normal/\P W' H\/dE e/\PS e W' H)
theorem dt.cons {ks:List Nat} {E:Env} {tm:T AV} (h:dt ks E tm) {t:Nat} (v:AV) (ht:bM t ks=true):dt ks ((t,v)::E) (tm.set t v):=λ u x hu=>by
 rw [oX] at hu;split at hu
 ·rename_i e;subst e;injection hu with hu;subst hu
  exact ⟨by rw [T.aJ,qm rfl],ht⟩
 ·rename_i e;obtain ⟨h1,h2⟩:=h u x hu;exact ⟨by rw [T.aJ,qe e,h1],h2⟩
theorem M8 {ks:List Nat}:∀ {ts:List Nat} {vs:List AV} {E E1:Env} {tm:T AV},dt ks E tm->(∀ t ∈ ts,bM t ks=true)->pG ts vs E=some E1 -> ∃ tm1,BZ tm ts vs=some tm1/\dt ks E1 tm1
 | [],[],E,E1,tm,h,ht,hb=>by injection hb with hb;subst hb;exact ⟨tm,rfl,h⟩
 | [],_::_,_,_,_,_,_,hb=>nomatch hb
 | _::_,[],_,_,_,_,_,hb=>nomatch hb
 | t::ts,v::vs,E,E1,tm,h,ht,hb=>M8 (ts:=ts) (vs:=vs) (h.cons v (ht t (BP ..))) (λ u hu=>ht u (ww _ hu)) hb
theorem eK.iter {f:Nat} {fn:av} {k:Nat} {lp:df} (hf:AP.func f=some fn) (hk:nth fn.loops k=some lp) {ks:List Nat} {ts:List Nat} (hp:lp.params=ts) (hts:∀ t ∈ ts,bM t ks=true) {pa pb:Kp × ah} (ha:pa.1.ae=ks/\pa.2=lp.assign) (hb:pb.1.ae=ks/\pb.2=lp.body)
 {E:Env} {D:List aM} {H:AHeap} {Q:aI} {g:Nat} {pre cap:List AV} {N O:Nat->Prop} {H0:AHeap} {xs:List (List AV)} (iF:ny AP g pre cap N O H0 xs)
 (P:Nat->(Nat->Prop)->AHeap->Prop) (PS:aE->(Nat->Prop)->AHeap->Prop) (W0:Nat->Prop)
 (hn:H0.next<=H.next) (hN:∀ b,N b\/O b->b<H0.next/\H.get b=H0.get b /\ ¬ W0 b) (hW0:∀ b,W0 b->b<H.next) (h0:P 0 W0 H)
 (loc:∀ i W H H',P i W H->(∀ b,W b->H'.get b=H.get b)->H.next<=H'.next->P i W H') (locS:∀ e W H H',PS e W H->(∀ b,W b->H'.get b=H.get b)->H.next<=H'.next->PS e W H')
 (hbody:∀ (L i:Nat) (lr lb:bK) x,xs[i]? = some x->H.next<=L -> ∀ W' H1,P i W' H1->(∀ b,W' b->b<H1.next/\(W0 b\/H.next<=b))->Fr (λ b=>W0 b\/O b) H H1 -> ¬ W' L->L<H1.next->H1.get L=some lr ->
  ∃ E1,pG ts x E=some E1/\W AP ⟨some L,f⟩ pa true (MO AP ⟨some L,f⟩ pb L lr lb (IH (P (i+1)) PS L lb W' H1)) E1 [] H1)
 (hend:∀ d W' H',H.next<=d->d<H'.next->H'.get d=some (.deferred (some []))->Fr (λ b=>W0 b\/O b) H H'->(∀ b,W' b->b<H'.next/\(W0 b\/H.next<=b)/\b ≠ d)->P xs.length W' H'->Q .normal E (.eU d::D) H')
 (hstop:∀ e d W' H',dE e->H.next<=d->d<H'.next->H'.get d=some (.deferred (some []))->Fr (λ b=>W0 b\/O b) H H'->(∀ b,W' b->b<H'.next/\(W0 b\/H.next<=b)/\b ≠ d)->PS e W' H'->Q e E (.eU d::D) H') :
 eK AP ks ⟨none,f⟩ k E D H Q (.fn (.func g) pre cap):=by
 intro tm up he;refine q9y hf hk iF P PS W0 hn hN hW0 h0 loc locS ?_ (λ d W' H' h1 h2 h3 h4 h5 h6=>⟨rfl,rfl,hend d W' H' h1 h2 h3 h4 h5 h6⟩) (λ e d W' H' h0 h1 h2 h3 h4 h5 h6=>⟨rfl,rfl,hstop e d W' H' h0 h1 h2 h3 h4 h5 h6⟩);intro L d i x hx hL W' H1 hP hW hfr hnL hLn hgL;obtain ⟨E1,hE1,hw⟩:=hbody L i (.loop .ready none f k tm d) (.loop .busy none f k tm d) x hx hL W' H1 hP hW hfr hnL hLn hgL;obtain ⟨tm1,hb1,he1⟩:=M8 he hts hE1;refine ⟨tm1,by rw [hp];exact hb1,?_⟩;rw [i7] at hw;have:=W3.wp _ _ (qh _) (up:=none) hw (by rw [ha.1];exact he1);rw [ha.2] at this;refine mg this λ e bV ⟨hup,E',hE',hq⟩=>?_;cases e with
 | normal =>
  obtain ⟨hg,hw2⟩:=hq;refine ⟨rfl,hg,?_⟩;rw [i7] at hw2;have:=W3.wp _ _ (qh _) (up:=none) hw2 (show dt pb.1.ae E' bV.tm by rw [hb.1,<-ha.1];exact hE');rw [hb.2] at this;rw [hup];refine mg this λ e2 st2 ⟨hup2,E2,hE2,hd,hg2,W2,k1,k2,k3⟩=>⟨hd,hg2,W2,k1,k2,k3⟩
 | _=>exact hq.elim
theorem AZ (rs:List cQ) (Q:br->AHeap->Prop) (E:Env) (d:Nat) (H:AHeap):aK AP rs Q .ret E [.eU d] H=(H.get d=some (.deferred (some []))/\dn E (H.set d (.deferred none)) rs λ l=>Q (.ret (c7 l)) (H.set d (.deferred none))):=propext j2
end
end Go.Am
namespace Go.Am
def rT (AP:aL) (g:Nat) (pre cap:List AV) (N O:Nat->Prop) (I:AHeap->Prop) (H0:AHeap) (xs:List (List AV)):Prop :=
 ∀ (L:Nat) (R:Nat->(Nat->Prop)->AHeap->Prop) (S:(Nat->Prop)->AHeap->Prop) (W0:Nat->Prop) (H:AHeap),
  H0.next<=H.next->(∀ b,N b\/O b->b<H0.next/\H.get b=H0.get b /\ ¬ W0 b)->R 0 W0 H->(∀ b,W0 b->b<H.next) ->
  (∀ i W H H',R i W H->(∀ b,W b->H'.get b=H.get b)->H.next<=H'.next->R i W H')->(∀ W H H',S W H->(∀ b,W b->H'.get b=H.get b)->H.next<=H'.next->S W H') ->
  (∀ i W H',R i W H'->I H') ->
  (∀ (i:Nat) x,xs[i]? = some x -> ∀ W H',R i W H'->(∀ b,W b->b<H'.next/\(W0 b\/H.next<=b))->Fr (λ b=>W0 b\/O b) H H' ->
   ∃ bb H'' W',lT AP L x H' (.ret (.bool bb)) H''/\Fr W H' H''/\(∀ b,W' b->b<H''.next/\(W b\/H'.next<=b))/\(bb=true->R (i+1) W' H'')/\(bb=false->S W' H'')) ->
  ∃ v H' W',iG AP g (pre++(.fn (.yield L) [] []::cap)) H (.ret v) H'/\Fr (λ b=>W0 b\/O b) H H'/\(∀ b,W' b->b<H'.next/\(W0 b\/H.next<=b))/\(R xs.length W' H'\/S W' H')
section
variable {AP:aL}
theorem q9x {f:Nat} {fn:av} {k:Nat} {lp:df} (hf:AP.func f=some fn) (hk:nth fn.loops k=some lp) {tm:T AV} {aR:List aM} {up:Option aC} {H:AHeap} {Q:bU}
 {g:Nat} {pre cap:List AV} {N O:Nat->Prop} {I:AHeap->Prop} {H0:AHeap} {xs:List (List AV)} (iF:rT AP g pre cap N O I H0 xs)
 (P:Nat->(Nat->Prop)->AHeap->Prop) (PS:aE->(Nat->Prop)->AHeap->Prop) (W0:Nat->Prop)
 (hn:H0.next<=H.next) (hN:∀ b,N b\/O b->b<H0.next/\H.get b=H0.get b /\ ¬ W0 b) (hW0:∀ b,W0 b->b<H.next) (h0:P 0 W0 H)
 (loc:∀ i W H H',P i W H->(∀ b,W b->H'.get b=H.get b)->H.next<=H'.next->P i W H') (locS:∀ e W H H',PS e W H->(∀ b,W b->H'.get b=H.get b)->H.next<=H'.next->PS e W H') (hI:∀ i W H,P i W H->I H)
 (hbody:∀ (L d i:Nat) x,xs[i]? = some x->H.next<=L -> ∀ W H1,P i W H1->(∀ b,W b->b<H1.next/\(W0 b\/H.next<=b))->Fr (λ b=>W0 b\/O b) H H1 -> ¬ W L->L<H1.next->H1.get L=some (.loop .ready none f k tm d) ->
  ∃ tm1,BZ tm lp.params x=some tm1/\WP AP ⟨some L,f⟩ lp.assign ⟨tm1,[],none,H1⟩ λ e bV=>e=.normal/\bV.H.get L=some (.loop .ready none f k tm d) /\
   WP AP ⟨some L,f⟩ lp.body ⟨bV.tm,bV.aR,bV.up,bV.H.set L (.loop .busy none f k tm d)⟩ λ e2 st2=>st2.aR=[]/\st2.H.get L=some (.loop .busy none f k tm d) /\
    ∃ W':Nat->Prop,(∀ b,W' b->b<st2.H.next/\(W b\/H1.next<=b))/\Fr (λ b=>W b\/b=L) H1 st2.H/\(e2=.normal/\P (i+1) W' st2.H\/dE e2/\PS e2 W' st2.H))
 (hend:∀ d W' H',H.next<=d->d<H'.next->H'.get d=some (.deferred (some []))->Fr (λ b=>W0 b\/O b) H H'->(∀ b,W' b->b<H'.next/\(W0 b\/H.next<=b)/\b ≠ d)->P xs.length W' H'->Q .normal ⟨tm,.eU d::aR,up,H'⟩)
 (hstop:∀ e d W' H',dE e->H.next<=d->d<H'.next->H'.get d=some (.deferred (some []))->Fr (λ b=>W0 b\/O b) H H'->(∀ b,W' b->b<H'.next/\(W0 b\/H.next<=b)/\b ≠ d)->PS e W' H'->Q e ⟨tm,.eU d::aR,up,H'⟩) :
 AR AP ⟨none,f⟩ k ⟨tm,aR,up,H⟩ Q (.fn (.func g) pre cap):=by
 let d:=H.next
 let L:=H.next+1
 let Hd:=H.alloc (.deferred (some []))
 let HL:=Hd.alloc (.loop .ready none f k tm d)
 have hHL:HL.next=H.next+2:=rfl
 have hgL:HL.get L=some (.loop .ready none f k tm d):=qy Hd _;have hgd:HL.get d=some (.deferred (some [])):=by rw [show HL.get d=Hd.get d from Kg (by show H.next<H.next+1;omega) _];exact qy H _
 have hfr0:Fr Em H HL:=((Fr.refl H).alloc _).alloc _;have hold:∀ b,b<H.next->HL.get b=H.get b:=λ b hb=>hfr0.ae b hb (λ q=>q)
 obtain ⟨v,H',W',hc,hfr,hW',hres⟩:=iF L
  (λ i W H'=>∃ V:Nat->Prop,(∀ b,V b->W b)/\W L /\ ¬ V L /\ ¬ W d/\(∀ b,W b->V b\/b=L)/\P i V H'/\H'.get L=some (.loop .ready none f k tm d)/\L<H'.next)
  (λ W H'=>∃ (V:Nat->Prop) (e:aE) (j:dX),(∀ b,V b->W b)/\W L /\ ¬ V L /\ ¬ W d/\(∀ b,W b->V b\/b=L)/\dE e/\fP e=some j/\PS e V H'/\H'.get L=some (.loop .done (some j) f k tm d)/\L<H'.next)
  (λ b=>W0 b\/b=L) HL (by rw [hHL];omega)
  (λ b hb=>by
   obtain ⟨h1,h2,h3⟩:=hN b hb;exact ⟨h1,by rw [hold b (by omega)];exact h2,λ q=>q.elim h3 λ q=>by have:L=H.next+1:=rfl;omega⟩)
  ⟨W0,λ b hb=>.inl hb,.inr rfl,λ q=>by have:=hW0 _ q;have:L=H.next+1:=rfl;omega,λ q=>q.elim (λ q=>by have:=hW0 _ q;have:d=H.next:=rfl;omega) λ q=>by have:d=H.next:=rfl;have:L=H.next+1:=rfl;omega,
   λ b hb=>hb,loc 0 W0 H HL h0 (λ b hb=>hold b (hW0 b hb)) (by rw [hHL];omega),hgL,by rw [hHL];show H.next+1<H.next+2;omega⟩
  (λ b hb=>hb.elim (λ q=>by have:=hW0 b q;rw [hHL];omega) λ q=>by rw [hHL,q];show H.next+1<H.next+2;omega)
  (λ i W H1 H2 ⟨V,v1,v2,v3,v4,v5,v6,v7,v8⟩ hs hle=>⟨V,v1,v2,v3,v4,v5,loc i V H1 H2 v6 (λ b hb=>hs b (v1 b hb)) hle,by rw [hs L v2];exact v7,qp v8 hle⟩)
  (λ W H1 H2 ⟨V,e,j,v1,v2,v3,v4,v5,v6,v7,v8,v9,v10⟩ hs hle=>⟨V,e,j,v1,v2,v3,v4,v5,v6,v7,locS e V H1 H2 v8 (λ b hb=>hs b (v1 b hb)) hle,by rw [hs L v2];exact v9,qp v10 hle⟩)
  (λ i W H1 ⟨V,v1,v2,v3,v4,v5,v6,v7,v8⟩=>hI i V H1 v6)
  (λ i x hx W H1 ⟨V,v1,v2,v3,v4,v5,v6,v7,v8⟩ hb hfrS=>by
   have hLn0:L=H.next+1:=rfl
   have hfr1:Fr (λ b=>W0 b\/O b) H H1:=⟨xu (by rw [hHL];omega) hfrS.next,λ b hb hw=>by rw [hfrS.ae b (by rw [hHL];omega) (λ q=>q.elim (λ q=>q.elim (λ q=>hw (.inl q)) λ q=>by omega) λ q=>hw (.inr q)),hold b hb]⟩
   have hbV:∀ b,V b->b<H1.next/\(W0 b\/H.next<=b):=λ b q=>⟨(hb b (v1 b q)).1,(hb b (v1 b q)).2.elim (λ r=>r.elim .inl λ r=>by subst r;exact (v3 q).elim) λ r=>.inr (by rw [hHL] at r;omega)⟩
   obtain ⟨tm1,hbp,hw⟩:=hbody L d i x hx (by show H.next<=H.next+1;omega) V H1 v6 hbV hfr1 v3 v8 v7;obtain ⟨e,H2,hr,bb,rfl,W2,k1,k2,k3,k4⟩:=qw4 (Q:=λ e H2=>∃ bb,e=.ret (.bool bb) /\ ∃ W2:Nat->Prop,Fr W H1 H2/\(∀ b,W2 b->b<H2.next/\(W b\/H1.next<=b)) /\
    (bb=true -> ∃ V:Nat->Prop,(∀ b,V b->W2 b)/\W2 L /\ ¬ V L /\ ¬ W2 d/\(∀ b,W2 b->V b\/b=L)/\P (i+1) V H2/\H2.get L=some (.loop .ready none f k tm d)/\L<H2.next) /\
    (bb=false -> ∃ (V:Nat->Prop) (e:aE) (j:dX),(∀ b,V b->W2 b)/\W2 L /\ ¬ V L /\ ¬ W2 d/\(∀ b,W2 b->V b\/b=L)/\dE e/\fP e=some j/\PS e V H2/\H2.get L=some (.loop .done (some j) f k tm d)/\L<H2.next)) v7 hf hk hbp
    (mg hw λ e bV ⟨he,hgl,hw2⟩=>by
     subst he;show bq aA (beginRound bV.H L) _;have:beginRound bV.H L=some (bV.H.set L (.loop .busy none f k tm d)):=by unfold beginRound;rw [hgl]
     rw [this];refine mg hw2 λ e2 st2 ⟨hd2,hg2,W',w1,w2,w3⟩=>⟨hd2,?_⟩
     have hLn:L<st2.H.next:=qp v8 w2.next
     have hd1:d<H1.next:=by have:d=H.next:=rfl;have:L=H.next+1:=rfl;omega
     have fin:∀ s p,Fr W H1 (st2.H.set L (.loop s p f k tm d)):=λ s p=>⟨w2.next,λ b hb hw=>by
      rw [AHeap.aJ,qe (by rintro rfl;exact hw v2)];exact w2.ae b hb λ q=>q.elim (λ q=>hw (v1 b q)) λ q=>hw (by rw [q];exact v2)⟩
     have hW'L:∀ b,(W' b/\b ≠ L)->(st2.H.set L (.loop .ready none f k tm d)).get b=st2.H.get b:=λ b hb=>by rw [AHeap.aJ,qe (λ q=>hb.2 q.symm)]
     have hnV:¬ W' L:=λ q=>by
      rcases (w1 L q).2 with q|q
      ·exact v3 q
      ·omega
     have hnd:¬ W' d:=λ q=>by
      rcases (w1 d q).2 with q|q
      ·exact v4 (v1 d q)
      ·omega
     have hdL:d ≠ L:=by show H.next ≠ H.next+1;omega
     have bounds:∀ b,(W' b\/b=L)->b<st2.H.next/\(W b\/H1.next<=b):=λ b hb=>hb.elim (λ q=>⟨(w1 b q).1,(w1 b q).2.imp (v1 b) id⟩) λ q=>by subst q;exact ⟨hLn,.inl v2⟩
     rcases w3 with ⟨rfl,w3⟩|⟨hj,w3⟩
     ·show bq aA (bQ st2.H L (cond true .ready .done) none) _;have:bQ st2.H L .ready none=some (st2.H.set L (.loop .ready none f k tm d)):=by unfold bQ;rw [hg2]
      rw [xk,this];refine ⟨true,rfl,λ b=>W' b\/b=L,fin _ _,bounds,λ _=>⟨W',λ b hb=>.inl hb,.inr rfl,hnV,λ q=>q.elim hnd hdL,λ b hb=>hb,loc _ _ _ _ w3 (λ b hb=>by rw [AHeap.aJ,qe (by rintro rfl;exact hnV hb)]) (qh _),xe _ _ _,hLn⟩,λ h=>by cases h⟩
     ·obtain ⟨j,hj2⟩:∃ j,fP e2=some j:=by cases e2<;>first|exact hj.elim|exact ⟨_,rfl⟩
      have hnn:qP e2=false:=by cases e2<;>first|exact hj.elim|rfl
      have hmatch:∀ (A:Prop),(bq aA (bQ st2.H L (cond (qP e2) .ready .done) (fP e2)) λ H=>∃ bb,(br.ret (.bool (qP e2))=.ret (.bool bb)) /\ ∃ W2:Nat->Prop,Fr W H1 H/\(∀ b,W2 b->b<H.next/\(W b\/H1.next<=b)) /\
       (bb=true -> ∃ V:Nat->Prop,(∀ b,V b->W2 b)/\W2 L /\ ¬ V L /\ ¬ W2 d/\(∀ b,W2 b->V b\/b=L)/\P (i+1) V H/\H.get L=some (.loop .ready none f k tm d)/\L<H.next) /\
       (bb=false -> ∃ (V:Nat->Prop) (e:aE) (j:dX),(∀ b,V b->W2 b)/\W2 L /\ ¬ V L /\ ¬ W2 d/\(∀ b,W2 b->V b\/b=L)/\dE e/\fP e=some j/\PS e V H/\H.get L=some (.loop .done (some j) f k tm d)/\L<H.next)):=λ _=>by
       have:bQ st2.H L .done (some j)=some (st2.H.set L (.loop .done (some j) f k tm d)):=by unfold bQ;rw [hg2]
       rw [hnn,hj2,zk,this];refine ⟨false,rfl,λ b=>W' b\/b=L,fin _ _,bounds,λ h=>(by cases h),λ _=>⟨W',e2,j,λ b hb=>.inl hb,.inr rfl,hnV,λ q=>q.elim hnd hdL,λ b hb=>hb,hj,hj2,locS _ _ _ _ w3 (λ b hb=>by rw [AHeap.aJ,qe (by rintro rfl;exact hnV hb)]) (qh _),xe _ _ _,hLn⟩⟩
      cases e2 with
      | normal=>exact hj.elim
      | panic _=>exact hj.elim
      | exit _=>exact hmatch True
      | goto _=>exact hmatch True
      | ret=>exact hmatch True)
   exact ⟨bb,H2,W2,hr,k1,k2,k3,k4⟩)
 have hdL:d ≠ L:=by show H.next ≠ H.next+1;omega
 have hdW:¬ ((W0 d\/d=L)\/O d):=λ q=>q.elim (λ q=>q.elim (λ q=>by have:=hW0 _ q;have:d=H.next:=rfl;omega) hdL) λ q=>by have:=(hN d (.inr q)).1;have:d=H.next:=rfl;omega
 have hgd':H'.get d=some (.deferred (some [])):=by rw [hfr.ae d (by rw [hHL];show H.next<H.next+2;omega) hdW];exact hgd
 have hd':d<H'.next:=qp (by rw [hHL];show H.next<H.next+2;omega) hfr.next
 have hout:∀ (o:bK),Fr (λ b=>W0 b\/O b) H (H'.set L o):=λ o=>⟨xu (by rw [hHL];omega) hfr.next,λ b hb hw=>by
  have:L=H.next+1:=rfl
  rw [AHeap.aJ,qe (by omega),hfr.ae b (by rw [hHL];omega) (λ q=>q.elim (λ q=>q.elim (λ q=>hw (.inl q)) λ q=>by omega) λ q=>hw (.inr q)),hold b hb]⟩
 refine ⟨.ret v,H',hc,?_⟩;rcases hres with ⟨V,v1,v2,v3,v4,v5,v6,v7,v8⟩|⟨V,e,j,v1,v2,v3,v4,v5,v6,v7,v8,v9,v10⟩
 ·refine ⟨.ready,none,f,k,tm,d,v7,by simp,?_⟩;refine hend d V _ (qh _) hd' (by rw [AHeap.aJ,qe (λ q=>hdL q.symm)];exact hgd') (hout _) (λ b hb=>⟨(hW' b (v1 b hb)).1,?_,λ q=>v4 (by rw [<-q];exact v1 b hb)⟩) (loc _ _ _ _ v6 (λ b hb=>by rw [AHeap.aJ,qe (by rintro rfl;exact v3 hb)]) (qh _));rcases (hW' b (v1 b hb)).2 with q|q
  ·exact q.imp id λ q=>by subst q;exact (v3 hb).elim
  ·rw [hHL] at q;exact .inr (by omega)
 ·refine ⟨.done,some j,f,k,tm,d,v9,by simp,?_⟩;have he:kQ (some j)=e:=by cases e<;>first|exact v6.elim|(injection v7 with v7;subst v7;rfl)
  rw [he];refine hstop e d V _ v6 (qh _) hd' (by rw [AHeap.aJ,qe (λ q=>hdL q.symm)];exact hgd') (hout _) (λ b hb=>⟨(hW' b (v1 b hb)).1,?_,λ q=>v4 (by rw [<-q];exact v1 b hb)⟩) (locS _ _ _ _ v8 (λ b hb=>by rw [AHeap.aJ,qe (by rintro rfl;exact v3 hb)]) (qh _));rcases (hW' b (v1 b hb)).2 with q|q
  ·exact q.imp id λ q=>by subst q;exact (v3 hb).elim
  ·rw [hHL] at q;exact .inr (by omega)
theorem eK.Ba {f:Nat} {fn:av} {k:Nat} {lp:df} (hf:AP.func f=some fn) (hk:nth fn.loops k=some lp) {ks:List Nat} {ts:List Nat} (hp:lp.params=ts) (hts:∀ t ∈ ts,bM t ks=true) {pa pb:Kp × ah} (ha:pa.1.ae=ks/\pa.2=lp.assign) (hb:pb.1.ae=ks/\pb.2=lp.body)
 {E:Env} {D:List aM} {H:AHeap} {Q:aI} {g:Nat} {pre cap:List AV} {N O:Nat->Prop} {I:AHeap->Prop} {H0:AHeap} {xs:List (List AV)} (iF:rT AP g pre cap N O I H0 xs)
 (P:Nat->(Nat->Prop)->AHeap->Prop) (PS:aE->(Nat->Prop)->AHeap->Prop) (W0:Nat->Prop)
 (hn:H0.next<=H.next) (hN:∀ b,N b\/O b->b<H0.next/\H.get b=H0.get b /\ ¬ W0 b) (hW0:∀ b,W0 b->b<H.next) (h0:P 0 W0 H)
 (loc:∀ i W H H',P i W H->(∀ b,W b->H'.get b=H.get b)->H.next<=H'.next->P i W H') (locS:∀ e W H H',PS e W H->(∀ b,W b->H'.get b=H.get b)->H.next<=H'.next->PS e W H') (hI:∀ i W H,P i W H->I H)
 (hbody:∀ (L i:Nat) (lr lb:bK) x,xs[i]? = some x->H.next<=L -> ∀ W' H1,P i W' H1->(∀ b,W' b->b<H1.next/\(W0 b\/H.next<=b))->Fr (λ b=>W0 b\/O b) H H1 -> ¬ W' L->L<H1.next->H1.get L=some lr ->
  ∃ E1,pG ts x E=some E1/\W AP ⟨some L,f⟩ pa true (MO AP ⟨some L,f⟩ pb L lr lb (IH (P (i+1)) PS L lb W' H1)) E1 [] H1)
 (hend:∀ d W' H',H.next<=d->d<H'.next->H'.get d=some (.deferred (some []))->Fr (λ b=>W0 b\/O b) H H'->(∀ b,W' b->b<H'.next/\(W0 b\/H.next<=b)/\b ≠ d)->P xs.length W' H'->Q .normal E (.eU d::D) H')
 (hstop:∀ e d W' H',dE e->H.next<=d->d<H'.next->H'.get d=some (.deferred (some []))->Fr (λ b=>W0 b\/O b) H H'->(∀ b,W' b->b<H'.next/\(W0 b\/H.next<=b)/\b ≠ d)->PS e W' H'->Q e E (.eU d::D) H') :
 eK AP ks ⟨none,f⟩ k E D H Q (.fn (.func g) pre cap):=by
 intro tm up he;refine q9x hf hk iF P PS W0 hn hN hW0 h0 loc locS hI ?_ (λ d W' H' h1 h2 h3 h4 h5 h6=>⟨rfl,rfl,hend d W' H' h1 h2 h3 h4 h5 h6⟩) (λ e d W' H' h0 h1 h2 h3 h4 h5 h6=>⟨rfl,rfl,hstop e d W' H' h0 h1 h2 h3 h4 h5 h6⟩);intro L d i x hx hL W' H1 hP hW hfr hnL hLn hgL;obtain ⟨E1,hE1,hw⟩:=hbody L i (.loop .ready none f k tm d) (.loop .busy none f k tm d) x hx hL W' H1 hP hW hfr hnL hLn hgL;obtain ⟨tm1,hb1,he1⟩:=M8 he hts hE1;refine ⟨tm1,by rw [hp];exact hb1,?_⟩;rw [i7] at hw;have:=W3.wp _ _ (qh _) (up:=none) hw (by rw [ha.1];exact he1);rw [ha.2] at this;refine mg this λ e bV ⟨hup,E',hE',hq⟩=>?_;cases e with
 | normal =>
  obtain ⟨hg,hw2⟩:=hq;refine ⟨rfl,hg,?_⟩;rw [i7] at hw2;have:=W3.wp _ _ (qh _) (up:=none) hw2 (show dt pb.1.ae E' bV.tm by rw [hb.1,<-ha.1];exact hE');rw [hb.2] at this;rw [hup];refine mg this λ e2 st2 ⟨hup2,E2,hE2,hd,hg2,W2,k1,k2,k3⟩=>⟨hd,hg2,W2,k1,k2,k3⟩
 | _=>exact hq.elim
end
end Go.Am
namespace Go.Am
theorem q2a {α:Type} {L E:List α} {p size:Nat} (hE:E.length=size) (hp:p+size<=L.length) (h:∀ r,r<size->L[p+r]? = E[r]?):L=L.take p++(E++L.drop (p+size)):=by
 have h1:(L.drop p).take size=E:=by
  refine ky λ r=>?_;rcases jr r size with q|q
  ·rw [kr,qm q,yb,h r q]
  ·rw [zr (by rw [j6];omega),zr (by omega)]
 have h2:L.drop p=E++L.drop (p+size):=by
  rw [<-h1,<-Bp,kn]
 rw [<-h2,kn]
theorem rZ {α:Type} {L E cs:List α} {p size j n:Nat} (hE:E.length=size) (hc:cs.length=n) (hj:j+n<=size) (hp:p+size<=L.length) (h:∀ r,r<size->L[p+r]? = E[r]?) :
 L.take (p+j)++cs++L.drop (p+j+n)=L.take p++((E.take j++cs++E.drop (j+n))++L.drop (p+size)):=by
 obtain ⟨A,hA⟩:∃ A,A=L.take p:=⟨_,rfl⟩
 obtain ⟨B,hB⟩:∃ B,B=L.drop (p+size):=⟨_,rfl⟩
 have hl:A.length=p:=by rw [hA,j6];omega
 have hL:=q2a hE hp h;rw [<-hA,<-hB] at hL;rw [<-hA,<-hB];have e1:L.take (p+j)=A++E.take j:=by
  rw [hL,Fc,hl,zh (by omega),yc,j7 (by omega)]
 have e2:L.drop (p+j+n)=E.drop (j+n)++B:=by
  rw [hL,vz,hl,j3 (by omega),je,show p+j+n-p=j+n by omega,kx (by omega)]
 rw [e1,e2];simp
section
variable {α:Type} {enc:α->List AV} {size:Nat} {H:AHeap} {v:AV} {xs:List α}
theorem q8z (hs:∀ x,(enc x).length=size) {i:Nat} {x y:α} (hx:xs[i]? = some x) {j n:Nat} {cs:List AV} (hc:cs.length=n) (hj:j+n<=size) (hy:enc y=(enc x).take j++cs++(enc x).drop (j+n)) :
 (xs.flatMap enc).take (i*size+j)++cs++(xs.flatMap enc).drop (i*size+j+n)=(xs.set i y).flatMap enc:=by
 have hi:=Bg hx;have hb:(i+1)*size<=xs.length*size:=kc _ hi;rw [px] at hb;have hl:=xQ hs xs;rw [rZ (E:=enc x) (size:=size) (hs x) hc hj (by omega) (λ r hr=>Ch hs xs hx hr),<-hy,Ke hs xs hx];simp [zi,px]
theorem dp.yQ {e:Nat} (hs:∀ x,(enc x).length=size) (h:dp enc e size H v xs) {i:Nat} {x y:α} (hx:xs[i]? = some x) {j n:Nat} {u:AV} (hu:u.cells.length=n) (ho:aX u.cells=true) (hj:j+n<=size) (hy:enc y=(enc x).take j++u.cells++(enc x).drop (j+n)) :
 ∃ H',Op.store n [.ptr (aN v) (cr size v i+j),u] H=some (.undef,H')/\dp enc e size H' v (xs.set i y)/\Fr (On (aN v)) H H':=by
 obtain ⟨b,rfl,h1,h2⟩:=h;have hi:=Bg hx;have hl:=xQ hs xs;have hb:(i+1)*size<=xs.length*size:=kc _ hi;rw [px] at hb;have hst:=oA h2 (o:=i*size+j) (n:=n) (v:=u) hu (by omega) ho;have hso:cr size (AV.slice b 0 xs.length xs.length) i=i*size:=by simp [cr]
 rw [hso];refine ⟨_,hst,⟨b,?_,h1,?_⟩,(Fr.refl H).set (W:=On b) (.inl rfl) _⟩
 ·rw [xc]
 ·rw [xe,q8z hs hx hu hj hy]
theorem dp.HZ {e:Nat} (hs:∀ x,(enc x).length=size) (ho:∀ x,aX (enc x)=true) (h:dp enc e size H v xs) {i:Nat} {x:α} (hx:xs[i]? = some x) (y:α) :
 ∃ H',Op.store size [.ptr (aN v) (cr size v i),.agg (enc y)] H=some (.undef,H')/\dp enc e size H' v (xs.set i y)/\Fr (On (aN v)) H H':=by
 have:=h.yQ hs hx (y:=y) (j:=0) (n:=size) (u:=.agg (enc y)) (by rw [x9];exact hs y) (by rw [x9];exact ho y) (by omega) (by
  rw [x9,CN,je,j3 (by rw [hs];omega),zb])
 rw [qf] at this;exact this
end
end Go.Am
