/- NmK0: StkP SmP Iter3 Iter5 StoN. -/
import Derived.Test.YtiibohocdbaekaaAmRB4
set_option linter.unusedVariables false
set_option linter.unusedSimpArgs false
namespace Go.Am
def dZ (x:Nat):List AV:=[.int .i64 (x:Int)]
theorem tq (x:Nat):(dZ x).length=1:=rfl
theorem Fw (l:List Nat):l.flatMap dZ=l.map λ (x:Nat)=>AV.int .i64 (x:Int):=by
 induction l with
 | nil=>rfl
 | cons a l ih=>rw [jt,ih];rfl
theorem nV (l:List Nat):(l.flatMap dZ).length=l.length:=by rw [Fw,zb]
structure iT (e:Nat) (H0 H:AHeap) (v:AV) (xs:List Nat):Prop where
 own:(v=.nils/\xs=[]) \/ ∃ b m rest,v=.gslice b 0 m 1 0 xs.length/\b<H.next/\H0.next<=b/\m=xs.length+rest.length/\H.get b=some (.grown m 1 (xs.flatMap dZ++rest) e (0,0))
 fr:Fr Em H0 H
section
variable {e:Nat} {H0 H:AHeap} {v:AV} {xs:List Nat}
theorem iT.nil (e:Nat) (H:AHeap):iT e H H .nils []:=⟨.inl ⟨rfl,rfl⟩,Fr.refl H⟩
theorem iT.fresh (h:iT e H0 H v xs):∀ b,bH v b->H0.next<=b/\b<H.next:=by
 rintro b ⟨h1,rfl⟩;rcases h.own with ⟨rfl,_⟩|⟨b,m,rest,rfl,q1,q2,_⟩
 ·exact (h1 rfl).elim
 ·exact ⟨q2,q1⟩
theorem iT.sl (h:iT e H0 H v xs):ep dZ 1 H v xs:=by
 rcases h.own with ⟨rfl,rfl⟩|⟨b,m,rest,rfl,q1,q2,q3,q4⟩
 ·exact ⟨rfl,rfl⟩
 ·refine ⟨by rw [nV,Nat.mul_one],rfl,rfl,by omega,.inr ⟨q1,_,Lm q4,?_⟩⟩;rw [oZ,qm (by rw [qu,nV];omega),ve,Fu,Nat.mul_one,kc (by rw [nV];exact qg _),zw (by rw [nV];exact qg _)]
theorem iT.nX {H':AHeap} {W:Nat->Prop} (h:iT e H0 H v xs) (f:Fr W H H') (f0:Fr Em H0 H') (hw:∀ b,bH v b -> ¬ W b):iT e H0 H' v xs:=by
 refine ⟨?_,f0⟩;rcases h.own with q|⟨b,m,rest,rfl,q1,q2,q3,q4⟩
 ·exact .inl q
 ·exact .inr ⟨b,m,rest,rfl,qn q1 f.next,q2,q3,by rw [f.ae b q1 (hw b ⟨by simp,rfl⟩)];exact q4⟩
theorem iT.em {H':AHeap} (h:iT e H0 H v xs) (f:Fr Em H H'):iT e H0 H' v xs:=h.nX f (h.fr.em f) λ _ _ q=>q
theorem iT.cut (h:iT e H0 H v xs) {k:Nat} (hk:k<=xs.length) {z:Int} (hz:z=k) (kk:IntKind) :
 ∃ v',Op.aR 1 [none,some 0,none] [v,.int kk z]=some v'/\iT e H0 H v' (xs.take k) /\ ∀ b,bH v' b->bH v b:=by
 rcases h.own with ⟨rfl,rfl⟩|⟨b,m,rest,rfl,q1,q2,q3,q4⟩
 ·have:k=0:=by simpa using hk
  subst this;refine ⟨.nils,?_,⟨.inl ⟨rfl,rfl⟩,h.fr⟩,λ b hb=>hb⟩;have hbn:bound none 0 0=some 0:=rfl;simp [Op.aR,arg,iV,dh,hbn,pI hz (qg 0)]
 ·have e1:∀ n,Nat.beq n n=true:=λ n=>by simp
  have hb1:∀ d m,bound none d m=some d:=λ _ _=>rfl;have hkm:=yo (show k<=m-0 by omega);refine ⟨.gslice b (0+0) m 1 (cond (Nat.beq 0 0) 0 (0*1)) (k-0),by simp only [Op.aR,arg,iV,ji,qi,dh,hb1,pI hz (show k<=m-0 by omega),e1,hkm,yo (zl m),jc,xe],⟨.inr ⟨b,m,(xs.drop k).flatMap dZ++rest,?_,q1,q2,?_,?_⟩,h.fr⟩,λ b hb=>⟨by simp,hb.2⟩⟩
  ·rw [j9,Nat.min_eq_left hk];rfl
  ·rw [j9,qu,nV,j8];omega
  ·rw [q4,<-zi,<-j7,yd]
theorem iT.push (h:iT e H0 H v xs) {x:Nat} {zero:List AV} {bytes:Nat} (hz:zero.length=1) (hf:(xs.length+1)*bytes<=140737488355328) (hf':xs.length+1<=140737488355328) {K:bN->(Nat->AV)->Bool->AV->AHeap->Prop} {m:Bool}
 (hk:∀ v' H',iT e H0 H' v' (xs ++ [x])->Fr (bH v) H H'->(∀ b,bH v' b->bH v b\/H.next<=b)->K (.row [.int .i64 (x:Int)] e (0,0) true) (Op.sliceTo 1 1) m v' H') :
 bf m (Op.buildSlice e 1 zero [(0,1)] [.int .i64 (x:Int)]) λ g o mk=>bf g (Op.append e 1 bytes [v,mk H.next] (H.alloc o)) (K o mk):=by
 have hb:Op.buildSlice e 1 zero [(0,1)] [.int .i64 (x:Int)]=some (.row [.int .i64 (x:Int)] e (0,0) true,Op.sliceTo 1 1):=M6 e 1 zero (.int .i64 (x:Int)) hz rfl;rw [hb];have hfr:Fr Em H (H.alloc (.row [.int .i64 (x:Int)] e (0,0) true)):=(Fr.refl H).alloc _;have hx:Sl (H.alloc (.row [.int .i64 (x:Int)] e (0,0) true)) 1 (Op.sliceTo 1 1 H.next) 1 [.int .i64 (x:Int)]:=tt rfl;have e1:∀ n,Nat.beq n n=true:=λ n=>by simp
 have ha:ba [AV.int .i64 (x:Int)]=true:=rfl;have hlt:Nat.blt 0 1=true:=rfl;have h10:Nat.beq 1 0=false:=rfl;have hfit:=JO hf hf';refine bf.intro rfl ?_;rcases h.own with ⟨rfl,rfl⟩|⟨b,mm,rest,rfl,q1,q2,q3,q4⟩
 ·have hfit:fits 1 bytes=true:=by simpa using hfit
  refine bf.intro (a:=.gslice (H.next+1) 0 1 1 0 1) (b:=(H.alloc (.row [.int .i64 (x:Int)] e (0,0) true)).alloc (.grown 1 1 [.int .i64 (x:Int)] e (0,0))) ?_ (hk _ _ ⟨.inr ⟨H.next+1,1,[],rfl,?_,?_,rfl,?_⟩,?_⟩ ((hfr.alloc _).mono λ _ _ q=>q.elim) λ b hb=>.inr ?_)
  ·simp only [Op.append,hx.dS,hx.first,qi,ha,xe,bY,h10,zd,hfit,hlt,jc,cq,xn]
  ·rw [xn,xn];omega
  ·have:=h.fr.next;omega
  ·exact qx ..
  ·exact (h.fr.em hfr).alloc _
  ·rw [hb.2];show H.next<=H.next+1;omega
 ·have q4':(H.alloc (.row [.int .i64 (x:Int)] e (0,0) true)).get b=some (.grown mm 1 (xs.flatMap dZ++rest) e (0,0)):=by rw [Lk q1];exact q4
  cases rest with
  | nil =>
   have hm:mm=xs.length:=by simpa using q3
   subst hm;have h3:Nat.ble (0+xs.length+1) xs.length=false:=by cases hq:Nat.ble (0+xs.length+1) xs.length with|false=>rfl|true=>rw [wh] at hq;omega
   have h4:=yo (show 0+xs.length<=xs.length by omega);have h5:=yo (zl (xs.length*1));refine bf.intro (a:=.gslice (H.next+1) 0 (xs.length+1) 1 0 (xs.length+1)) (b:=((H.alloc (.row [.int .i64 (x:Int)] e (0,0) true)).kill b).alloc (.grown (xs.length+1) 1 (xs.flatMap dZ ++ [.int .i64 (x:Int)]) e (0,0))) ?_ (hk _ _ ⟨.inr ⟨H.next+1,xs.length+1,[],?_,?_,?_,?_,?_⟩,?_⟩ ?_ λ b hb=>.inr ?_)
   ·simp only [Op.append,hx.dS,hx.first,qi,ha,xe,bY,h10,zd,e1,h4,hlt,jc,h3,hfit,q4',h5,cq,Ar,xn,jH,x9,Nat.beq]
   ·rw [qu];rfl
   ·rw [xn,Ar,xn];omega
   ·have:=h.fr.next;omega
   ·rw [qu];rfl
   ·rw [x9,j7];have:=qx ((H.alloc (.row [.int .i64 (x:Int)] e (0,0) true)).kill b) (.grown (xs.length+1) 1 (xs.flatMap dZ ++ [.int .i64 (x:Int)]) e (0,0));rw [Ar,xn] at this;exact this
   ·exact ((h.fr.em hfr).kill (.inr q2)).alloc _
   ·exact (Fr.kill (W:=bH (AV.gslice b 0 xs.length 1 0 xs.length)) (hfr.mono λ _ _ q=>q.elim) (.inl ⟨by simp,rfl⟩)).alloc _
   ·rw [hb.2];show H.next<=H.next+1;omega
  | cons r rest =>
   have h3:=yo (show 0+xs.length+1<=mm by simp at q3;omega);have h4:=yo (show 0+xs.length<=mm by omega);have hst:(H.alloc (.row [.int .i64 (x:Int)] e (0,0) true)).store b ((0+xs.length)*1) [.int .i64 (x:Int)]=some ((H.alloc (.row [.int .i64 (x:Int)] e (0,0) true)).set b (.grown mm 1 ((xs ++ [x]).flatMap dZ++rest) e (0,0))):=by
    have ht:cP (0,0) ((0+xs.length)*1) (cz [AV.int .i64 (x:Int)])=true:=by simp [cP]
    simp only [AHeap.store,ha,xe,q4',ht,vW];rw [qm (by rw [qu,nV];simp),qi];congr 4;rw [yf,Nat.mul_one,kc (by rw [nV];exact qg _),zw (by rw [nV];exact qg _),j7]
    ·rfl
    ·rw [yf,Nat.mul_one,show [AV.int .i64 (x:Int)].length=1 from rfl,we,j6 (by rw [nV];omega),nV];simp
   refine bf.intro (a:=.gslice b 0 mm 1 0 (xs.length+1)) (b:=(H.alloc (.row [.int .i64 (x:Int)] e (0,0) true)).set b (.grown mm 1 ((xs ++ [x]).flatMap dZ++rest) e (0,0))) ?_ (hk _ _ ⟨.inr ⟨b,mm,rest,?_,?_,q2,?_,?_⟩,?_⟩ ?_ λ c hc=>.inl ⟨by simp,hc.2⟩)
   ·simp only [Op.append,hx.dS,hx.first,qi,ha,xe,bY,h10,zd,e1,h4,hlt,jc,h3,hst]
   ·rw [qu];rfl
   ·rw [F0,xn];omega
   ·rw [qu];simp at q3 ⊢;omega
   ·exact xd ..
   ·exact (h.fr.em hfr).set (.inr q2) _
   ·exact Fr.set (W:=bH (AV.gslice b 0 mm 1 0 xs.length)) (hfr.mono λ _ _ q=>q.elim) (.inl ⟨by simp,rfl⟩) _
end
end Go.Am
namespace Go.Am
theorem qyi {len size b o:Nat} {k:IntKind} {j:Int} {i:Nat} (hj:j=i) (hi:i<len):Op.aY len size [.ptr b o,.int k j]=some (.ptr b (o+i*size)):=by
 simp only [Op.aY,ML hj hi,qi]
theorem rV {k:IntKind} {a:Nat} {b:Int} (hb:0<b):Op.bin .rem [.int k (a:Int),.int k b]=some (.int k ((a % b.toNat:Nat):Int)):=by
 rw [BE k _ _ (by omega),Int.tmod_eq_emod_of_nonneg (by omega)];congr 2;rw [Int.natCast_emod];congr 1;omega
namespace Lang
def ints (l:List Nat):List Int:=l.map λ (n:Nat)=>(n:Int)
end Lang
end Go.Am
namespace Go.Am
def pX (AP:aO) (g:Nat) (pre cap:List AV) (N O:Nat->Prop) (H0:AHeap) (xs:List (List AV)):Prop :=
 ∀ (L:Nat) (R:Nat->(Nat->Prop)->AHeap->Prop) (S:(Nat->Prop)->AHeap->Prop) (W0:Nat->Prop) (H:AHeap),
  H0.next<=H.next->(∀ b,N b\/O b->b<H0.next/\H.get b=H0.get b /\ ¬ W0 b)->R 0 W0 H->(∀ b,W0 b->b<H.next) ->
  (∀ i W H H',R i W H->(∀ b,W b->H'.get b=H.get b)->H.next<=H'.next->R i W H')->(∀ W H H',S W H->(∀ b,W b->H'.get b=H.get b)->H.next<=H'.next->S W H') ->
  (∀ (i:Nat) x,xs[i]? = some x -> ∀ W H',R i W H'->(∀ b,W b->b<H'.next/\(W0 b\/H.next<=b))->Fr (λ b=>W0 b\/O b) H H' ->
   ∃ bb H'' W',lR AP L x H' (.ret (.bool bb)) H''/\Fr W H' H''/\(∀ b,W' b->b<H''.next/\(W b\/H'.next<=b))/\(bb=true->R (i+1) W' H'')/\(bb=false->S W' H'')) ->
  ∃ v H' W',iH AP g (pre++(.fn (.yield L) [] []::cap)) H (.ret v) H'/\Fr (λ b=>W0 b\/O b) H H'/\(∀ b,W' b->b<H'.next/\(W0 b\/H.next<=b))/\(R xs.length W' H'\/S W' H')
section
variable {AP:aO}
theorem q95 {f:Nat} {fn:aw} {k:Nat} {lp:dG} (hf:AP.func f=some fn) (hk:nth fn.loops k=some lp) {tm:T AV} {aT:List aL} {up:Option aC} {H:AHeap} {Q:bX}
 {g:Nat} {pre cap:List AV} {N O:Nat->Prop} {H0:AHeap} {xs:List (List AV)} (iI:pX AP g pre cap N O H0 xs)
 (P:Nat->(Nat->Prop)->AHeap->Prop) (PS:aF->(Nat->Prop)->AHeap->Prop) (W0:Nat->Prop)
 (hn:H0.next<=H.next) (hN:∀ b,N b\/O b->b<H0.next/\H.get b=H0.get b /\ ¬ W0 b) (hW0:∀ b,W0 b->b<H.next) (h0:P 0 W0 H)
 (loc:∀ i W H H',P i W H->(∀ b,W b->H'.get b=H.get b)->H.next<=H'.next->P i W H') (locS:∀ e W H H',PS e W H->(∀ b,W b->H'.get b=H.get b)->H.next<=H'.next->PS e W H')
 (hbody:∀ (L d i:Nat) x,xs[i]? = some x->H.next<=L -> ∀ W H1,P i W H1->(∀ b,W b->b<H1.next/\(W0 b\/H.next<=b))->Fr (λ b=>W0 b\/O b) H H1 -> ¬ W L->L<H1.next->H1.get L=some (.loop .ready none f k tm d) ->
  ∃ tm1,C5 tm lp.params x=some tm1/\WP AP ⟨some L,f⟩ lp.assign ⟨tm1,[],none,H1⟩ λ e b9=>e=.normal/\b9.H.get L=some (.loop .ready none f k tm d) /\
   WP AP ⟨some L,f⟩ lp.body ⟨b9.tm,b9.aT,b9.up,b9.H.set L (.loop .busy none f k tm d)⟩ λ e2 st2=>st2.aT=[]/\st2.H.get L=some (.loop .busy none f k tm d) /\
    ∃ W':Nat->Prop,(∀ b,W' b->b<st2.H.next/\(W b\/H1.next<=b))/\Fr (λ b=>W b\/b=L) H1 st2.H/\(e2=.normal/\P (i+1) W' st2.H\/dI e2/\PS e2 W' st2.H))
 (hend:∀ d W' H',H.next<=d->d<H'.next->H'.get d=some (.deferred (some []))->Fr (λ b=>W0 b\/O b) H H'->(∀ b,W' b->b<H'.next/\(W0 b\/H.next<=b)/\b ≠ d)->P xs.length W' H'->Q .normal ⟨tm,.fm d::aT,up,H'⟩)
 (hstop:∀ e d W' H',dI e->H.next<=d->d<H'.next->H'.get d=some (.deferred (some []))->Fr (λ b=>W0 b\/O b) H H'->(∀ b,W' b->b<H'.next/\(W0 b\/H.next<=b)/\b ≠ d)->PS e W' H'->Q e ⟨tm,.fm d::aT,up,H'⟩) :
 Bl AP ⟨none,f⟩ k ⟨tm,aT,up,H⟩ Q (.fn (.func g) pre cap):=by
 let d:=H.next
 let L:=H.next+1
 let Hd:=H.alloc (.deferred (some []))
 let HL:=Hd.alloc (.loop .ready none f k tm d)
 have hHL:HL.next=H.next+2:=rfl
 have hgL:HL.get L=some (.loop .ready none f k tm d):=qx Hd _;have hgd:HL.get d=some (.deferred (some [])):=by rw [show HL.get d=Hd.get d from Lk (by show H.next<H.next+1;omega) _];exact qx H _
 have hfr0:Fr Em H HL:=((Fr.refl H).alloc _).alloc _;have hold:∀ b,b<H.next->HL.get b=H.get b:=λ b hb=>hfr0.ae b hb (λ q=>q)
 obtain ⟨v,H',W',hc,hfr,hW',hres⟩:=iI L
  (λ i W H'=>∃ V:Nat->Prop,(∀ b,V b->W b)/\W L /\ ¬ V L /\ ¬ W d/\(∀ b,W b->V b\/b=L)/\P i V H'/\H'.get L=some (.loop .ready none f k tm d)/\L<H'.next)
  (λ W H'=>∃ (V:Nat->Prop) (e:aF) (j:ew),(∀ b,V b->W b)/\W L /\ ¬ V L /\ ¬ W d/\(∀ b,W b->V b\/b=L)/\dI e/\gf e=some j/\PS e V H'/\H'.get L=some (.loop .done (some j) f k tm d)/\L<H'.next)
  (λ b=>W0 b\/b=L) HL (by rw [hHL];omega)
  (λ b hb=>by
   obtain ⟨h1,h2,h3⟩:=hN b hb;exact ⟨h1,by rw [hold b (by omega)];exact h2,λ q=>q.elim h3 λ q=>by have:L=H.next+1:=rfl;omega⟩)
  ⟨W0,λ b hb=>.inl hb,.inr rfl,λ q=>by have:=hW0 _ q;have:L=H.next+1:=rfl;omega,λ q=>q.elim (λ q=>by have:=hW0 _ q;have:d=H.next:=rfl;omega) λ q=>by have:d=H.next:=rfl;have:L=H.next+1:=rfl;omega,
   λ b hb=>hb,loc 0 W0 H HL h0 (λ b hb=>hold b (hW0 b hb)) (by rw [hHL];omega),hgL,by rw [hHL];show H.next+1<H.next+2;omega⟩
  (λ b hb=>hb.elim (λ q=>by have:=hW0 b q;rw [hHL];omega) λ q=>by rw [hHL,q];show H.next+1<H.next+2;omega)
  (λ i W H1 H2 ⟨V,v1,v2,v3,v4,v5,v6,v7,v8⟩ hs hle=>⟨V,v1,v2,v3,v4,v5,loc i V H1 H2 v6 (λ b hb=>hs b (v1 b hb)) hle,by rw [hs L v2];exact v7,qn v8 hle⟩)
  (λ W H1 H2 ⟨V,e,j,v1,v2,v3,v4,v5,v6,v7,v8,v9,v10⟩ hs hle=>⟨V,e,j,v1,v2,v3,v4,v5,v6,v7,locS e V H1 H2 v8 (λ b hb=>hs b (v1 b hb)) hle,by rw [hs L v2];exact v9,qn v10 hle⟩)
  (λ i x hx W H1 ⟨V,v1,v2,v3,v4,v5,v6,v7,v8⟩ hb hfrS=>by
   have hLn0:L=H.next+1:=rfl
   have hfr1:Fr (λ b=>W0 b\/O b) H H1:=⟨xt (by rw [hHL];omega) hfrS.next,λ b hb hw=>by rw [hfrS.ae b (by rw [hHL];omega) (λ q=>q.elim (λ q=>q.elim (λ q=>hw (.inl q)) λ q=>by omega) λ q=>hw (.inr q)),hold b hb]⟩
   have hbV:∀ b,V b->b<H1.next/\(W0 b\/H.next<=b):=λ b q=>⟨(hb b (v1 b q)).1,(hb b (v1 b q)).2.elim (λ r=>r.elim .inl λ r=>by subst r;exact (v3 q).elim) λ r=>.inr (by rw [hHL] at r;omega)⟩
   obtain ⟨tm1,hbp,hw⟩:=hbody L d i x hx (by show H.next<=H.next+1;omega) V H1 v6 hbV hfr1 v3 v8 v7;obtain ⟨e,H2,hr,bb,rfl,W2,k1,k2,k3,k4⟩:=qwu (Q:=λ e H2=>∃ bb,e=.ret (.bool bb) /\ ∃ W2:Nat->Prop,Fr W H1 H2/\(∀ b,W2 b->b<H2.next/\(W b\/H1.next<=b)) /\
    (bb=true -> ∃ V:Nat->Prop,(∀ b,V b->W2 b)/\W2 L /\ ¬ V L /\ ¬ W2 d/\(∀ b,W2 b->V b\/b=L)/\P (i+1) V H2/\H2.get L=some (.loop .ready none f k tm d)/\L<H2.next) /\
    (bb=false -> ∃ (V:Nat->Prop) (e:aF) (j:ew),(∀ b,V b->W2 b)/\W2 L /\ ¬ V L /\ ¬ W2 d/\(∀ b,W2 b->V b\/b=L)/\dI e/\gf e=some j/\PS e V H2/\H2.get L=some (.loop .done (some j) f k tm d)/\L<H2.next)) v7 hf hk hbp
    (mi hw λ e b9 ⟨he,hgl,hw2⟩=>by
     subst he;show bu aB (beginRound b9.H L) _;have:beginRound b9.H L=some (b9.H.set L (.loop .busy none f k tm d)):=by unfold beginRound;rw [hgl]
     rw [this];refine mi hw2 λ e2 st2 ⟨hd2,hg2,W',w1,w2,w3⟩=>⟨hd2,?_⟩
     have hLn:L<st2.H.next:=qn v8 w2.next
     have hd1:d<H1.next:=by have:d=H.next:=rfl;have:L=H.next+1:=rfl;omega
     have fin:∀ s p,Fr W H1 (st2.H.set L (.loop s p f k tm d)):=λ s p=>⟨w2.next,λ b hb hw=>by
      rw [AHeap.aI,qd (by rintro rfl;exact hw v2)];exact w2.ae b hb λ q=>q.elim (λ q=>hw (v1 b q)) λ q=>hw (by rw [q];exact v2)⟩
     have hW'L:∀ b,(W' b/\b ≠ L)->(st2.H.set L (.loop .ready none f k tm d)).get b=st2.H.get b:=λ b hb=>by rw [AHeap.aI,qd (λ q=>hb.2 q.symm)]
     have hnV:¬ W' L:=λ q=>by
      rcases (w1 L q).2 with q|q
      ·exact v3 q
      ·omega
     have hnd:¬ W' d:=λ q=>by
      rcases (w1 d q).2 with q|q
      ·exact v4 (v1 d q)
      ·omega
     have hdL:d ≠ L:=by show H.next ≠ H.next+1;omega
     have bounds:∀ b,(W' b\/b=L)->b<st2.H.next/\(W b\/H1.next<=b):=λ b hb=>hb.elim (λ q=>⟨(w1 b q).1,(w1 b q).2.imp (v1 b) id⟩) λ q=>by subst q;exact ⟨hLn,.inl v2⟩
     rcases w3 with ⟨rfl,w3⟩|⟨hj,w3⟩
     ·show bu aB (bU st2.H L (cond true .ready .done) none) _;have:bU st2.H L .ready none=some (st2.H.set L (.loop .ready none f k tm d)):=by unfold bU;rw [hg2]
      rw [xe,this];refine ⟨true,rfl,λ b=>W' b\/b=L,fin _ _,bounds,λ _=>⟨W',λ b hb=>.inl hb,.inr rfl,hnV,λ q=>q.elim hnd hdL,λ b hb=>hb,loc _ _ _ _ w3 (λ b hb=>by rw [AHeap.aI,qd (by rintro rfl;exact hnV hb)]) (qg _),xd _ _ _,hLn⟩,λ h=>by cases h⟩
     ·obtain ⟨j,hj2⟩:∃ j,gf e2=some j:=by cases e2<;>first|exact hj.elim|exact ⟨_,rfl⟩
      have hnn:qX e2=false:=by cases e2<;>first|exact hj.elim|rfl
      have hmatch:∀ (A:Prop),(bu aB (bU st2.H L (cond (qX e2) .ready .done) (gf e2)) λ H=>∃ bb,(bz.ret (.bool (qX e2))=.ret (.bool bb)) /\ ∃ W2:Nat->Prop,Fr W H1 H/\(∀ b,W2 b->b<H.next/\(W b\/H1.next<=b)) /\
       (bb=true -> ∃ V:Nat->Prop,(∀ b,V b->W2 b)/\W2 L /\ ¬ V L /\ ¬ W2 d/\(∀ b,W2 b->V b\/b=L)/\P (i+1) V H/\H.get L=some (.loop .ready none f k tm d)/\L<H.next) /\
       (bb=false -> ∃ (V:Nat->Prop) (e:aF) (j:ew),(∀ b,V b->W2 b)/\W2 L /\ ¬ V L /\ ¬ W2 d/\(∀ b,W2 b->V b\/b=L)/\dI e/\gf e=some j/\PS e V H/\H.get L=some (.loop .done (some j) f k tm d)/\L<H.next)):=λ _=>by
       have:bU st2.H L .done (some j)=some (st2.H.set L (.loop .done (some j) f k tm d)):=by unfold bU;rw [hg2]
       rw [hnn,hj2,zd,this];refine ⟨false,rfl,λ b=>W' b\/b=L,fin _ _,bounds,λ h=>(by cases h),λ _=>⟨W',e2,j,λ b hb=>.inl hb,.inr rfl,hnV,λ q=>q.elim hnd hdL,λ b hb=>hb,hj,hj2,locS _ _ _ _ w3 (λ b hb=>by rw [AHeap.aI,qd (by rintro rfl;exact hnV hb)]) (qg _),xd _ _ _,hLn⟩⟩
      cases e2 with
      | normal=>exact hj.elim
      | panic _=>exact hj.elim
      | exit _=>exact hmatch True
      | goto _=>exact hmatch True
      | ret=>exact hmatch True)
   exact ⟨bb,H2,W2,hr,k1,k2,k3,k4⟩)
 have hdL:d ≠ L:=by show H.next ≠ H.next+1;omega
 have hdW:¬ ((W0 d\/d=L)\/O d):=λ q=>q.elim (λ q=>q.elim (λ q=>by have:=hW0 _ q;have:d=H.next:=rfl;omega) hdL) λ q=>by have:=(hN d (.inr q)).1;have:d=H.next:=rfl;omega
 have hgd':H'.get d=some (.deferred (some [])):=by rw [hfr.ae d (by rw [hHL];show H.next<H.next+2;omega) hdW];exact hgd
 have hd':d<H'.next:=qn (by rw [hHL];show H.next<H.next+2;omega) hfr.next
 have hout:∀ (o:bN),Fr (λ b=>W0 b\/O b) H (H'.set L o):=λ o=>⟨xt (by rw [hHL];omega) hfr.next,λ b hb hw=>by
  have:L=H.next+1:=rfl
  rw [AHeap.aI,qd (by omega),hfr.ae b (by rw [hHL];omega) (λ q=>q.elim (λ q=>q.elim (λ q=>hw (.inl q)) λ q=>by omega) λ q=>hw (.inr q)),hold b hb]⟩
 refine ⟨.ret v,H',hc,?_⟩;rcases hres with ⟨V,v1,v2,v3,v4,v5,v6,v7,v8⟩|⟨V,e,j,v1,v2,v3,v4,v5,v6,v7,v8,v9,v10⟩
 ·refine ⟨.ready,none,f,k,tm,d,v7,by simp,?_⟩;refine hend d V _ (qg _) hd' (by rw [AHeap.aI,qd (λ q=>hdL q.symm)];exact hgd') (hout _) (λ b hb=>⟨(hW' b (v1 b hb)).1,?_,λ q=>v4 (by rw [<-q];exact v1 b hb)⟩) (loc _ _ _ _ v6 (λ b hb=>by rw [AHeap.aI,qd (by rintro rfl;exact v3 hb)]) (qg _));rcases (hW' b (v1 b hb)).2 with q|q
  ·exact q.imp id λ q=>by subst q;exact (v3 hb).elim
  ·rw [hHL] at q;exact .inr (by omega)
 ·refine ⟨.done,some j,f,k,tm,d,v9,by simp,?_⟩;have he:kF (some j)=e:=by cases e<;>first|exact v6.elim|(injection v7 with v7;subst v7;rfl)
  rw [he];refine hstop e d V _ v6 (qg _) hd' (by rw [AHeap.aI,qd (λ q=>hdL q.symm)];exact hgd') (hout _) (λ b hb=>⟨(hW' b (v1 b hb)).1,?_,λ q=>v4 (by rw [<-q];exact v1 b hb)⟩) (locS _ _ _ _ v8 (λ b hb=>by rw [AHeap.aI,qd (by rintro rfl;exact v3 hb)]) (qg _));rcases (hW' b (v1 b hb)).2 with q|q
  ·exact q.imp id λ q=>by subst q;exact (v3 hb).elim
  ·rw [hHL] at q;exact .inr (by omega)
def pz:List Nat->List AV->Env->Option Env
 | [],[],E=>some E
 | t::ts,v::vs,E=>pz ts vs ((t,v)::E)
 | _,_,_=>none
def Mu (M:aO) (ctx:Ctx) (b:Kp × ah) (L:Nat) (lr lb:bN) (Q:aJ):aJ:=λ e E D H=>match e with
 | .normal=>H.get L=some lr/\W M ctx b true Q E D (H.set L lb)
 | _=>False
theorem GS (M:aO) (ctx:Ctx) (b:Kp × ah) (L:Nat) (lr lb:bN) (Q:aJ) (E:Env) (D:List aL) (H:AHeap):Mu M ctx b L lr lb Q .normal E D H=(H.get L=some lr/\W M ctx b true Q E D (H.set L lb)):=propext j5
def IQ (P:(Nat->Prop)->AHeap->Prop) (PS:aF->(Nat->Prop)->AHeap->Prop) (L:Nat) (lb:bN) (W:Nat->Prop) (H1:AHeap):aJ:=λ e _ D H=>D=[]/\H.get L=some lb /\
 ∃ W':Nat->Prop,(∀ b,W' b->b<H.next/\(W b\/H1.next<=b))/\Fr (λ b=>W b\/b=L) H1 H/\(e=.normal/\P W' H\/dI e/\PS e W' H)
theorem dC.cons {ks:List Nat} {E:Env} {tm:T AV} (h:dC ks E tm) {t:Nat} (v:AV) (ht:bQ t ks=true):dC ks ((t,v)::E) (tm.set t v):=λ u x hu=>by
 rw [ou] at hu;split at hu
 ·rename_i e;subst e;injection hu with hu;subst hu
  exact ⟨by rw [T.aI,qm rfl],ht⟩
 ·rename_i e;obtain ⟨h1,h2⟩:=h u x hu;exact ⟨by rw [T.aI,qd e,h1],h2⟩
theorem Lg {ks:List Nat}:∀ {ts:List Nat} {vs:List AV} {E E1:Env} {tm:T AV},dC ks E tm->(∀ t ∈ ts,bQ t ks=true)->pz ts vs E=some E1 -> ∃ tm1,C5 tm ts vs=some tm1/\dC ks E1 tm1
 | [],[],E,E1,tm,h,ht,hb=>by injection hb with hb;subst hb;exact ⟨tm,rfl,h⟩
 | [],_::_,_,_,_,_,_,hb=>nomatch hb
 | _::_,[],_,_,_,_,_,hb=>nomatch hb
 | t::ts,v::vs,E,E1,tm,h,ht,hb=>Lg (ts:=ts) (vs:=vs) (h.cons v (ht t (vk ..))) (λ u hu=>ht u (vd _ hu)) hb
theorem fw.iter {f:Nat} {fn:aw} {k:Nat} {lp:dG} (hf:AP.func f=some fn) (hk:nth fn.loops k=some lp) {ks:List Nat} {ts:List Nat} (hp:lp.params=ts) (hts:∀ t ∈ ts,bQ t ks=true) {pa pb:Kp × ah} (ha:pa.1.ae=ks/\pa.2=lp.assign) (hb:pb.1.ae=ks/\pb.2=lp.body)
 {E:Env} {D:List aL} {H:AHeap} {Q:aJ} {g:Nat} {pre cap:List AV} {N O:Nat->Prop} {H0:AHeap} {xs:List (List AV)} (iI:pX AP g pre cap N O H0 xs)
 (P:Nat->(Nat->Prop)->AHeap->Prop) (PS:aF->(Nat->Prop)->AHeap->Prop) (W0:Nat->Prop)
 (hn:H0.next<=H.next) (hN:∀ b,N b\/O b->b<H0.next/\H.get b=H0.get b /\ ¬ W0 b) (hW0:∀ b,W0 b->b<H.next) (h0:P 0 W0 H)
 (loc:∀ i W H H',P i W H->(∀ b,W b->H'.get b=H.get b)->H.next<=H'.next->P i W H') (locS:∀ e W H H',PS e W H->(∀ b,W b->H'.get b=H.get b)->H.next<=H'.next->PS e W H')
 (hbody:∀ (L i:Nat) (lr lb:bN) x,xs[i]? = some x->H.next<=L -> ∀ W' H1,P i W' H1->(∀ b,W' b->b<H1.next/\(W0 b\/H.next<=b))->Fr (λ b=>W0 b\/O b) H H1 -> ¬ W' L->L<H1.next->H1.get L=some lr ->
  ∃ E1,pz ts x E=some E1/\W AP ⟨some L,f⟩ pa true (Mu AP ⟨some L,f⟩ pb L lr lb (IQ (P (i+1)) PS L lb W' H1)) E1 [] H1)
 (hend:∀ d W' H',H.next<=d->d<H'.next->H'.get d=some (.deferred (some []))->Fr (λ b=>W0 b\/O b) H H'->(∀ b,W' b->b<H'.next/\(W0 b\/H.next<=b)/\b ≠ d)->P xs.length W' H'->Q .normal E (.fm d::D) H')
 (hstop:∀ e d W' H',dI e->H.next<=d->d<H'.next->H'.get d=some (.deferred (some []))->Fr (λ b=>W0 b\/O b) H H'->(∀ b,W' b->b<H'.next/\(W0 b\/H.next<=b)/\b ≠ d)->PS e W' H'->Q e E (.fm d::D) H') :
 fw AP ks ⟨none,f⟩ k E D H Q (.fn (.func g) pre cap):=by
 intro tm up he;refine q95 hf hk iI P PS W0 hn hN hW0 h0 loc locS ?_ (λ d W' H' h1 h2 h3 h4 h5 h6=>⟨rfl,rfl,hend d W' H' h1 h2 h3 h4 h5 h6⟩) (λ e d W' H' h0 h1 h2 h3 h4 h5 h6=>⟨rfl,rfl,hstop e d W' H' h0 h1 h2 h3 h4 h5 h6⟩);intro L d i x hx hL W' H1 hP hW hfr hnL hLn hgL;obtain ⟨E1,hE1,hw⟩:=hbody L i (.loop .ready none f k tm d) (.loop .busy none f k tm d) x hx hL W' H1 hP hW hfr hnL hLn hgL;obtain ⟨tm1,hb1,he1⟩:=Lg he hts hE1;refine ⟨tm1,by rw [hp];exact hb1,?_⟩;rw [jF] at hw;have:=W3.wp _ _ (qg _) (up:=none) hw (by rw [ha.1];exact he1);rw [ha.2] at this;refine mi this λ e b9 ⟨hup,E',hE',hq⟩=>?_;cases e with
 | normal =>
  obtain ⟨hg,hw2⟩:=hq;refine ⟨rfl,hg,?_⟩;rw [jF] at hw2;have:=W3.wp _ _ (qg _) (up:=none) hw2 (show dC pb.1.ae E' b9.tm by rw [hb.1,<-ha.1];exact hE');rw [hb.2] at this;rw [hup];refine mi this λ e2 st2 ⟨hup2,E2,hE2,hd,hg2,W2,k1,k2,k3⟩=>⟨hd,hg2,W2,k1,k2,k3⟩
 | _=>exact hq.elim
theorem DD (rs:List cU) (Q:bz->AHeap->Prop) (E:Env) (d:Nat) (H:AHeap):aP AP rs Q .ret E [.fm d] H=(H.get d=some (.deferred (some []))/\dp E (H.set d (.deferred none)) rs λ l=>Q (.ret (dg l)) (H.set d (.deferred none))):=propext j5
end
end Go.Am
namespace Go.Am
def tn (AP:aO) (g:Nat) (pre cap:List AV) (N O:Nat->Prop) (I:AHeap->Prop) (H0:AHeap) (xs:List (List AV)):Prop :=
 ∀ (L:Nat) (R:Nat->(Nat->Prop)->AHeap->Prop) (S:(Nat->Prop)->AHeap->Prop) (W0:Nat->Prop) (H:AHeap),
  H0.next<=H.next->(∀ b,N b\/O b->b<H0.next/\H.get b=H0.get b /\ ¬ W0 b)->R 0 W0 H->(∀ b,W0 b->b<H.next) ->
  (∀ i W H H',R i W H->(∀ b,W b->H'.get b=H.get b)->H.next<=H'.next->R i W H')->(∀ W H H',S W H->(∀ b,W b->H'.get b=H.get b)->H.next<=H'.next->S W H') ->
  (∀ i W H',R i W H'->I H') ->
  (∀ (i:Nat) x,xs[i]? = some x -> ∀ W H',R i W H'->(∀ b,W b->b<H'.next/\(W0 b\/H.next<=b))->Fr (λ b=>W0 b\/O b) H H' ->
   ∃ bb H'' W',lR AP L x H' (.ret (.bool bb)) H''/\Fr W H' H''/\(∀ b,W' b->b<H''.next/\(W b\/H'.next<=b))/\(bb=true->R (i+1) W' H'')/\(bb=false->S W' H'')) ->
  ∃ v H' W',iH AP g (pre++(.fn (.yield L) [] []::cap)) H (.ret v) H'/\Fr (λ b=>W0 b\/O b) H H'/\(∀ b,W' b->b<H'.next/\(W0 b\/H.next<=b))/\(R xs.length W' H'\/S W' H')
section
variable {AP:aO}
theorem q94 {f:Nat} {fn:aw} {k:Nat} {lp:dG} (hf:AP.func f=some fn) (hk:nth fn.loops k=some lp) {tm:T AV} {aT:List aL} {up:Option aC} {H:AHeap} {Q:bX}
 {g:Nat} {pre cap:List AV} {N O:Nat->Prop} {I:AHeap->Prop} {H0:AHeap} {xs:List (List AV)} (iI:tn AP g pre cap N O I H0 xs)
 (P:Nat->(Nat->Prop)->AHeap->Prop) (PS:aF->(Nat->Prop)->AHeap->Prop) (W0:Nat->Prop)
 (hn:H0.next<=H.next) (hN:∀ b,N b\/O b->b<H0.next/\H.get b=H0.get b /\ ¬ W0 b) (hW0:∀ b,W0 b->b<H.next) (h0:P 0 W0 H)
 (loc:∀ i W H H',P i W H->(∀ b,W b->H'.get b=H.get b)->H.next<=H'.next->P i W H') (locS:∀ e W H H',PS e W H->(∀ b,W b->H'.get b=H.get b)->H.next<=H'.next->PS e W H') (hI:∀ i W H,P i W H->I H)
 (hbody:∀ (L d i:Nat) x,xs[i]? = some x->H.next<=L -> ∀ W H1,P i W H1->(∀ b,W b->b<H1.next/\(W0 b\/H.next<=b))->Fr (λ b=>W0 b\/O b) H H1 -> ¬ W L->L<H1.next->H1.get L=some (.loop .ready none f k tm d) ->
  ∃ tm1,C5 tm lp.params x=some tm1/\WP AP ⟨some L,f⟩ lp.assign ⟨tm1,[],none,H1⟩ λ e b9=>e=.normal/\b9.H.get L=some (.loop .ready none f k tm d) /\
   WP AP ⟨some L,f⟩ lp.body ⟨b9.tm,b9.aT,b9.up,b9.H.set L (.loop .busy none f k tm d)⟩ λ e2 st2=>st2.aT=[]/\st2.H.get L=some (.loop .busy none f k tm d) /\
    ∃ W':Nat->Prop,(∀ b,W' b->b<st2.H.next/\(W b\/H1.next<=b))/\Fr (λ b=>W b\/b=L) H1 st2.H/\(e2=.normal/\P (i+1) W' st2.H\/dI e2/\PS e2 W' st2.H))
 (hend:∀ d W' H',H.next<=d->d<H'.next->H'.get d=some (.deferred (some []))->Fr (λ b=>W0 b\/O b) H H'->(∀ b,W' b->b<H'.next/\(W0 b\/H.next<=b)/\b ≠ d)->P xs.length W' H'->Q .normal ⟨tm,.fm d::aT,up,H'⟩)
 (hstop:∀ e d W' H',dI e->H.next<=d->d<H'.next->H'.get d=some (.deferred (some []))->Fr (λ b=>W0 b\/O b) H H'->(∀ b,W' b->b<H'.next/\(W0 b\/H.next<=b)/\b ≠ d)->PS e W' H'->Q e ⟨tm,.fm d::aT,up,H'⟩) :
 Bl AP ⟨none,f⟩ k ⟨tm,aT,up,H⟩ Q (.fn (.func g) pre cap):=by
 let d:=H.next
 let L:=H.next+1
 let Hd:=H.alloc (.deferred (some []))
 let HL:=Hd.alloc (.loop .ready none f k tm d)
 have hHL:HL.next=H.next+2:=rfl
 have hgL:HL.get L=some (.loop .ready none f k tm d):=qx Hd _;have hgd:HL.get d=some (.deferred (some [])):=by rw [show HL.get d=Hd.get d from Lk (by show H.next<H.next+1;omega) _];exact qx H _
 have hfr0:Fr Em H HL:=((Fr.refl H).alloc _).alloc _;have hold:∀ b,b<H.next->HL.get b=H.get b:=λ b hb=>hfr0.ae b hb (λ q=>q)
 obtain ⟨v,H',W',hc,hfr,hW',hres⟩:=iI L
  (λ i W H'=>∃ V:Nat->Prop,(∀ b,V b->W b)/\W L /\ ¬ V L /\ ¬ W d/\(∀ b,W b->V b\/b=L)/\P i V H'/\H'.get L=some (.loop .ready none f k tm d)/\L<H'.next)
  (λ W H'=>∃ (V:Nat->Prop) (e:aF) (j:ew),(∀ b,V b->W b)/\W L /\ ¬ V L /\ ¬ W d/\(∀ b,W b->V b\/b=L)/\dI e/\gf e=some j/\PS e V H'/\H'.get L=some (.loop .done (some j) f k tm d)/\L<H'.next)
  (λ b=>W0 b\/b=L) HL (by rw [hHL];omega)
  (λ b hb=>by
   obtain ⟨h1,h2,h3⟩:=hN b hb;exact ⟨h1,by rw [hold b (by omega)];exact h2,λ q=>q.elim h3 λ q=>by have:L=H.next+1:=rfl;omega⟩)
  ⟨W0,λ b hb=>.inl hb,.inr rfl,λ q=>by have:=hW0 _ q;have:L=H.next+1:=rfl;omega,λ q=>q.elim (λ q=>by have:=hW0 _ q;have:d=H.next:=rfl;omega) λ q=>by have:d=H.next:=rfl;have:L=H.next+1:=rfl;omega,
   λ b hb=>hb,loc 0 W0 H HL h0 (λ b hb=>hold b (hW0 b hb)) (by rw [hHL];omega),hgL,by rw [hHL];show H.next+1<H.next+2;omega⟩
  (λ b hb=>hb.elim (λ q=>by have:=hW0 b q;rw [hHL];omega) λ q=>by rw [hHL,q];show H.next+1<H.next+2;omega)
  (λ i W H1 H2 ⟨V,v1,v2,v3,v4,v5,v6,v7,v8⟩ hs hle=>⟨V,v1,v2,v3,v4,v5,loc i V H1 H2 v6 (λ b hb=>hs b (v1 b hb)) hle,by rw [hs L v2];exact v7,qn v8 hle⟩)
  (λ W H1 H2 ⟨V,e,j,v1,v2,v3,v4,v5,v6,v7,v8,v9,v10⟩ hs hle=>⟨V,e,j,v1,v2,v3,v4,v5,v6,v7,locS e V H1 H2 v8 (λ b hb=>hs b (v1 b hb)) hle,by rw [hs L v2];exact v9,qn v10 hle⟩)
  (λ i W H1 ⟨V,v1,v2,v3,v4,v5,v6,v7,v8⟩=>hI i V H1 v6)
  (λ i x hx W H1 ⟨V,v1,v2,v3,v4,v5,v6,v7,v8⟩ hb hfrS=>by
   have hLn0:L=H.next+1:=rfl
   have hfr1:Fr (λ b=>W0 b\/O b) H H1:=⟨xt (by rw [hHL];omega) hfrS.next,λ b hb hw=>by rw [hfrS.ae b (by rw [hHL];omega) (λ q=>q.elim (λ q=>q.elim (λ q=>hw (.inl q)) λ q=>by omega) λ q=>hw (.inr q)),hold b hb]⟩
   have hbV:∀ b,V b->b<H1.next/\(W0 b\/H.next<=b):=λ b q=>⟨(hb b (v1 b q)).1,(hb b (v1 b q)).2.elim (λ r=>r.elim .inl λ r=>by subst r;exact (v3 q).elim) λ r=>.inr (by rw [hHL] at r;omega)⟩
   obtain ⟨tm1,hbp,hw⟩:=hbody L d i x hx (by show H.next<=H.next+1;omega) V H1 v6 hbV hfr1 v3 v8 v7;obtain ⟨e,H2,hr,bb,rfl,W2,k1,k2,k3,k4⟩:=qwu (Q:=λ e H2=>∃ bb,e=.ret (.bool bb) /\ ∃ W2:Nat->Prop,Fr W H1 H2/\(∀ b,W2 b->b<H2.next/\(W b\/H1.next<=b)) /\
    (bb=true -> ∃ V:Nat->Prop,(∀ b,V b->W2 b)/\W2 L /\ ¬ V L /\ ¬ W2 d/\(∀ b,W2 b->V b\/b=L)/\P (i+1) V H2/\H2.get L=some (.loop .ready none f k tm d)/\L<H2.next) /\
    (bb=false -> ∃ (V:Nat->Prop) (e:aF) (j:ew),(∀ b,V b->W2 b)/\W2 L /\ ¬ V L /\ ¬ W2 d/\(∀ b,W2 b->V b\/b=L)/\dI e/\gf e=some j/\PS e V H2/\H2.get L=some (.loop .done (some j) f k tm d)/\L<H2.next)) v7 hf hk hbp
    (mi hw λ e b9 ⟨he,hgl,hw2⟩=>by
     subst he;show bu aB (beginRound b9.H L) _;have:beginRound b9.H L=some (b9.H.set L (.loop .busy none f k tm d)):=by unfold beginRound;rw [hgl]
     rw [this];refine mi hw2 λ e2 st2 ⟨hd2,hg2,W',w1,w2,w3⟩=>⟨hd2,?_⟩
     have hLn:L<st2.H.next:=qn v8 w2.next
     have hd1:d<H1.next:=by have:d=H.next:=rfl;have:L=H.next+1:=rfl;omega
     have fin:∀ s p,Fr W H1 (st2.H.set L (.loop s p f k tm d)):=λ s p=>⟨w2.next,λ b hb hw=>by
      rw [AHeap.aI,qd (by rintro rfl;exact hw v2)];exact w2.ae b hb λ q=>q.elim (λ q=>hw (v1 b q)) λ q=>hw (by rw [q];exact v2)⟩
     have hW'L:∀ b,(W' b/\b ≠ L)->(st2.H.set L (.loop .ready none f k tm d)).get b=st2.H.get b:=λ b hb=>by rw [AHeap.aI,qd (λ q=>hb.2 q.symm)]
     have hnV:¬ W' L:=λ q=>by
      rcases (w1 L q).2 with q|q
      ·exact v3 q
      ·omega
     have hnd:¬ W' d:=λ q=>by
      rcases (w1 d q).2 with q|q
      ·exact v4 (v1 d q)
      ·omega
     have hdL:d ≠ L:=by show H.next ≠ H.next+1;omega
     have bounds:∀ b,(W' b\/b=L)->b<st2.H.next/\(W b\/H1.next<=b):=λ b hb=>hb.elim (λ q=>⟨(w1 b q).1,(w1 b q).2.imp (v1 b) id⟩) λ q=>by subst q;exact ⟨hLn,.inl v2⟩
     rcases w3 with ⟨rfl,w3⟩|⟨hj,w3⟩
     ·show bu aB (bU st2.H L (cond true .ready .done) none) _;have:bU st2.H L .ready none=some (st2.H.set L (.loop .ready none f k tm d)):=by unfold bU;rw [hg2]
      rw [xe,this];refine ⟨true,rfl,λ b=>W' b\/b=L,fin _ _,bounds,λ _=>⟨W',λ b hb=>.inl hb,.inr rfl,hnV,λ q=>q.elim hnd hdL,λ b hb=>hb,loc _ _ _ _ w3 (λ b hb=>by rw [AHeap.aI,qd (by rintro rfl;exact hnV hb)]) (qg _),xd _ _ _,hLn⟩,λ h=>by cases h⟩
     ·obtain ⟨j,hj2⟩:∃ j,gf e2=some j:=by cases e2<;>first|exact hj.elim|exact ⟨_,rfl⟩
      have hnn:qX e2=false:=by cases e2<;>first|exact hj.elim|rfl
      have hmatch:∀ (A:Prop),(bu aB (bU st2.H L (cond (qX e2) .ready .done) (gf e2)) λ H=>∃ bb,(bz.ret (.bool (qX e2))=.ret (.bool bb)) /\ ∃ W2:Nat->Prop,Fr W H1 H/\(∀ b,W2 b->b<H.next/\(W b\/H1.next<=b)) /\
       (bb=true -> ∃ V:Nat->Prop,(∀ b,V b->W2 b)/\W2 L /\ ¬ V L /\ ¬ W2 d/\(∀ b,W2 b->V b\/b=L)/\P (i+1) V H/\H.get L=some (.loop .ready none f k tm d)/\L<H.next) /\
       (bb=false -> ∃ (V:Nat->Prop) (e:aF) (j:ew),(∀ b,V b->W2 b)/\W2 L /\ ¬ V L /\ ¬ W2 d/\(∀ b,W2 b->V b\/b=L)/\dI e/\gf e=some j/\PS e V H/\H.get L=some (.loop .done (some j) f k tm d)/\L<H.next)):=λ _=>by
       have:bU st2.H L .done (some j)=some (st2.H.set L (.loop .done (some j) f k tm d)):=by unfold bU;rw [hg2]
       rw [hnn,hj2,zd,this];refine ⟨false,rfl,λ b=>W' b\/b=L,fin _ _,bounds,λ h=>(by cases h),λ _=>⟨W',e2,j,λ b hb=>.inl hb,.inr rfl,hnV,λ q=>q.elim hnd hdL,λ b hb=>hb,hj,hj2,locS _ _ _ _ w3 (λ b hb=>by rw [AHeap.aI,qd (by rintro rfl;exact hnV hb)]) (qg _),xd _ _ _,hLn⟩⟩
      cases e2 with
      | normal=>exact hj.elim
      | panic _=>exact hj.elim
      | exit _=>exact hmatch True
      | goto _=>exact hmatch True
      | ret=>exact hmatch True)
   exact ⟨bb,H2,W2,hr,k1,k2,k3,k4⟩)
 have hdL:d ≠ L:=by show H.next ≠ H.next+1;omega
 have hdW:¬ ((W0 d\/d=L)\/O d):=λ q=>q.elim (λ q=>q.elim (λ q=>by have:=hW0 _ q;have:d=H.next:=rfl;omega) hdL) λ q=>by have:=(hN d (.inr q)).1;have:d=H.next:=rfl;omega
 have hgd':H'.get d=some (.deferred (some [])):=by rw [hfr.ae d (by rw [hHL];show H.next<H.next+2;omega) hdW];exact hgd
 have hd':d<H'.next:=qn (by rw [hHL];show H.next<H.next+2;omega) hfr.next
 have hout:∀ (o:bN),Fr (λ b=>W0 b\/O b) H (H'.set L o):=λ o=>⟨xt (by rw [hHL];omega) hfr.next,λ b hb hw=>by
  have:L=H.next+1:=rfl
  rw [AHeap.aI,qd (by omega),hfr.ae b (by rw [hHL];omega) (λ q=>q.elim (λ q=>q.elim (λ q=>hw (.inl q)) λ q=>by omega) λ q=>hw (.inr q)),hold b hb]⟩
 refine ⟨.ret v,H',hc,?_⟩;rcases hres with ⟨V,v1,v2,v3,v4,v5,v6,v7,v8⟩|⟨V,e,j,v1,v2,v3,v4,v5,v6,v7,v8,v9,v10⟩
 ·refine ⟨.ready,none,f,k,tm,d,v7,by simp,?_⟩;refine hend d V _ (qg _) hd' (by rw [AHeap.aI,qd (λ q=>hdL q.symm)];exact hgd') (hout _) (λ b hb=>⟨(hW' b (v1 b hb)).1,?_,λ q=>v4 (by rw [<-q];exact v1 b hb)⟩) (loc _ _ _ _ v6 (λ b hb=>by rw [AHeap.aI,qd (by rintro rfl;exact v3 hb)]) (qg _));rcases (hW' b (v1 b hb)).2 with q|q
  ·exact q.imp id λ q=>by subst q;exact (v3 hb).elim
  ·rw [hHL] at q;exact .inr (by omega)
 ·refine ⟨.done,some j,f,k,tm,d,v9,by simp,?_⟩;have he:kF (some j)=e:=by cases e<;>first|exact v6.elim|(injection v7 with v7;subst v7;rfl)
  rw [he];refine hstop e d V _ v6 (qg _) hd' (by rw [AHeap.aI,qd (λ q=>hdL q.symm)];exact hgd') (hout _) (λ b hb=>⟨(hW' b (v1 b hb)).1,?_,λ q=>v4 (by rw [<-q];exact v1 b hb)⟩) (locS _ _ _ _ v8 (λ b hb=>by rw [AHeap.aI,qd (by rintro rfl;exact v3 hb)]) (qg _));rcases (hW' b (v1 b hb)).2 with q|q
  ·exact q.imp id λ q=>by subst q;exact (v3 hb).elim
  ·rw [hHL] at q;exact .inr (by omega)
theorem fw.Bg {f:Nat} {fn:aw} {k:Nat} {lp:dG} (hf:AP.func f=some fn) (hk:nth fn.loops k=some lp) {ks:List Nat} {ts:List Nat} (hp:lp.params=ts) (hts:∀ t ∈ ts,bQ t ks=true) {pa pb:Kp × ah} (ha:pa.1.ae=ks/\pa.2=lp.assign) (hb:pb.1.ae=ks/\pb.2=lp.body)
 {E:Env} {D:List aL} {H:AHeap} {Q:aJ} {g:Nat} {pre cap:List AV} {N O:Nat->Prop} {I:AHeap->Prop} {H0:AHeap} {xs:List (List AV)} (iI:tn AP g pre cap N O I H0 xs)
 (P:Nat->(Nat->Prop)->AHeap->Prop) (PS:aF->(Nat->Prop)->AHeap->Prop) (W0:Nat->Prop)
 (hn:H0.next<=H.next) (hN:∀ b,N b\/O b->b<H0.next/\H.get b=H0.get b /\ ¬ W0 b) (hW0:∀ b,W0 b->b<H.next) (h0:P 0 W0 H)
 (loc:∀ i W H H',P i W H->(∀ b,W b->H'.get b=H.get b)->H.next<=H'.next->P i W H') (locS:∀ e W H H',PS e W H->(∀ b,W b->H'.get b=H.get b)->H.next<=H'.next->PS e W H') (hI:∀ i W H,P i W H->I H)
 (hbody:∀ (L i:Nat) (lr lb:bN) x,xs[i]? = some x->H.next<=L -> ∀ W' H1,P i W' H1->(∀ b,W' b->b<H1.next/\(W0 b\/H.next<=b))->Fr (λ b=>W0 b\/O b) H H1 -> ¬ W' L->L<H1.next->H1.get L=some lr ->
  ∃ E1,pz ts x E=some E1/\W AP ⟨some L,f⟩ pa true (Mu AP ⟨some L,f⟩ pb L lr lb (IQ (P (i+1)) PS L lb W' H1)) E1 [] H1)
 (hend:∀ d W' H',H.next<=d->d<H'.next->H'.get d=some (.deferred (some []))->Fr (λ b=>W0 b\/O b) H H'->(∀ b,W' b->b<H'.next/\(W0 b\/H.next<=b)/\b ≠ d)->P xs.length W' H'->Q .normal E (.fm d::D) H')
 (hstop:∀ e d W' H',dI e->H.next<=d->d<H'.next->H'.get d=some (.deferred (some []))->Fr (λ b=>W0 b\/O b) H H'->(∀ b,W' b->b<H'.next/\(W0 b\/H.next<=b)/\b ≠ d)->PS e W' H'->Q e E (.fm d::D) H') :
 fw AP ks ⟨none,f⟩ k E D H Q (.fn (.func g) pre cap):=by
 intro tm up he;refine q94 hf hk iI P PS W0 hn hN hW0 h0 loc locS hI ?_ (λ d W' H' h1 h2 h3 h4 h5 h6=>⟨rfl,rfl,hend d W' H' h1 h2 h3 h4 h5 h6⟩) (λ e d W' H' h0 h1 h2 h3 h4 h5 h6=>⟨rfl,rfl,hstop e d W' H' h0 h1 h2 h3 h4 h5 h6⟩);intro L d i x hx hL W' H1 hP hW hfr hnL hLn hgL;obtain ⟨E1,hE1,hw⟩:=hbody L i (.loop .ready none f k tm d) (.loop .busy none f k tm d) x hx hL W' H1 hP hW hfr hnL hLn hgL;obtain ⟨tm1,hb1,he1⟩:=Lg he hts hE1;refine ⟨tm1,by rw [hp];exact hb1,?_⟩;rw [jF] at hw;have:=W3.wp _ _ (qg _) (up:=none) hw (by rw [ha.1];exact he1);rw [ha.2] at this;refine mi this λ e b9 ⟨hup,E',hE',hq⟩=>?_;cases e with
 | normal =>
  obtain ⟨hg,hw2⟩:=hq;refine ⟨rfl,hg,?_⟩;rw [jF] at hw2;have:=W3.wp _ _ (qg _) (up:=none) hw2 (show dC pb.1.ae E' b9.tm by rw [hb.1,<-ha.1];exact hE');rw [hb.2] at this;rw [hup];refine mi this λ e2 st2 ⟨hup2,E2,hE2,hd,hg2,W2,k1,k2,k3⟩=>⟨hd,hg2,W2,k1,k2,k3⟩
 | _=>exact hq.elim
end
end Go.Am
namespace Go.Am
theorem q14 {α:Type} {L E:List α} {p size:Nat} (hE:E.length=size) (hp:p+size<=L.length) (h:∀ r,r<size->L[p+r]? = E[r]?):L=L.take p++(E++L.drop (p+size)):=by
 have h1:(L.drop p).take size=E:=by
  refine kx λ r=>?_;rcases jp r size with q|q
  ·rw [ku,qm q,yb,h r q]
  ·rw [zm (by rw [j9];omega),zm (by omega)]
 have h2:L.drop p=E++L.drop (p+size):=by
  rw [<-h1,<-BO,yd]
 rw [<-h2,yd]
theorem rM {α:Type} {L E cs:List α} {p size j n:Nat} (hE:E.length=size) (hc:cs.length=n) (hj:j+n<=size) (hp:p+size<=L.length) (h:∀ r,r<size->L[p+r]? = E[r]?) :
 L.take (p+j)++cs++L.drop (p+j+n)=L.take p++((E.take j++cs++E.drop (j+n))++L.drop (p+size)):=by
 obtain ⟨A,hA⟩:∃ A,A=L.take p:=⟨_,rfl⟩
 obtain ⟨B,hB⟩:∃ B,B=L.drop (p+size):=⟨_,rfl⟩
 have hl:A.length=p:=by rw [hA,j9];omega
 have hL:=q14 hE hp h;rw [<-hA,<-hB] at hL;rw [<-hA,<-hB];have e1:L.take (p+j)=A++E.take j:=by
  rw [hL,Gb,hl,zw (by omega),ye,kc (by omega)]
 have e2:L.drop (p+j+n)=E.drop (j+n)++B:=by
  rw [hL,we,hl,j6 (by omega),zt,show p+j+n-p=j+n by omega,kw (by omega)]
 rw [e1,e2];simp
section
variable {α:Type} {enc:α->List AV} {size:Nat} {H:AHeap} {v:AV} {xs:List α}
theorem q8y (hs:∀ x,(enc x).length=size) {i:Nat} {x y:α} (hx:xs[i]? = some x) {j n:Nat} {cs:List AV} (hc:cs.length=n) (hj:j+n<=size) (hy:enc y=(enc x).take j++cs++(enc x).drop (j+n)) :
 (xs.flatMap enc).take (i*size+j)++cs++(xs.flatMap enc).drop (i*size+j+n)=(xs.set i y).flatMap enc:=by
 have hi:=BM hx;have hb:(i+1)*size<=xs.length*size:=ki _ hi;rw [pw] at hb;have hl:=xR hs xs;rw [rM (E:=enc x) (size:=size) (hs x) hc hj (by omega) (λ r hr=>Ey hs xs hx hr),<-hy,KA hs xs hx];simp [zi,pw]
theorem dA.zX {e:Nat} (hs:∀ x,(enc x).length=size) (h:dA enc e size H v xs) {i:Nat} {x y:α} (hx:xs[i]? = some x) {j n:Nat} {u:AV} (hu:u.cells.length=n) (ho:ba u.cells=true) (hj:j+n<=size) (hy:enc y=(enc x).take j++u.cells++(enc x).drop (j+n)) :
 ∃ H',Op.store n [.ptr (aM v) (cu size v i+j),u] H=some (.undef,H')/\dA enc e size H' v (xs.set i y)/\Fr (On (aM v)) H H':=by
 obtain ⟨b,rfl,h1,h2⟩:=h;have hi:=BM hx;have hl:=xR hs xs;have hb:(i+1)*size<=xs.length*size:=ki _ hi;rw [pw] at hb;have hst:=po h2 (o:=i*size+j) (n:=n) (v:=u) hu (by omega) ho;have hso:cu size (AV.slice b 0 xs.length xs.length) i=i*size:=by simp [cu]
 rw [hso];refine ⟨_,hst,⟨b,?_,h1,?_⟩,(Fr.refl H).set (W:=On b) (.inl rfl) _⟩
 ·rw [qz]
 ·rw [xd,q8y hs hx hu hj hy]
theorem dA.HM {e:Nat} (hs:∀ x,(enc x).length=size) (ho:∀ x,ba (enc x)=true) (h:dA enc e size H v xs) {i:Nat} {x:α} (hx:xs[i]? = some x) (y:α) :
 ∃ H',Op.store size [.ptr (aM v) (cu size v i),.agg (enc y)] H=some (.undef,H')/\dA enc e size H' v (xs.set i y)/\Fr (On (aM v)) H H':=by
 have:=h.zX hs hx (y:=y) (j:=0) (n:=size) (u:=.agg (enc y)) (by rw [xw];exact hs y) (by rw [xw];exact ho y) (by omega) (by
  rw [xw,Dm,zt,j6 (by rw [hs];omega),x9])
 rw [qe] at this;exact this
end
end Go.Am
