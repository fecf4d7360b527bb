/- NmK0: StkP SmP SmQ Iter3 Iter5 StoN SortP. -/
import Derived.Test.YtiibohocdbaekaaGreatAmCB4
set_option linter.unusedVariables false
set_option linter.unusedSimpArgs false
namespace Go.Am
def eF (x:Nat):List AV:=[.int .i64 (x:Int)]
theorem uw (x:Nat):(eF x).length=1:=rfl
theorem FD (l:List Nat):l.flatMap eF=l.map λ (x:Nat)=>AV.int .i64 (x:Int):=by
 induction l with
 | nil=>rfl
 | cons a l ih=>rw [zx,ih];rfl
theorem pT (l:List Nat):(l.flatMap eF).length=l.length:=by rw [FD,xu]
structure jS (e:Nat) (H0 H:AHeap) (v:AV) (xs:List Nat):Prop where
 own:(v=.nils/\xs=[]) \/ ∃ b m rest,v=.gslice b 0 m 1 0 xs.length/\b<H.next/\H0.next<=b/\m=xs.length+rest.length/\H.get b=some (.grown m 1 (xs.flatMap eF++rest) e (0,0))
 fr:Fr Em H0 H
section
variable {e:Nat} {H0 H:AHeap} {v:AV} {xs:List Nat}
theorem jS.nil (e:Nat) (H:AHeap):jS e H H .nils []:=⟨.inl ⟨rfl,rfl⟩,Fr.refl H⟩
theorem jS.fresh (h:jS e H0 H v xs):∀ b,aI v b->H0.next<=b/\b<H.next:=by
 rintro b ⟨h1,rfl⟩;rcases h.own with ⟨rfl,_⟩|⟨b,m,rest,rfl,q1,q2,_⟩
 ·exact (h1 rfl).elim
 ·exact ⟨q2,q1⟩
theorem jS.sl (h:jS e H0 H v xs):du eF 1 H v xs:=by
 rcases h.own with ⟨rfl,rfl⟩|⟨b,m,rest,rfl,q1,q2,q3,q4⟩
 ·exact ⟨rfl,rfl⟩
 ·refine ⟨by rw [pT,A9],rfl,rfl,by omega,.inr ⟨q1,_,OC q4,?_⟩⟩;rw [qP,ql (by rw [qx,pT];omega),yl,GP,A9,jv (by rw [pT];exact qf _),zj (by rw [pT];exact qf _)]
theorem jS.pM {H':AHeap} {W:Nat->Prop} (h:jS e H0 H v xs) (f:Fr W H H') (f0:Fr Em H0 H') (hw:∀ b,aI v b -> ¬ W b):jS e H0 H' v xs:=by
 refine ⟨?_,f0⟩;rcases h.own with q|⟨b,m,rest,rfl,q1,q2,q3,q4⟩
 ·exact .inl q
 ·exact .inr ⟨b,m,rest,rfl,qk q1 f.next,q2,q3,by rw [f.ah b q1 (hw b ⟨by simp,rfl⟩)];exact q4⟩
theorem jS.em {H':AHeap} (h:jS e H0 H v xs) (f:Fr Em H H'):jS e H0 H' v xs:=h.pM f (h.fr.em f) λ _ _ q=>q
theorem jS.cut (h:jS e H0 H v xs) {k:Nat} (hk:k<=xs.length) {z:Int} (hz:z=k) (kk:IntKind) :
 ∃ v',Op.aJ 1 [none,some 0,none] [v,.int kk z]=some v'/\jS e H0 H v' (xs.take k) /\ ∀ b,aI v' b->aI v b:=by
 rcases h.own with ⟨rfl,rfl⟩|⟨b,m,rest,rfl,q1,q2,q3,q4⟩
 ·have:k=0:=by simpa using hk
  subst this;refine ⟨.nils,?_,⟨.inl ⟨rfl,rfl⟩,h.fr⟩,λ b hb=>hb⟩;have hbn:bound none 0 0=some 0:=rfl;simp [Op.aJ,arg,jO,df,hbn,rN hz (qf 0)]
 ·have e1:∀ n,Nat.beq n n=true:=λ n=>by simp
  have hb1:∀ d m,bound none d m=some d:=λ _ _=>rfl;have hkm:=k9 (show k<=m-0 by omega);refine ⟨.gslice b (0+0) m 1 (cond (Nat.beq 0 0) 0 (0*1)) (k-0),by simp only [Op.aJ,arg,jO,je,qj,df,hb1,rN hz (show k<=m-0 by omega),e1,hkm,k9 (xx m),zu,xf],⟨.inr ⟨b,m,(xs.drop k).flatMap eF++rest,?_,q1,q2,?_,?_⟩,h.fr⟩,λ b hb=>⟨by simp,hb.2⟩⟩
  ·rw [ja,Nat.min_eq_left hk];rfl
  ·rw [ja,qx,pT,ju];omega
  ·rw [q4,<-zf,<-jd,kr]
theorem jS.push (h:jS e H0 H v xs) {x:Nat} {zero:List AV} {bytes:Nat} (hz:zero.length=1) (hf:(xs.length+1)*bytes<=140737488355328) (hf':xs.length+1<=140737488355328) {K:bm->(Nat->AV)->Bool->AV->AHeap->Prop} {m:Bool}
 (hk:∀ v' H',jS e H0 H' v' (xs ++ [x])->Fr (aI v) H H'->(∀ b,aI v' b->aI v b\/H.next<=b)->K (.row [.int .i64 (x:Int)] e (0,0) true) (Op.sliceTo 1 1) m v' H') :
 gn m (Op.buildSlice e 1 zero [(0,1)] [.int .i64 (x:Int)]) λ g o mk=>gn g (Op.append e 1 bytes [v,mk H.next] (H.alloc o)) (K o mk):=by
 have hb:Op.buildSlice e 1 zero [(0,1)] [.int .i64 (x:Int)]=some (.row [.int .i64 (x:Int)] e (0,0) true,Op.sliceTo 1 1):=Qd e 1 zero (.int .i64 (x:Int)) hz rfl;rw [hb];have hfr:Fr Em H (H.alloc (.row [.int .i64 (x:Int)] e (0,0) true)):=(Fr.refl H).alloc _;have hx:Sl (H.alloc (.row [.int .i64 (x:Int)] e (0,0) true)) 1 (Op.sliceTo 1 1 H.next) 1 [.int .i64 (x:Int)]:=xO rfl;have e1:∀ n,Nat.beq n n=true:=λ n=>by simp
 have ha:aO [AV.int .i64 (x:Int)]=true:=rfl;have hlt:Nat.blt 0 1=true:=rfl;have h10:Nat.beq 1 0=false:=rfl;have hfit:=KI hf hf';refine gn.intro rfl ?_;rcases h.own with ⟨rfl,rfl⟩|⟨b,mm,rest,rfl,q1,q2,q3,q4⟩
 ·have hfit:fits 1 bytes=true:=by simpa using hfit
  refine gn.intro (a:=.gslice (H.next+1) 0 1 1 0 1) (b:=(H.alloc (.row [.int .i64 (x:Int)] e (0,0) true)).alloc (.grown 1 1 [.int .i64 (x:Int)] e (0,0))) ?_ (hk _ _ ⟨.inr ⟨H.next+1,1,[],rfl,?_,?_,rfl,?_⟩,?_⟩ ((hfr.alloc _).mono λ _ _ q=>q.elim) λ b hb=>.inr ?_)
  ·simp only [Op.append,hx.dD,hx.first,qj,ha,xf,bQ,h10,za,hfit,hlt,zu,cj,xd]
  ·rw [xd,xd];omega
  ·have:=h.fr.next;omega
  ·exact qw ..
  ·exact (h.fr.em hfr).alloc _
  ·rw [hb.2];show H.next<=H.next+1;omega
 ·have q4':(H.alloc (.row [.int .i64 (x:Int)] e (0,0) true)).get b=some (.grown mm 1 (xs.flatMap eF++rest) e (0,0)):=by rw [M0 q1];exact q4
  cases rest with
  | nil =>
   have hm:mm=xs.length:=by simpa using q3
   subst hm;have h3:Nat.ble (0+xs.length+1) xs.length=false:=by cases hq:Nat.ble (0+xs.length+1) xs.length with|false=>rfl|true=>rw [yr] at hq;omega
   have h4:=k9 (show 0+xs.length<=xs.length by omega);have h5:=k9 (xx (xs.length*1));refine gn.intro (a:=.gslice (H.next+1) 0 (xs.length+1) 1 0 (xs.length+1)) (b:=((H.alloc (.row [.int .i64 (x:Int)] e (0,0) true)).kill b).alloc (.grown (xs.length+1) 1 (xs.flatMap eF ++ [.int .i64 (x:Int)]) e (0,0))) ?_ (hk _ _ ⟨.inr ⟨H.next+1,xs.length+1,[],?_,?_,?_,?_,?_⟩,?_⟩ ?_ λ b hb=>.inr ?_)
   ·simp only [Op.append,hx.dD,hx.first,qj,ha,xf,bQ,h10,za,e1,h4,hlt,zu,h3,hfit,q4',h5,cj,BG,xd,lG,xt,Nat.beq]
   ·rw [qx];rfl
   ·rw [xd,BG,xd];omega
   ·have:=h.fr.next;omega
   ·rw [qx];rfl
   ·rw [xt,jd];have:=qw ((H.alloc (.row [.int .i64 (x:Int)] e (0,0) true)).kill b) (.grown (xs.length+1) 1 (xs.flatMap eF ++ [.int .i64 (x:Int)]) e (0,0));rw [BG,xd] at this;exact this
   ·exact ((h.fr.em hfr).kill (.inr q2)).alloc _
   ·exact (Fr.kill (W:=aI (AV.gslice b 0 xs.length 1 0 xs.length)) (hfr.mono λ _ _ q=>q.elim) (.inl ⟨by simp,rfl⟩)).alloc _
   ·rw [hb.2];show H.next<=H.next+1;omega
  | cons r rest =>
   have h3:=k9 (show 0+xs.length+1<=mm by simp at q3;omega);have h4:=k9 (show 0+xs.length<=mm by omega);have hst:(H.alloc (.row [.int .i64 (x:Int)] e (0,0) true)).store b ((0+xs.length)*1) [.int .i64 (x:Int)]=some ((H.alloc (.row [.int .i64 (x:Int)] e (0,0) true)).set b (.grown mm 1 ((xs ++ [x]).flatMap eF++rest) e (0,0))):=by
    have ht:cN (0,0) ((0+xs.length)*1) (bL [AV.int .i64 (x:Int)])=true:=by simp [cN]
    simp only [AHeap.store,ha,xf,q4',ht,Ae];rw [ql (by rw [qx,pT];simp),qj];congr 4;rw [jy,A9,jv (by rw [pT];exact qf _),zj (by rw [pT];exact qf _),jd]
    ·rfl
    ·rw [jy,A9,show [AV.int .i64 (x:Int)].length=1 from rfl,yp,jh (by rw [pT];omega),pT];simp
   refine gn.intro (a:=.gslice b 0 mm 1 0 (xs.length+1)) (b:=(H.alloc (.row [.int .i64 (x:Int)] e (0,0) true)).set b (.grown mm 1 ((xs ++ [x]).flatMap eF++rest) e (0,0))) ?_ (hk _ _ ⟨.inr ⟨b,mm,rest,?_,?_,q2,?_,?_⟩,?_⟩ ?_ λ c hc=>.inl ⟨by simp,hc.2⟩)
   ·simp only [Op.append,hx.dD,hx.first,qj,ha,xf,bQ,h10,za,e1,h4,hlt,zu,h3,hst]
   ·rw [qx];rfl
   ·rw [C8,xd];omega
   ·rw [qx];simp at q3 ⊢;omega
   ·exact xb ..
   ·exact (h.fr.em hfr).set (.inr q2) _
   ·exact Fr.set (W:=aI (AV.gslice b 0 mm 1 0 xs.length)) (hfr.mono λ _ _ q=>q.elim) (.inl ⟨by simp,rfl⟩) _
end
end Go.Am
namespace Go.Am
theorem HM {len size b o:Nat} {k:IntKind} {j:Int} {i:Nat} (hj:j=i) (hi:i<len):Op.bE len size [.ptr b o,.int k j]=some (.ptr b (o+i*size)):=by
 simp only [Op.bE,KW hj hi,qj]
theorem tY {k:IntKind} {a:Nat} {b:Int} (hb:0<b):Op.bin .rem [.int k (a:Int),.int k b]=some (.int k ((a % b.toNat:Nat):Int)):=by
 rw [CG k _ _ (by omega),Int.tmod_eq_emod_of_nonneg (by omega)];congr 2;rw [Int.natCast_emod];congr 1;omega
namespace Lang
def ints (l:List Nat):List Int:=l.map λ (n:Nat)=>(n:Int)
end Lang
end Go.Am
namespace Go.Am
theorem q32 {s:List UInt8} {k:IntKind} {j:Int} {i:Nat} {c:UInt8} (hj:j=i) (hc:s[i]? = some c):Op.cr [.str s,.int k j]=some (.int .u8 c.toNat):=by
 have hi:i<s.length:=(qe.1 hc).1;simp only [Op.cr,KW hj hi,qj,jO,hc]
theorem I7 (k k':IntKind) (a:Int) (n:Nat):Op.bin .shr [.int k a,.int k' n]=some (.int k (a.fdiv (2 ^ (min n k.bits)))):=by
 have e:tw (n:Int) 0=false:=by rw [GD];simp
 simp only [Op.bin,jX,cI,xf,oI,e,za,x9]
theorem Df (k k':IntKind) (a:Int) (n:Nat):Op.bin .shl [.int k a,.int k' n]=some (.int k (ak k (a*2 ^ (min n k.bits)))):=by
 have e:tw (n:Int) 0=false:=by rw [GD];simp
 simp only [Op.bin,jX,cI,xf,oI,e,za,x9]
theorem CW {n:Nat} (h:n<9223372036854775808):ak .i64 (n:Int)=n:=by rw [qzo];omega
theorem nP {n:Nat} (h:n<18446744073709551616):ak .u64 (n:Int)=n:=by rw [q7x];omega
theorem PN {n:Nat} (h:n<256):ak .u8 (n:Int)=n:=by rw [yX];omega
end Go.Am
namespace Go.Am
def nG (AP:aA) (g:Nat) (pre cap:List AV) (N O:Nat->Prop) (H0:AHeap) (xs:List (List AV)):Prop :=
 ∀ (L:Nat) (R:Nat->(Nat->Prop)->AHeap->Prop) (S:(Nat->Prop)->AHeap->Prop) (W0:Nat->Prop) (H:AHeap),
  H0.next<=H.next->(∀ b,N b\/O b->b<H0.next/\H.get b=H0.get b /\ ¬ W0 b)->R 0 W0 H->(∀ b,W0 b->b<H.next) ->
  (∀ i W H H',R i W H->(∀ b,W b->H'.get b=H.get b)->H.next<=H'.next->R i W H')->(∀ W H H',S W H->(∀ b,W b->H'.get b=H.get b)->H.next<=H'.next->S W H') ->
  (∀ (i:Nat) x,xs[i]? = some x -> ∀ W H',R i W H'->(∀ b,W b->b<H'.next/\(W0 b\/H.next<=b))->Fr (λ b=>W0 b\/O b) H H' ->
   ∃ bb H'' W',nN AP L x H' (.ret (.bool bb)) H''/\Fr W H' H''/\(∀ b,W' b->b<H''.next/\(W b\/H'.next<=b))/\(bb=true->R (i+1) W' H'')/\(bb=false->S W' H'')) ->
  ∃ v H' W',kB AP g (pre++(.fn (.yield L) [] []::cap)) H (.ret v) H'/\Fr (λ b=>W0 b\/O b) H H'/\(∀ b,W' b->b<H'.next/\(W0 b\/H.next<=b))/\(R xs.length W' H'\/S W' H')
section
variable {AP:aA}
theorem q69 {f:Nat} {fn:cm} {k:Nat} {lp:db} (hf:AP.func f=some fn) (hk:nth fn.loops k=some lp) {tm:T AV} {aM:List aD} {up:Option aw} {H:AHeap} {Q:bP}
 {g:Nat} {pre cap:List AV} {N O:Nat->Prop} {H0:AHeap} {xs:List (List AV)} (iX:nG AP g pre cap N O H0 xs)
 (P:Nat->(Nat->Prop)->AHeap->Prop) (PS:aC->(Nat->Prop)->AHeap->Prop) (W0:Nat->Prop)
 (hn:H0.next<=H.next) (hN:∀ b,N b\/O b->b<H0.next/\H.get b=H0.get b /\ ¬ W0 b) (hW0:∀ b,W0 b->b<H.next) (h0:P 0 W0 H)
 (loc:∀ i W H H',P i W H->(∀ b,W b->H'.get b=H.get b)->H.next<=H'.next->P i W H') (locS:∀ e W H H',PS e W H->(∀ b,W b->H'.get b=H.get b)->H.next<=H'.next->PS e W H')
 (hbody:∀ (L d i:Nat) x,xs[i]? = some x->H.next<=L -> ∀ W H1,P i W H1->(∀ b,W b->b<H1.next/\(W0 b\/H.next<=b))->Fr (λ b=>W0 b\/O b) H H1 -> ¬ W L->L<H1.next->H1.get L=some (.loop .ready none f k tm d) ->
  ∃ tm1,Dy tm lp.params x=some tm1/\WP AP ⟨some L,f⟩ lp.assign ⟨tm1,[],none,H1⟩ λ e bS=>e=.normal/\bS.H.get L=some (.loop .ready none f k tm d) /\
   WP AP ⟨some L,f⟩ lp.body ⟨bS.tm,bS.aM,bS.up,bS.H.set L (.loop .busy none f k tm d)⟩ λ e2 st2=>st2.aM=[]/\st2.H.get L=some (.loop .busy none f k tm d) /\
    ∃ W':Nat->Prop,(∀ b,W' b->b<st2.H.next/\(W b\/H1.next<=b))/\Fr (λ b=>W b\/b=L) H1 st2.H/\(e2=.normal/\P (i+1) W' st2.H\/d8 e2/\PS e2 W' st2.H))
 (hend:∀ d W' H',H.next<=d->d<H'.next->H'.get d=some (.deferred (some []))->Fr (λ b=>W0 b\/O b) H H'->(∀ b,W' b->b<H'.next/\(W0 b\/H.next<=b)/\b ≠ d)->P xs.length W' H'->Q .normal ⟨tm,.fT d::aM,up,H'⟩)
 (hstop:∀ e d W' H',d8 e->H.next<=d->d<H'.next->H'.get d=some (.deferred (some []))->Fr (λ b=>W0 b\/O b) H H'->(∀ b,W' b->b<H'.next/\(W0 b\/H.next<=b)/\b ≠ d)->PS e W' H'->Q e ⟨tm,.fT d::aM,up,H'⟩) :
 C7 AP ⟨none,f⟩ k ⟨tm,aM,up,H⟩ Q (.fn (.func g) pre cap):=by
 let d:=H.next
 let L:=H.next+1
 let Hd:=H.alloc (.deferred (some []))
 let HL:=Hd.alloc (.loop .ready none f k tm d)
 have hHL:HL.next=H.next+2:=rfl
 have hgL:HL.get L=some (.loop .ready none f k tm d):=qw Hd _;have hgd:HL.get d=some (.deferred (some [])):=by rw [show HL.get d=Hd.get d from M0 (by show H.next<H.next+1;omega) _];exact qw H _
 have hfr0:Fr Em H HL:=((Fr.refl H).alloc _).alloc _;have hold:∀ b,b<H.next->HL.get b=H.get b:=λ b hb=>hfr0.ah b hb (λ q=>q)
 obtain ⟨v,H',W',hc,hfr,hW',hres⟩:=iX L
  (λ i W H'=>∃ V:Nat->Prop,(∀ b,V b->W b)/\W L /\ ¬ V L /\ ¬ W d/\(∀ b,W b->V b\/b=L)/\P i V H'/\H'.get L=some (.loop .ready none f k tm d)/\L<H'.next)
  (λ W H'=>∃ (V:Nat->Prop) (e:aC) (j:eI),(∀ b,V b->W b)/\W L /\ ¬ V L /\ ¬ W d/\(∀ b,W b->V b\/b=L)/\d8 e/\gV e=some j/\PS e V H'/\H'.get L=some (.loop .done (some j) f k tm d)/\L<H'.next)
  (λ b=>W0 b\/b=L) HL (by rw [hHL];omega)
  (λ b hb=>by
   obtain ⟨h1,h2,h3⟩:=hN b hb;exact ⟨h1,by rw [hold b (by omega)];exact h2,λ q=>q.elim h3 λ q=>by have:L=H.next+1:=rfl;omega⟩)
  ⟨W0,λ b hb=>.inl hb,.inr rfl,λ q=>by have:=hW0 _ q;have:L=H.next+1:=rfl;omega,λ q=>q.elim (λ q=>by have:=hW0 _ q;have:d=H.next:=rfl;omega) λ q=>by have:d=H.next:=rfl;have:L=H.next+1:=rfl;omega,
   λ b hb=>hb,loc 0 W0 H HL h0 (λ b hb=>hold b (hW0 b hb)) (by rw [hHL];omega),hgL,by rw [hHL];show H.next+1<H.next+2;omega⟩
  (λ b hb=>hb.elim (λ q=>by have:=hW0 b q;rw [hHL];omega) λ q=>by rw [hHL,q];show H.next+1<H.next+2;omega)
  (λ i W H1 H2 ⟨V,v1,v2,v3,v4,v5,v6,v7,v8⟩ hs hle=>⟨V,v1,v2,v3,v4,v5,loc i V H1 H2 v6 (λ b hb=>hs b (v1 b hb)) hle,by rw [hs L v2];exact v7,qk v8 hle⟩)
  (λ W H1 H2 ⟨V,e,j,v1,v2,v3,v4,v5,v6,v7,v8,v9,v10⟩ hs hle=>⟨V,e,j,v1,v2,v3,v4,v5,v6,v7,locS e V H1 H2 v8 (λ b hb=>hs b (v1 b hb)) hle,by rw [hs L v2];exact v9,qk v10 hle⟩)
  (λ i x hx W H1 ⟨V,v1,v2,v3,v4,v5,v6,v7,v8⟩ hb hfrS=>by
   have hLn0:L=H.next+1:=rfl
   have hfr1:Fr (λ b=>W0 b\/O b) H H1:=⟨xj (by rw [hHL];omega) hfrS.next,λ b hb hw=>by rw [hfrS.ah b (by rw [hHL];omega) (λ q=>q.elim (λ q=>q.elim (λ q=>hw (.inl q)) λ q=>by omega) λ q=>hw (.inr q)),hold b hb]⟩
   have hbV:∀ b,V b->b<H1.next/\(W0 b\/H.next<=b):=λ b q=>⟨(hb b (v1 b q)).1,(hb b (v1 b q)).2.elim (λ r=>r.elim .inl λ r=>by subst r;exact (v3 q).elim) λ r=>.inr (by rw [hHL] at r;omega)⟩
   obtain ⟨tm1,hbp,hw⟩:=hbody L d i x hx (by show H.next<=H.next+1;omega) V H1 v6 hbV hfr1 v3 v8 v7;obtain ⟨e,H2,hr,bb,rfl,W2,k1,k2,k3,k4⟩:=qts (Q:=λ e H2=>∃ bb,e=.ret (.bool bb) /\ ∃ W2:Nat->Prop,Fr W H1 H2/\(∀ b,W2 b->b<H2.next/\(W b\/H1.next<=b)) /\
    (bb=true -> ∃ V:Nat->Prop,(∀ b,V b->W2 b)/\W2 L /\ ¬ V L /\ ¬ W2 d/\(∀ b,W2 b->V b\/b=L)/\P (i+1) V H2/\H2.get L=some (.loop .ready none f k tm d)/\L<H2.next) /\
    (bb=false -> ∃ (V:Nat->Prop) (e:aC) (j:eI),(∀ b,V b->W2 b)/\W2 L /\ ¬ V L /\ ¬ W2 d/\(∀ b,W2 b->V b\/b=L)/\d8 e/\gV e=some j/\PS e V H2/\H2.get L=some (.loop .done (some j) f k tm d)/\L<H2.next)) v7 hf hk hbp
    (nI hw λ e bS ⟨he,hgl,hw2⟩=>by
     subst he;show bn av (beginRound bS.H L) _;have:beginRound bS.H L=some (bS.H.set L (.loop .busy none f k tm d)):=by unfold beginRound;rw [hgl]
     rw [this];refine nI hw2 λ e2 st2 ⟨hd2,hg2,W',w1,w2,w3⟩=>⟨hd2,?_⟩
     have hLn:L<st2.H.next:=qk v8 w2.next
     have hd1:d<H1.next:=by have:d=H.next:=rfl;have:L=H.next+1:=rfl;omega
     have fin:∀ s p,Fr W H1 (st2.H.set L (.loop s p f k tm d)):=λ s p=>⟨w2.next,λ b hb hw=>by
      rw [AHeap.aE,qg (by rintro rfl;exact hw v2)];exact w2.ah b hb λ q=>q.elim (λ q=>hw (v1 b q)) λ q=>hw (by rw [q];exact v2)⟩
     have hW'L:∀ b,(W' b/\b ≠ L)->(st2.H.set L (.loop .ready none f k tm d)).get b=st2.H.get b:=λ b hb=>by rw [AHeap.aE,qg (λ q=>hb.2 q.symm)]
     have hnV:¬ W' L:=λ q=>by
      rcases (w1 L q).2 with q|q
      ·exact v3 q
      ·omega
     have hnd:¬ W' d:=λ q=>by
      rcases (w1 d q).2 with q|q
      ·exact v4 (v1 d q)
      ·omega
     have hdL:d ≠ L:=by show H.next ≠ H.next+1;omega
     have bounds:∀ b,(W' b\/b=L)->b<st2.H.next/\(W b\/H1.next<=b):=λ b hb=>hb.elim (λ q=>⟨(w1 b q).1,(w1 b q).2.imp (v1 b) id⟩) λ q=>by subst q;exact ⟨hLn,.inl v2⟩
     rcases w3 with ⟨rfl,w3⟩|⟨hj,w3⟩
     ·show bn av (bJ st2.H L (cond true .ready .done) none) _;have:bJ st2.H L .ready none=some (st2.H.set L (.loop .ready none f k tm d)):=by unfold bJ;rw [hg2]
      rw [xf,this];refine ⟨true,rfl,λ b=>W' b\/b=L,fin _ _,bounds,λ _=>⟨W',λ b hb=>.inl hb,.inr rfl,hnV,λ q=>q.elim hnd hdL,λ b hb=>hb,loc _ _ _ _ w3 (λ b hb=>by rw [AHeap.aE,qg (by rintro rfl;exact hnV hb)]) (qf _),xb _ _ _,hLn⟩,λ h=>by cases h⟩
     ·obtain ⟨j,hj2⟩:∃ j,gV e2=some j:=by cases e2<;>first|exact hj.elim|exact ⟨_,rfl⟩
      have hnn:so e2=false:=by cases e2<;>first|exact hj.elim|rfl
      have hmatch:∀ (A:Prop),(bn av (bJ st2.H L (cond (so e2) .ready .done) (gV e2)) λ H=>∃ bb,(bg.ret (.bool (so e2))=.ret (.bool bb)) /\ ∃ W2:Nat->Prop,Fr W H1 H/\(∀ b,W2 b->b<H.next/\(W b\/H1.next<=b)) /\
       (bb=true -> ∃ V:Nat->Prop,(∀ b,V b->W2 b)/\W2 L /\ ¬ V L /\ ¬ W2 d/\(∀ b,W2 b->V b\/b=L)/\P (i+1) V H/\H.get L=some (.loop .ready none f k tm d)/\L<H.next) /\
       (bb=false -> ∃ (V:Nat->Prop) (e:aC) (j:eI),(∀ b,V b->W2 b)/\W2 L /\ ¬ V L /\ ¬ W2 d/\(∀ b,W2 b->V b\/b=L)/\d8 e/\gV e=some j/\PS e V H/\H.get L=some (.loop .done (some j) f k tm d)/\L<H.next)):=λ _=>by
       have:bJ st2.H L .done (some j)=some (st2.H.set L (.loop .done (some j) f k tm d)):=by unfold bJ;rw [hg2]
       rw [hnn,hj2,za,this];refine ⟨false,rfl,λ b=>W' b\/b=L,fin _ _,bounds,λ h=>(by cases h),λ _=>⟨W',e2,j,λ b hb=>.inl hb,.inr rfl,hnV,λ q=>q.elim hnd hdL,λ b hb=>hb,hj,hj2,locS _ _ _ _ w3 (λ b hb=>by rw [AHeap.aE,qg (by rintro rfl;exact hnV hb)]) (qf _),xb _ _ _,hLn⟩⟩
      cases e2 with
      | normal=>exact hj.elim
      | panic _=>exact hj.elim
      | exit _=>exact hmatch True
      | goto _=>exact hmatch True
      | ret=>exact hmatch True)
   exact ⟨bb,H2,W2,hr,k1,k2,k3,k4⟩)
 have hdL:d ≠ L:=by show H.next ≠ H.next+1;omega
 have hdW:¬ ((W0 d\/d=L)\/O d):=λ q=>q.elim (λ q=>q.elim (λ q=>by have:=hW0 _ q;have:d=H.next:=rfl;omega) hdL) λ q=>by have:=(hN d (.inr q)).1;have:d=H.next:=rfl;omega
 have hgd':H'.get d=some (.deferred (some [])):=by rw [hfr.ah d (by rw [hHL];show H.next<H.next+2;omega) hdW];exact hgd
 have hd':d<H'.next:=qk (by rw [hHL];show H.next<H.next+2;omega) hfr.next
 have hout:∀ (o:bm),Fr (λ b=>W0 b\/O b) H (H'.set L o):=λ o=>⟨xj (by rw [hHL];omega) hfr.next,λ b hb hw=>by
  have:L=H.next+1:=rfl
  rw [AHeap.aE,qg (by omega),hfr.ah b (by rw [hHL];omega) (λ q=>q.elim (λ q=>q.elim (λ q=>hw (.inl q)) λ q=>by omega) λ q=>hw (.inr q)),hold b hb]⟩
 refine ⟨.ret v,H',hc,?_⟩;rcases hres with ⟨V,v1,v2,v3,v4,v5,v6,v7,v8⟩|⟨V,e,j,v1,v2,v3,v4,v5,v6,v7,v8,v9,v10⟩
 ·refine ⟨.ready,none,f,k,tm,d,v7,by simp,?_⟩;refine hend d V _ (qf _) hd' (by rw [AHeap.aE,qg (λ q=>hdL q.symm)];exact hgd') (hout _) (λ b hb=>⟨(hW' b (v1 b hb)).1,?_,λ q=>v4 (by rw [<-q];exact v1 b hb)⟩) (loc _ _ _ _ v6 (λ b hb=>by rw [AHeap.aE,qg (by rintro rfl;exact v3 hb)]) (qf _));rcases (hW' b (v1 b hb)).2 with q|q
  ·exact q.imp id λ q=>by subst q;exact (v3 hb).elim
  ·rw [hHL] at q;exact .inr (by omega)
 ·refine ⟨.done,some j,f,k,tm,d,v9,by simp,?_⟩;have he:mn (some j)=e:=by cases e<;>first|exact v6.elim|(injection v7 with v7;subst v7;rfl)
  rw [he];refine hstop e d V _ v6 (qf _) hd' (by rw [AHeap.aE,qg (λ q=>hdL q.symm)];exact hgd') (hout _) (λ b hb=>⟨(hW' b (v1 b hb)).1,?_,λ q=>v4 (by rw [<-q];exact v1 b hb)⟩) (locS _ _ _ _ v8 (λ b hb=>by rw [AHeap.aE,qg (by rintro rfl;exact v3 hb)]) (qf _));rcases (hW' b (v1 b hb)).2 with q|q
  ·exact q.imp id λ q=>by subst q;exact (v3 hb).elim
  ·rw [hHL] at q;exact .inr (by omega)
def rj:List Nat->List AV->Env->Option Env
 | [],[],E=>some E
 | t::ts,v::vs,E=>rj ts vs ((t,v)::E)
 | _,_,_=>none
def Mu (M:aA) (ctx:Ctx) (b:Kp × aj) (L:Nat) (lr lb:bm) (Q:au):au:=λ e E D H=>match e with
 | .normal=>H.get L=some lr/\W M ctx b true Q E D (H.set L lb)
 | _=>False
theorem EK (M:aA) (ctx:Ctx) (b:Kp × aj) (L:Nat) (lr lb:bm) (Q:au) (E:Env) (D:List aD) (H:AHeap):Mu M ctx b L lr lb Q .normal E D H=(H.get L=some lr/\W M ctx b true Q E D (H.set L lb)):=propext ji
def IE (P:(Nat->Prop)->AHeap->Prop) (PS:aC->(Nat->Prop)->AHeap->Prop) (L:Nat) (lb:bm) (W:Nat->Prop) (H1:AHeap):au:=λ e _ D H=>D=[]/\H.get L=some lb /\
 ∃ W':Nat->Prop,(∀ b,W' b->b<H.next/\(W b\/H1.next<=b))/\Fr (λ b=>W b\/b=L) H1 H/\(e=.normal/\P W' H\/d8 e/\PS e W' H)
theorem dP.cons {ks:List Nat} {E:Env} {tm:T AV} (h:dP ks E tm) {t:Nat} (v:AV) (ht:aV t ks=true):dP ks ((t,v)::E) (tm.set t v):=λ u x hu=>by
 rw [qE] at hu;split at hu
 ·rename_i e;subst e;injection hu with hu;subst hu
  exact ⟨by rw [T.aE,ql rfl],ht⟩
 ·rename_i e;obtain ⟨h1,h2⟩:=h u x hu;exact ⟨by rw [T.aE,qg e,h1],h2⟩
theorem OP {ks:List Nat}:∀ {ts:List Nat} {vs:List AV} {E E1:Env} {tm:T AV},dP ks E tm->(∀ t ∈ ts,aV t ks=true)->rj ts vs E=some E1 -> ∃ tm1,Dy tm ts vs=some tm1/\dP ks E1 tm1
 | [],[],E,E1,tm,h,ht,hb=>by injection hb with hb;subst hb;exact ⟨tm,rfl,h⟩
 | [],_::_,_,_,_,_,_,hb=>nomatch hb
 | _::_,[],_,_,_,_,_,hb=>nomatch hb
 | t::ts,v::vs,E,E1,tm,h,ht,hb=>OP (ts:=ts) (vs:=vs) (h.cons v (ht t (vv ..))) (λ u hu=>ht u (yx _ hu)) hb
theorem gN.iter {f:Nat} {fn:cm} {k:Nat} {lp:db} (hf:AP.func f=some fn) (hk:nth fn.loops k=some lp) {ks:List Nat} {ts:List Nat} (hp:lp.params=ts) (hts:∀ t ∈ ts,aV t ks=true) {pa pb:Kp × aj} (ha:pa.1.ah=ks/\pa.2=lp.assign) (hb:pb.1.ah=ks/\pb.2=lp.body)
 {E:Env} {D:List aD} {H:AHeap} {Q:au} {g:Nat} {pre cap:List AV} {N O:Nat->Prop} {H0:AHeap} {xs:List (List AV)} (iX:nG AP g pre cap N O H0 xs)
 (P:Nat->(Nat->Prop)->AHeap->Prop) (PS:aC->(Nat->Prop)->AHeap->Prop) (W0:Nat->Prop)
 (hn:H0.next<=H.next) (hN:∀ b,N b\/O b->b<H0.next/\H.get b=H0.get b /\ ¬ W0 b) (hW0:∀ b,W0 b->b<H.next) (h0:P 0 W0 H)
 (loc:∀ i W H H',P i W H->(∀ b,W b->H'.get b=H.get b)->H.next<=H'.next->P i W H') (locS:∀ e W H H',PS e W H->(∀ b,W b->H'.get b=H.get b)->H.next<=H'.next->PS e W H')
 (hbody:∀ (L i:Nat) (lr lb:bm) x,xs[i]? = some x->H.next<=L -> ∀ W' H1,P i W' H1->(∀ b,W' b->b<H1.next/\(W0 b\/H.next<=b))->Fr (λ b=>W0 b\/O b) H H1 -> ¬ W' L->L<H1.next->H1.get L=some lr ->
  ∃ E1,rj ts x E=some E1/\W AP ⟨some L,f⟩ pa true (Mu AP ⟨some L,f⟩ pb L lr lb (IE (P (i+1)) PS L lb W' H1)) E1 [] H1)
 (hend:∀ d W' H',H.next<=d->d<H'.next->H'.get d=some (.deferred (some []))->Fr (λ b=>W0 b\/O b) H H'->(∀ b,W' b->b<H'.next/\(W0 b\/H.next<=b)/\b ≠ d)->P xs.length W' H'->Q .normal E (.fT d::D) H')
 (hstop:∀ e d W' H',d8 e->H.next<=d->d<H'.next->H'.get d=some (.deferred (some []))->Fr (λ b=>W0 b\/O b) H H'->(∀ b,W' b->b<H'.next/\(W0 b\/H.next<=b)/\b ≠ d)->PS e W' H'->Q e E (.fT d::D) H') :
 gN AP ks ⟨none,f⟩ k E D H Q (.fn (.func g) pre cap):=by
 intro tm up he;refine q69 hf hk iX P PS W0 hn hN hW0 h0 loc locS ?_ (λ d W' H' h1 h2 h3 h4 h5 h6=>⟨rfl,rfl,hend d W' H' h1 h2 h3 h4 h5 h6⟩) (λ e d W' H' h0 h1 h2 h3 h4 h5 h6=>⟨rfl,rfl,hstop e d W' H' h0 h1 h2 h3 h4 h5 h6⟩);intro L d i x hx hL W' H1 hP hW hfr hnL hLn hgL;obtain ⟨E1,hE1,hw⟩:=hbody L i (.loop .ready none f k tm d) (.loop .busy none f k tm d) x hx hL W' H1 hP hW hfr hnL hLn hgL;obtain ⟨tm1,hb1,he1⟩:=OP he hts hE1;refine ⟨tm1,by rw [hp];exact hb1,?_⟩;rw [lh] at hw;have:=W3.wp _ _ (qf _) (up:=none) hw (by rw [ha.1];exact he1);rw [ha.2] at this;refine nI this λ e bS ⟨hup,E',hE',hq⟩=>?_;cases e with
 | normal =>
  obtain ⟨hg,hw2⟩:=hq;refine ⟨rfl,hg,?_⟩;rw [lh] at hw2;have:=W3.wp _ _ (qf _) (up:=none) hw2 (show dP pb.1.ah E' bS.tm by rw [hb.1,<-ha.1];exact hE');rw [hb.2] at this;rw [hup];refine nI this λ e2 st2 ⟨hup2,E2,hE2,hd,hg2,W2,k1,k2,k3⟩=>⟨hd,hg2,W2,k1,k2,k3⟩
 | _=>exact hq.elim
theorem zX (rs:List cu) (Q:bg->AHeap->Prop) (E:Env) (d:Nat) (H:AHeap):c6 AP rs Q .ret E [.fT d] H=(H.get d=some (.deferred (some []))/\dF E (H.set d (.deferred none)) rs λ l=>Q (.ret (dq l)) (H.set d (.deferred none))):=propext ji
end
end Go.Am
namespace Go.Am
def tR (AP:aA) (g:Nat) (pre cap:List AV) (N O:Nat->Prop) (I:AHeap->Prop) (H0:AHeap) (xs:List (List AV)):Prop :=
 ∀ (L:Nat) (R:Nat->(Nat->Prop)->AHeap->Prop) (S:(Nat->Prop)->AHeap->Prop) (W0:Nat->Prop) (H:AHeap),
  H0.next<=H.next->(∀ b,N b\/O b->b<H0.next/\H.get b=H0.get b /\ ¬ W0 b)->R 0 W0 H->(∀ b,W0 b->b<H.next) ->
  (∀ i W H H',R i W H->(∀ b,W b->H'.get b=H.get b)->H.next<=H'.next->R i W H')->(∀ W H H',S W H->(∀ b,W b->H'.get b=H.get b)->H.next<=H'.next->S W H') ->
  (∀ i W H',R i W H'->I H') ->
  (∀ (i:Nat) x,xs[i]? = some x -> ∀ W H',R i W H'->(∀ b,W b->b<H'.next/\(W0 b\/H.next<=b))->Fr (λ b=>W0 b\/O b) H H' ->
   ∃ bb H'' W',nN AP L x H' (.ret (.bool bb)) H''/\Fr W H' H''/\(∀ b,W' b->b<H''.next/\(W b\/H'.next<=b))/\(bb=true->R (i+1) W' H'')/\(bb=false->S W' H'')) ->
  ∃ v H' W',kB AP g (pre++(.fn (.yield L) [] []::cap)) H (.ret v) H'/\Fr (λ b=>W0 b\/O b) H H'/\(∀ b,W' b->b<H'.next/\(W0 b\/H.next<=b))/\(R xs.length W' H'\/S W' H')
section
variable {AP:aA}
theorem q68 {f:Nat} {fn:cm} {k:Nat} {lp:db} (hf:AP.func f=some fn) (hk:nth fn.loops k=some lp) {tm:T AV} {aM:List aD} {up:Option aw} {H:AHeap} {Q:bP}
 {g:Nat} {pre cap:List AV} {N O:Nat->Prop} {I:AHeap->Prop} {H0:AHeap} {xs:List (List AV)} (iX:tR AP g pre cap N O I H0 xs)
 (P:Nat->(Nat->Prop)->AHeap->Prop) (PS:aC->(Nat->Prop)->AHeap->Prop) (W0:Nat->Prop)
 (hn:H0.next<=H.next) (hN:∀ b,N b\/O b->b<H0.next/\H.get b=H0.get b /\ ¬ W0 b) (hW0:∀ b,W0 b->b<H.next) (h0:P 0 W0 H)
 (loc:∀ i W H H',P i W H->(∀ b,W b->H'.get b=H.get b)->H.next<=H'.next->P i W H') (locS:∀ e W H H',PS e W H->(∀ b,W b->H'.get b=H.get b)->H.next<=H'.next->PS e W H') (hI:∀ i W H,P i W H->I H)
 (hbody:∀ (L d i:Nat) x,xs[i]? = some x->H.next<=L -> ∀ W H1,P i W H1->(∀ b,W b->b<H1.next/\(W0 b\/H.next<=b))->Fr (λ b=>W0 b\/O b) H H1 -> ¬ W L->L<H1.next->H1.get L=some (.loop .ready none f k tm d) ->
  ∃ tm1,Dy tm lp.params x=some tm1/\WP AP ⟨some L,f⟩ lp.assign ⟨tm1,[],none,H1⟩ λ e bS=>e=.normal/\bS.H.get L=some (.loop .ready none f k tm d) /\
   WP AP ⟨some L,f⟩ lp.body ⟨bS.tm,bS.aM,bS.up,bS.H.set L (.loop .busy none f k tm d)⟩ λ e2 st2=>st2.aM=[]/\st2.H.get L=some (.loop .busy none f k tm d) /\
    ∃ W':Nat->Prop,(∀ b,W' b->b<st2.H.next/\(W b\/H1.next<=b))/\Fr (λ b=>W b\/b=L) H1 st2.H/\(e2=.normal/\P (i+1) W' st2.H\/d8 e2/\PS e2 W' st2.H))
 (hend:∀ d W' H',H.next<=d->d<H'.next->H'.get d=some (.deferred (some []))->Fr (λ b=>W0 b\/O b) H H'->(∀ b,W' b->b<H'.next/\(W0 b\/H.next<=b)/\b ≠ d)->P xs.length W' H'->Q .normal ⟨tm,.fT d::aM,up,H'⟩)
 (hstop:∀ e d W' H',d8 e->H.next<=d->d<H'.next->H'.get d=some (.deferred (some []))->Fr (λ b=>W0 b\/O b) H H'->(∀ b,W' b->b<H'.next/\(W0 b\/H.next<=b)/\b ≠ d)->PS e W' H'->Q e ⟨tm,.fT d::aM,up,H'⟩) :
 C7 AP ⟨none,f⟩ k ⟨tm,aM,up,H⟩ Q (.fn (.func g) pre cap):=by
 let d:=H.next
 let L:=H.next+1
 let Hd:=H.alloc (.deferred (some []))
 let HL:=Hd.alloc (.loop .ready none f k tm d)
 have hHL:HL.next=H.next+2:=rfl
 have hgL:HL.get L=some (.loop .ready none f k tm d):=qw Hd _;have hgd:HL.get d=some (.deferred (some [])):=by rw [show HL.get d=Hd.get d from M0 (by show H.next<H.next+1;omega) _];exact qw H _
 have hfr0:Fr Em H HL:=((Fr.refl H).alloc _).alloc _;have hold:∀ b,b<H.next->HL.get b=H.get b:=λ b hb=>hfr0.ah b hb (λ q=>q)
 obtain ⟨v,H',W',hc,hfr,hW',hres⟩:=iX L
  (λ i W H'=>∃ V:Nat->Prop,(∀ b,V b->W b)/\W L /\ ¬ V L /\ ¬ W d/\(∀ b,W b->V b\/b=L)/\P i V H'/\H'.get L=some (.loop .ready none f k tm d)/\L<H'.next)
  (λ W H'=>∃ (V:Nat->Prop) (e:aC) (j:eI),(∀ b,V b->W b)/\W L /\ ¬ V L /\ ¬ W d/\(∀ b,W b->V b\/b=L)/\d8 e/\gV e=some j/\PS e V H'/\H'.get L=some (.loop .done (some j) f k tm d)/\L<H'.next)
  (λ b=>W0 b\/b=L) HL (by rw [hHL];omega)
  (λ b hb=>by
   obtain ⟨h1,h2,h3⟩:=hN b hb;exact ⟨h1,by rw [hold b (by omega)];exact h2,λ q=>q.elim h3 λ q=>by have:L=H.next+1:=rfl;omega⟩)
  ⟨W0,λ b hb=>.inl hb,.inr rfl,λ q=>by have:=hW0 _ q;have:L=H.next+1:=rfl;omega,λ q=>q.elim (λ q=>by have:=hW0 _ q;have:d=H.next:=rfl;omega) λ q=>by have:d=H.next:=rfl;have:L=H.next+1:=rfl;omega,
   λ b hb=>hb,loc 0 W0 H HL h0 (λ b hb=>hold b (hW0 b hb)) (by rw [hHL];omega),hgL,by rw [hHL];show H.next+1<H.next+2;omega⟩
  (λ b hb=>hb.elim (λ q=>by have:=hW0 b q;rw [hHL];omega) λ q=>by rw [hHL,q];show H.next+1<H.next+2;omega)
  (λ i W H1 H2 ⟨V,v1,v2,v3,v4,v5,v6,v7,v8⟩ hs hle=>⟨V,v1,v2,v3,v4,v5,loc i V H1 H2 v6 (λ b hb=>hs b (v1 b hb)) hle,by rw [hs L v2];exact v7,qk v8 hle⟩)
  (λ W H1 H2 ⟨V,e,j,v1,v2,v3,v4,v5,v6,v7,v8,v9,v10⟩ hs hle=>⟨V,e,j,v1,v2,v3,v4,v5,v6,v7,locS e V H1 H2 v8 (λ b hb=>hs b (v1 b hb)) hle,by rw [hs L v2];exact v9,qk v10 hle⟩)
  (λ i W H1 ⟨V,v1,v2,v3,v4,v5,v6,v7,v8⟩=>hI i V H1 v6)
  (λ i x hx W H1 ⟨V,v1,v2,v3,v4,v5,v6,v7,v8⟩ hb hfrS=>by
   have hLn0:L=H.next+1:=rfl
   have hfr1:Fr (λ b=>W0 b\/O b) H H1:=⟨xj (by rw [hHL];omega) hfrS.next,λ b hb hw=>by rw [hfrS.ah b (by rw [hHL];omega) (λ q=>q.elim (λ q=>q.elim (λ q=>hw (.inl q)) λ q=>by omega) λ q=>hw (.inr q)),hold b hb]⟩
   have hbV:∀ b,V b->b<H1.next/\(W0 b\/H.next<=b):=λ b q=>⟨(hb b (v1 b q)).1,(hb b (v1 b q)).2.elim (λ r=>r.elim .inl λ r=>by subst r;exact (v3 q).elim) λ r=>.inr (by rw [hHL] at r;omega)⟩
   obtain ⟨tm1,hbp,hw⟩:=hbody L d i x hx (by show H.next<=H.next+1;omega) V H1 v6 hbV hfr1 v3 v8 v7;obtain ⟨e,H2,hr,bb,rfl,W2,k1,k2,k3,k4⟩:=qts (Q:=λ e H2=>∃ bb,e=.ret (.bool bb) /\ ∃ W2:Nat->Prop,Fr W H1 H2/\(∀ b,W2 b->b<H2.next/\(W b\/H1.next<=b)) /\
    (bb=true -> ∃ V:Nat->Prop,(∀ b,V b->W2 b)/\W2 L /\ ¬ V L /\ ¬ W2 d/\(∀ b,W2 b->V b\/b=L)/\P (i+1) V H2/\H2.get L=some (.loop .ready none f k tm d)/\L<H2.next) /\
    (bb=false -> ∃ (V:Nat->Prop) (e:aC) (j:eI),(∀ b,V b->W2 b)/\W2 L /\ ¬ V L /\ ¬ W2 d/\(∀ b,W2 b->V b\/b=L)/\d8 e/\gV e=some j/\PS e V H2/\H2.get L=some (.loop .done (some j) f k tm d)/\L<H2.next)) v7 hf hk hbp
    (nI hw λ e bS ⟨he,hgl,hw2⟩=>by
     subst he;show bn av (beginRound bS.H L) _;have:beginRound bS.H L=some (bS.H.set L (.loop .busy none f k tm d)):=by unfold beginRound;rw [hgl]
     rw [this];refine nI hw2 λ e2 st2 ⟨hd2,hg2,W',w1,w2,w3⟩=>⟨hd2,?_⟩
     have hLn:L<st2.H.next:=qk v8 w2.next
     have hd1:d<H1.next:=by have:d=H.next:=rfl;have:L=H.next+1:=rfl;omega
     have fin:∀ s p,Fr W H1 (st2.H.set L (.loop s p f k tm d)):=λ s p=>⟨w2.next,λ b hb hw=>by
      rw [AHeap.aE,qg (by rintro rfl;exact hw v2)];exact w2.ah b hb λ q=>q.elim (λ q=>hw (v1 b q)) λ q=>hw (by rw [q];exact v2)⟩
     have hW'L:∀ b,(W' b/\b ≠ L)->(st2.H.set L (.loop .ready none f k tm d)).get b=st2.H.get b:=λ b hb=>by rw [AHeap.aE,qg (λ q=>hb.2 q.symm)]
     have hnV:¬ W' L:=λ q=>by
      rcases (w1 L q).2 with q|q
      ·exact v3 q
      ·omega
     have hnd:¬ W' d:=λ q=>by
      rcases (w1 d q).2 with q|q
      ·exact v4 (v1 d q)
      ·omega
     have hdL:d ≠ L:=by show H.next ≠ H.next+1;omega
     have bounds:∀ b,(W' b\/b=L)->b<st2.H.next/\(W b\/H1.next<=b):=λ b hb=>hb.elim (λ q=>⟨(w1 b q).1,(w1 b q).2.imp (v1 b) id⟩) λ q=>by subst q;exact ⟨hLn,.inl v2⟩
     rcases w3 with ⟨rfl,w3⟩|⟨hj,w3⟩
     ·show bn av (bJ st2.H L (cond true .ready .done) none) _;have:bJ st2.H L .ready none=some (st2.H.set L (.loop .ready none f k tm d)):=by unfold bJ;rw [hg2]
      rw [xf,this];refine ⟨true,rfl,λ b=>W' b\/b=L,fin _ _,bounds,λ _=>⟨W',λ b hb=>.inl hb,.inr rfl,hnV,λ q=>q.elim hnd hdL,λ b hb=>hb,loc _ _ _ _ w3 (λ b hb=>by rw [AHeap.aE,qg (by rintro rfl;exact hnV hb)]) (qf _),xb _ _ _,hLn⟩,λ h=>by cases h⟩
     ·obtain ⟨j,hj2⟩:∃ j,gV e2=some j:=by cases e2<;>first|exact hj.elim|exact ⟨_,rfl⟩
      have hnn:so e2=false:=by cases e2<;>first|exact hj.elim|rfl
      have hmatch:∀ (A:Prop),(bn av (bJ st2.H L (cond (so e2) .ready .done) (gV e2)) λ H=>∃ bb,(bg.ret (.bool (so e2))=.ret (.bool bb)) /\ ∃ W2:Nat->Prop,Fr W H1 H/\(∀ b,W2 b->b<H.next/\(W b\/H1.next<=b)) /\
       (bb=true -> ∃ V:Nat->Prop,(∀ b,V b->W2 b)/\W2 L /\ ¬ V L /\ ¬ W2 d/\(∀ b,W2 b->V b\/b=L)/\P (i+1) V H/\H.get L=some (.loop .ready none f k tm d)/\L<H.next) /\
       (bb=false -> ∃ (V:Nat->Prop) (e:aC) (j:eI),(∀ b,V b->W2 b)/\W2 L /\ ¬ V L /\ ¬ W2 d/\(∀ b,W2 b->V b\/b=L)/\d8 e/\gV e=some j/\PS e V H/\H.get L=some (.loop .done (some j) f k tm d)/\L<H.next)):=λ _=>by
       have:bJ st2.H L .done (some j)=some (st2.H.set L (.loop .done (some j) f k tm d)):=by unfold bJ;rw [hg2]
       rw [hnn,hj2,za,this];refine ⟨false,rfl,λ b=>W' b\/b=L,fin _ _,bounds,λ h=>(by cases h),λ _=>⟨W',e2,j,λ b hb=>.inl hb,.inr rfl,hnV,λ q=>q.elim hnd hdL,λ b hb=>hb,hj,hj2,locS _ _ _ _ w3 (λ b hb=>by rw [AHeap.aE,qg (by rintro rfl;exact hnV hb)]) (qf _),xb _ _ _,hLn⟩⟩
      cases e2 with
      | normal=>exact hj.elim
      | panic _=>exact hj.elim
      | exit _=>exact hmatch True
      | goto _=>exact hmatch True
      | ret=>exact hmatch True)
   exact ⟨bb,H2,W2,hr,k1,k2,k3,k4⟩)
 have hdL:d ≠ L:=by show H.next ≠ H.next+1;omega
 have hdW:¬ ((W0 d\/d=L)\/O d):=λ q=>q.elim (λ q=>q.elim (λ q=>by have:=hW0 _ q;have:d=H.next:=rfl;omega) hdL) λ q=>by have:=(hN d (.inr q)).1;have:d=H.next:=rfl;omega
 have hgd':H'.get d=some (.deferred (some [])):=by rw [hfr.ah d (by rw [hHL];show H.next<H.next+2;omega) hdW];exact hgd
 have hd':d<H'.next:=qk (by rw [hHL];show H.next<H.next+2;omega) hfr.next
 have hout:∀ (o:bm),Fr (λ b=>W0 b\/O b) H (H'.set L o):=λ o=>⟨xj (by rw [hHL];omega) hfr.next,λ b hb hw=>by
  have:L=H.next+1:=rfl
  rw [AHeap.aE,qg (by omega),hfr.ah b (by rw [hHL];omega) (λ q=>q.elim (λ q=>q.elim (λ q=>hw (.inl q)) λ q=>by omega) λ q=>hw (.inr q)),hold b hb]⟩
 refine ⟨.ret v,H',hc,?_⟩;rcases hres with ⟨V,v1,v2,v3,v4,v5,v6,v7,v8⟩|⟨V,e,j,v1,v2,v3,v4,v5,v6,v7,v8,v9,v10⟩
 ·refine ⟨.ready,none,f,k,tm,d,v7,by simp,?_⟩;refine hend d V _ (qf _) hd' (by rw [AHeap.aE,qg (λ q=>hdL q.symm)];exact hgd') (hout _) (λ b hb=>⟨(hW' b (v1 b hb)).1,?_,λ q=>v4 (by rw [<-q];exact v1 b hb)⟩) (loc _ _ _ _ v6 (λ b hb=>by rw [AHeap.aE,qg (by rintro rfl;exact v3 hb)]) (qf _));rcases (hW' b (v1 b hb)).2 with q|q
  ·exact q.imp id λ q=>by subst q;exact (v3 hb).elim
  ·rw [hHL] at q;exact .inr (by omega)
 ·refine ⟨.done,some j,f,k,tm,d,v9,by simp,?_⟩;have he:mn (some j)=e:=by cases e<;>first|exact v6.elim|(injection v7 with v7;subst v7;rfl)
  rw [he];refine hstop e d V _ v6 (qf _) hd' (by rw [AHeap.aE,qg (λ q=>hdL q.symm)];exact hgd') (hout _) (λ b hb=>⟨(hW' b (v1 b hb)).1,?_,λ q=>v4 (by rw [<-q];exact v1 b hb)⟩) (locS _ _ _ _ v8 (λ b hb=>by rw [AHeap.aE,qg (by rintro rfl;exact v3 hb)]) (qf _));rcases (hW' b (v1 b hb)).2 with q|q
  ·exact q.imp id λ q=>by subst q;exact (v3 hb).elim
  ·rw [hHL] at q;exact .inr (by omega)
theorem gN.ui {f:Nat} {fn:cm} {k:Nat} {lp:db} (hf:AP.func f=some fn) (hk:nth fn.loops k=some lp) {ks:List Nat} {ts:List Nat} (hp:lp.params=ts) (hts:∀ t ∈ ts,aV t ks=true) {pa pb:Kp × aj} (ha:pa.1.ah=ks/\pa.2=lp.assign) (hb:pb.1.ah=ks/\pb.2=lp.body)
 {E:Env} {D:List aD} {H:AHeap} {Q:au} {g:Nat} {pre cap:List AV} {N O:Nat->Prop} {I:AHeap->Prop} {H0:AHeap} {xs:List (List AV)} (iX:tR AP g pre cap N O I H0 xs)
 (P:Nat->(Nat->Prop)->AHeap->Prop) (PS:aC->(Nat->Prop)->AHeap->Prop) (W0:Nat->Prop)
 (hn:H0.next<=H.next) (hN:∀ b,N b\/O b->b<H0.next/\H.get b=H0.get b /\ ¬ W0 b) (hW0:∀ b,W0 b->b<H.next) (h0:P 0 W0 H)
 (loc:∀ i W H H',P i W H->(∀ b,W b->H'.get b=H.get b)->H.next<=H'.next->P i W H') (locS:∀ e W H H',PS e W H->(∀ b,W b->H'.get b=H.get b)->H.next<=H'.next->PS e W H') (hI:∀ i W H,P i W H->I H)
 (hbody:∀ (L i:Nat) (lr lb:bm) x,xs[i]? = some x->H.next<=L -> ∀ W' H1,P i W' H1->(∀ b,W' b->b<H1.next/\(W0 b\/H.next<=b))->Fr (λ b=>W0 b\/O b) H H1 -> ¬ W' L->L<H1.next->H1.get L=some lr ->
  ∃ E1,rj ts x E=some E1/\W AP ⟨some L,f⟩ pa true (Mu AP ⟨some L,f⟩ pb L lr lb (IE (P (i+1)) PS L lb W' H1)) E1 [] H1)
 (hend:∀ d W' H',H.next<=d->d<H'.next->H'.get d=some (.deferred (some []))->Fr (λ b=>W0 b\/O b) H H'->(∀ b,W' b->b<H'.next/\(W0 b\/H.next<=b)/\b ≠ d)->P xs.length W' H'->Q .normal E (.fT d::D) H')
 (hstop:∀ e d W' H',d8 e->H.next<=d->d<H'.next->H'.get d=some (.deferred (some []))->Fr (λ b=>W0 b\/O b) H H'->(∀ b,W' b->b<H'.next/\(W0 b\/H.next<=b)/\b ≠ d)->PS e W' H'->Q e E (.fT d::D) H') :
 gN AP ks ⟨none,f⟩ k E D H Q (.fn (.func g) pre cap):=by
 intro tm up he;refine q68 hf hk iX P PS W0 hn hN hW0 h0 loc locS hI ?_ (λ d W' H' h1 h2 h3 h4 h5 h6=>⟨rfl,rfl,hend d W' H' h1 h2 h3 h4 h5 h6⟩) (λ e d W' H' h0 h1 h2 h3 h4 h5 h6=>⟨rfl,rfl,hstop e d W' H' h0 h1 h2 h3 h4 h5 h6⟩);intro L d i x hx hL W' H1 hP hW hfr hnL hLn hgL;obtain ⟨E1,hE1,hw⟩:=hbody L i (.loop .ready none f k tm d) (.loop .busy none f k tm d) x hx hL W' H1 hP hW hfr hnL hLn hgL;obtain ⟨tm1,hb1,he1⟩:=OP he hts hE1;refine ⟨tm1,by rw [hp];exact hb1,?_⟩;rw [lh] at hw;have:=W3.wp _ _ (qf _) (up:=none) hw (by rw [ha.1];exact he1);rw [ha.2] at this;refine nI this λ e bS ⟨hup,E',hE',hq⟩=>?_;cases e with
 | normal =>
  obtain ⟨hg,hw2⟩:=hq;refine ⟨rfl,hg,?_⟩;rw [lh] at hw2;have:=W3.wp _ _ (qf _) (up:=none) hw2 (show dP pb.1.ah E' bS.tm by rw [hb.1,<-ha.1];exact hE');rw [hb.2] at this;rw [hup];refine nI this λ e2 st2 ⟨hup2,E2,hE2,hd,hg2,W2,k1,k2,k3⟩=>⟨hd,hg2,W2,k1,k2,k3⟩
 | _=>exact hq.elim
end
end Go.Am
namespace Go.Am
theorem qys {α:Type} {L E:List α} {p size:Nat} (hE:E.length=size) (hp:p+size<=L.length) (h:∀ r,r<size->L[p+r]? = E[r]?):L=L.take p++(E++L.drop (p+size)):=by
 have h1:(L.drop p).take size=E:=by
  refine jp λ r=>?_;rcases zt r size with q|q
  ·rw [kc,ql q,kq,h r q]
  ·rw [xz (by rw [ja];omega),xz (by omega)]
 have h2:L.drop p=E++L.drop (p+size):=by
  rw [<-h1,<-CZ,kr]
 rw [<-h2,kr]
theorem tE {α:Type} {L E cs:List α} {p size j n:Nat} (hE:E.length=size) (hc:cs.length=n) (hj:j+n<=size) (hp:p+size<=L.length) (h:∀ r,r<size->L[p+r]? = E[r]?) :
 L.take (p+j)++cs++L.drop (p+j+n)=L.take p++((E.take j++cs++E.drop (j+n))++L.drop (p+size)):=by
 obtain ⟨A,hA⟩:∃ A,A=L.take p:=⟨_,rfl⟩
 obtain ⟨B,hB⟩:∃ B,B=L.drop (p+size):=⟨_,rfl⟩
 have hl:A.length=p:=by rw [hA,ja];omega
 have hL:=qys hE hp h;rw [<-hA,<-hB] at hL;rw [<-hA,<-hB];have e1:L.take (p+j)=A++E.take j:=by
  rw [hL,Gk,hl,zj (by omega),kt,jv (by omega)]
 have e2:L.drop (p+j+n)=E.drop (j+n)++B:=by
  rw [hL,yp,hl,jh (by omega),zn,show p+j+n-p=j+n by omega,kn (by omega)]
 rw [e1,e2];simp
section
variable {α:Type} {enc:α->List AV} {size:Nat} {H:AHeap} {v:AV} {xs:List α}
theorem qyc (hs:∀ x,(enc x).length=size) {i:Nat} {x y:α} (hx:xs[i]? = some x) {j n:Nat} {cs:List AV} (hc:cs.length=n) (hj:j+n<=size) (hy:enc y=(enc x).take j++cs++(enc x).drop (j+n)) :
 (xs.flatMap enc).take (i*size+j)++cs++(xs.flatMap enc).drop (i*size+j+n)=(xs.set i y).flatMap enc:=by
 have hi:=Bz hx;have hb:(i+1)*size<=xs.length*size:=jl _ hi;rw [yz] at hb;have hl:=zV hs xs;rw [tE (E:=enc x) (size:=size) (hs x) hc hj (by omega) (λ r hr=>Fc hs xs hx hr),<-hy,Nr hs xs hx];simp [zf,yz]
theorem dR.r9 {e:Nat} (hs:∀ x,(enc x).length=size) (h:dR enc e size H v xs) {i:Nat} {x y:α} (hx:xs[i]? = some x) {j n:Nat} {u:AV} (hu:u.cells.length=n) (ho:aO u.cells=true) (hj:j+n<=size) (hy:enc y=(enc x).take j++u.cells++(enc x).drop (j+n)) :
 ∃ H',Op.store n [.ptr (aF v) (bI size v i+j),u] H=some (.undef,H')/\dR enc e size H' v (xs.set i y)/\Fr (On (aF v)) H H':=by
 obtain ⟨b,rfl,h1,h2⟩:=h;have hi:=Bz hx;have hl:=zV hs xs;have hb:(i+1)*size<=xs.length*size:=jl _ hi;rw [yz] at hb;have hst:=oS h2 (o:=i*size+j) (n:=n) (v:=u) hu (by omega) ho;have hso:bI size (AV.slice b 0 xs.length xs.length) i=i*size:=by simp [bI]
 rw [hso];refine ⟨_,hst,⟨b,?_,h1,?_⟩,(Fr.refl H).set (W:=On b) (.inl rfl) _⟩
 ·rw [qv]
 ·rw [xb,qyc hs hx hu hj hy]
theorem cq.r9 {e:Nat} (hs:∀ x,(enc x).length=size) (h:cq enc e size H v xs) {i:Nat} {x y:α} (hx:xs[i]? = some x) {j n:Nat} {u:AV} (hu:u.cells.length=n) (ho:aO u.cells=true) (hj:j+n<=size) (hy:enc y=(enc x).take j++u.cells++(enc x).drop (j+n)) :
 ∃ H',Op.store n [.ptr (aF v) (bI size v i+j),u] H=some (.undef,H')/\cq enc e size H' v (xs.set i y)/\Fr (aI v) H H':=by
 obtain ⟨hl,h|⟨b,rfl,h1,h2⟩⟩:=h
 ·rw [jm.1 h.1] at hx;simp at hx
 ·have hi:=Bz hx;have hb:(i+1)*size<=xs.length*size:=jl _ hi;rw [yz] at hb;have hst:=qtv h2 (o:=i*size+j) (n:=n) (v:=u) hu (by omega) ho;have hso:bI size (AV.gslice b 0 xs.length size 0 xs.length) i=i*size:=by simp [bI]
  rw [hso];refine ⟨_,hst,⟨?_,.inr ⟨b,?_,h1,?_⟩⟩,(Fr.refl H).set (.inl ⟨by simp,rfl⟩) _⟩
  ·rw [zV hs]
  ·rw [qv]
  ·rw [qv,xb,qyc hs hx hu hj hy]
theorem cq.wW {e:Nat} (hs:∀ x,(enc x).length=size) (ho:∀ x,aO (enc x)=true) (h:cq enc e size H v xs) {i:Nat} {x:α} (hx:xs[i]? = some x) (y:α) :
 ∃ H',Op.store size [.ptr (aF v) (bI size v i),.agg (enc y)] H=some (.undef,H')/\cq enc e size H' v (xs.set i y)/\Fr (aI v) H H':=by
 have:=h.r9 hs hx (y:=y) (j:=0) (n:=size) (u:=.agg (enc y)) (by rw [xk];exact hs y) (by rw [xk];exact ho y) (by omega) (by
  rw [xk,BW,zn,jh (by rw [hs];omega),xt])
 rw [qh] at this;exact this
theorem dR.wW {e:Nat} (hs:∀ x,(enc x).length=size) (ho:∀ x,aO (enc x)=true) (h:dR enc e size H v xs) {i:Nat} {x:α} (hx:xs[i]? = some x) (y:α) :
 ∃ H',Op.store size [.ptr (aF v) (bI size v i),.agg (enc y)] H=some (.undef,H')/\dR enc e size H' v (xs.set i y)/\Fr (On (aF v)) H H':=by
 have:=h.r9 hs hx (y:=y) (j:=0) (n:=size) (u:=.agg (enc y)) (by rw [xk];exact hs y) (by rw [xk];exact ho y) (by omega) (by
  rw [xk,BW,zn,jh (by rw [hs];omega),xt])
 rw [qh] at this;exact this
end
end Go.Am
namespace Go.Am
inductive RP {α:Type} (a b:Nat) (xs:List α):List α->Prop where
 | refl:RP a b xs xs
 | sw {ys:List α} {i j:Nat} {x y:α} (h:RP a b xs ys) (i1:a<=i) (i2:i<b) (j1:a<=j) (j2:j<b) (hx:ys[i]? = some x) (hy:ys[j]? = some y):RP a b xs ((ys.set i y).set j x)
section
variable {α:Type} {a b:Nat} {xs ys zs:List α}
theorem RP.len (h:RP a b xs ys):ys.length=xs.length:=by
 induction h with
 | refl=>rfl
 | sw h _ _ _ _ _ _ ih=>rw [qv,qv,ih]
theorem RP.out (h:RP a b xs ys) {k:Nat} (hk:k<a\/b<=k):ys[k]? = xs[k]?:=by
 induction h with
 | refl=>rfl
 | sw h i1 i2 j1 j2 _ _ ih=>rw [qm (by omega),qm (by omega),ih]
theorem RP.trans (h:RP a b xs ys) (h':RP a b ys zs):RP a b xs zs:=by
 induction h' with
 | refl=>exact h
 | sw _ i1 i2 j1 j2 hx hy ih=>exact ih.sw i1 i2 j1 j2 hx hy
theorem RP.mono {a' b':Nat} (h:RP a b xs ys) (ha:a'<=a) (hb:b<=b'):RP a' b' xs ys:=by
 induction h with
 | refl=>exact .refl
 | sw _ i1 i2 j1 j2 hx hy ih=>exact ih.sw (by omega) (by omega) (by omega) (by omega) hx hy
theorem Bx:∀ {ys:List α} {i j:Nat} {x y:α},ys[i]? = some x->ys[j]? = some y->((ys.set i y).set j x).Perm ys:=by
 intro ys i j x y hx hy;have hi:=(qe.1 hx).1;have hj:=(qe.1 hy).1;have ex:=(qe.1 hx).2;have ey:=(qe.1 hy).2;have h1:∀ {l:List α} {p q:Nat} {u v:α},p<q->l[p]? = some u->l[q]? = some v->((l.set p v).set q u).Perm l:=by
  intro l
  induction l with
  | nil=>intro p q u v _ h _;simp at h
  | cons z l ih =>
   intro p q u v hpq hu hv;cases q with
   | zero=>omega
   | succ q =>
    cases p with
    | zero =>
     simp at hu hv;subst hu;obtain ⟨hq,e⟩:=qe.1 hv;show (v::l.set q z).Perm (z::l);have e1:l=l.take q++v::l.drop (q+1):=by rw [<-e];simp
     have e2:l.set q z=l.take q++z::l.drop (q+1):=by rw [vx,ql hq]
     rw [e2]
     conv=>rhs;rw [e1]
     have p1:(v::(l.take q++z::l.drop (q+1))).Perm (v::z::(l.take q++l.drop (q+1))):=.cons _ List.perm_middle;have p2:(z::(l.take q++v::l.drop (q+1))).Perm (z::v::(l.take q++l.drop (q+1))):=.cons _ List.perm_middle;exact p1.trans ((List.Perm.swap z v _).trans p2.symm)
    | succ p =>
     simp at hu hv;show (z::(l.set p v).set q u).Perm (z::l);exact .cons _ (ih (by omega) hu hv)
 rcases Nat.lt_trichotomy i j with q|q|q
 ·exact h1 q hx hy
 ·subst q;rw [hx] at hy;injection hy with hy;subst hy
  rw [List.set_set];have:ys.set i x=ys:=by rw [<-ex];simp
  rw [this]
 ·rw [List.set_comm _ _ (by omega)];exact h1 q hy hx
theorem RP.perm (h:RP a b xs ys):ys.Perm xs:=by
 induction h with
 | refl=>exact .refl _
 | sw _ _ _ _ _ hx hy ih=>exact (Bx hx hy).trans ih
theorem RP.all (h:RP a b xs ys) {P:α->Prop} (hp:∀ k x,a<=k->k<b->xs[k]? = some x->P x):∀ k x,a<=k->k<b->ys[k]? = some x->P x:=by
 induction h with
 | refl=>exact hp
 | sw h i1 i2 j1 j2 hx hy ih =>
  rename_i ys i j x y;intro k z k1 k2 hz;have hi:=(qe.1 hx).1;have hj:=(qe.1 hy).1
  by_cases q:j=k
  ·subst q;rw [qu (by rw [qv];exact hj)] at hz;injection hz with hz;subst hz;exact ih i _ i1 i2 hx
  ·rw [qm q] at hz
   by_cases q':i=k
   ·subst q';rw [qu hi] at hz;injection hz with hz;subst hz;exact ih j _ j1 j2 hy
   ·rw [qm q'] at hz;exact ih k z k1 k2 hz
end
def Ord {α:Type} (f:α->Int) (a b:Nat) (xs:List α):Prop:=∀ i j x y,a<=i->i<j->j<b->xs[i]? = some x->xs[j]? = some y->f x<=f y
def lX {α:Type} (f:α->Int) (a0 b0 a b:Nat) (xs:List α):Prop:=∀ i j x y,a0<=i->i<j->j<b0->(i<a\/b<=j)->xs[i]? = some x->xs[j]? = some y->f x<=f y
section
variable {α:Type} {f:α->Int} {a0 b0 a b:Nat} {xs ys:List α}
theorem lX.start:lX f a0 b0 a0 b0 xs:=λ i j x y h1 h2 h3 h4=>by omega
theorem lX.done (h:lX f a0 b0 a b xs) (ho:Ord f a b xs):Ord f a0 b0 xs:=λ i j x y h1 h2 h3 hx hy=>by
 by_cases q:i<a\/b<=j
 ·exact h i j x y h1 h2 h3 q hx hy
 ·exact ho i j x y (by omega) h2 (by omega) hx hy
theorem lX.rp (h:lX f a0 b0 a b xs) (ha:a0<=a) (hb:b<=b0) (hr:RP a b xs ys):lX f a0 b0 a b ys:=by
 intro i j x y h1 h2 h3 h4 hx hy;rcases h4 with q|q
 ·have hx':xs[i]? = some x:=by rw [<-hr.out (.inl q)];exact hx
  by_cases q2:a<=j/\j<b
  ·exact hr.all (P:=λ y=>f x<=f y) (λ k z k1 k2 hz=>h i k x z h1 (by omega) (by omega) (.inl q) hx' hz) j y q2.1 q2.2 hy
  ·exact h i j x y h1 h2 h3 (.inl q) hx' (by rw [<-hr.out (by omega)];exact hy)
 ·have hy':xs[j]? = some y:=by rw [<-hr.out (.inr q)];exact hy
  by_cases q2:a<=i/\i<b
  ·exact hr.all (P:=λ x=>f x<=f y) (λ k z k1 k2 hz=>h k j z y (by omega) (by omega) h3 (.inr q) hz hy') i x q2.1 q2.2 hx
  ·exact h i j x y h1 h2 h3 (.inr q) (by rw [<-hr.out (by omega)];exact hx) hy'
end
end Go.Am
