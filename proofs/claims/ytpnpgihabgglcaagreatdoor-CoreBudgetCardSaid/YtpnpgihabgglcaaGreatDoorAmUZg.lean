import Derived.Test.YtpnpgihabgglcaaGreatDoorAmUZd
import Derived.Test.YtpnpgihabgglcaaGreatDoorAmUZf
import Derived.Test.YtpnpgihabgglcaaGreatDoorAmUZe
set_option linter.defProp false
set_option linter.unusedVariables false
set_option linter.unusedSimpArgs false
set_option linter.unusedSectionVars false
set_option maxRecDepth 100000
open Nat renaming reduceEqDiff→bc
namespace Go.Am
def gP(x:Nat):List AV:=[.int .i64 (x:Int)]
def Dn(x:Nat):(gP x).length=1:=rfl
def Lr(l:List Nat):l.flatMap gP=l.map λ(x:Nat)=>AV.int .i64 (x:Int):=by
 induction l with
 |nil=>rfl
 |cons a l ih=>rw[ju,ih];rfl
def uh(l:List Nat):(l.flatMap gP).length=l.length:=by rw[Lr,xp]
structure mg(e:Nat)(H0 H:ar)(v:AV)(xs:List Nat):Prop where
 own:(v=.nils/\xs=[]) \/ ∃b m rest,v=.gslice b 0 m 1 0 xs.length/\b<H.au/\H0.au<=b/\m=xs.length+rest.length/\H.get b=some (.grown m 1 (xs.flatMap gP++rest) e (0,0))
 fr:Fr Em H0 H
section
variable{e:Nat}{H0 H:ar}{v:AV}{xs:List Nat}
def mg.nil(e:Nat)(H:ar):mg e H H .nils []:=⟨.inl ⟨rfl,rfl⟩,Fr.refl H⟩
def mg.fresh(h:mg e H0 H v xs):∀b,aW v b->H0.au<=b/\b<H.au:=by
 rintro b ⟨a,rfl⟩;rcases h.own with⟨rfl,_⟩|⟨b,m,rest,rfl,c,d,_⟩
 .exact (a rfl).elim
 .exact ⟨d,c⟩
def mg.sl(h:mg e H0 H v xs):dU gP 1 H v xs:=by
 rcases h.own with⟨rfl,rfl⟩|⟨b,m,rest,rfl,a,d,f,c⟩
 .exact ⟨rfl,rfl⟩
 .refine ⟨by rw[uh,IV],rfl,rfl,by omega,.inr ⟨a,_,UH c,?_⟩⟩;rw[u4,qr (by rw[qv,uh];omega),wh,ym,IV,jw (by rw[uh];exact qg _),zg (by rw[uh];exact qg _)]
def mg.uj{H':ar}{W:Nat->Prop}(h:mg e H0 H v xs)(f:Fr W H H')(c:Fr Em H0 H')(hw:∀b,aW v b -> ¬W b):mg e H0 H' v xs:=by
 refine⟨?_,c⟩;rcases h.own with q|⟨b,m,rest,rfl,a,d,g,i⟩
 .exact .inl q
 .exact .inr ⟨b,m,rest,rfl,qj a f.au,d,g,by rw[f.ah b a (hw b ⟨by simp,rfl⟩)];exact i⟩
def mg.em{H':ar}(h:mg e H0 H v xs)(f:Fr Em H H'):mg e H0 H' v xs:=h.uj f (h.fr.em f) λ _ _ q=>q
def mg.cut(h:mg e H0 H v xs){k:Nat}(hk:k<=xs.length){z:Int}(i:z=k)(kk:IntKind) :
 ∃g,Op.aL 1 [none,some 0,none] [v,.int kk z]=some g/\mg e H0 H g (xs.take k) /\ ∀b,aW g b->aW v b:=by
 rcases h.own with⟨rfl,rfl⟩|⟨b,m,rest,rfl,l,o,q,p⟩
 .have:k=0:=by simpa using hk
  subst this;refine⟨.nils,?_,⟨.inl ⟨rfl,rfl⟩,h.fr⟩,λ b hb=>hb⟩;have c:bound none 0 0=some 0:=rfl;simp[Op.aL,arg,lR,eN,c,wA i (qg 0)]
 .have j:∀n,Nat.beq n n=true:=λ n=>by simp
  have a:∀d m,bound none d m=some d:=λ _ _=>rfl;have f:=y9 (show k<=m-0 by omega);refine⟨.gslice b (0+0) m 1 (cond (Nat.beq 0 0) 0 (0*1)) (k-0),by simp only[Op.aL,arg,lR,jm,qm,eN,a,wA i (show k<=m-0 by omega),j,f,y9 (xy m),jk,xm],⟨.inr ⟨b,m,(xs.drop k).flatMap gP++rest,?_,l,o,?_,?_⟩,h.fr⟩,λ b hb=>⟨by simp,hb.2⟩⟩
  .rw [j6,Nat.min_eq_left hk];rfl
  .rw [j6,qv,uh,kr];omega
  .rw [p,<-zm,<-kq,ve]
def mg.push(h:mg e H0 H v xs){x:Nat}{zero:List AV}{bytes:Nat}(I:zero.length=1)(E:(xs.length+1)*bytes<=140737488355328)(u:xs.length+1<=140737488355328){K:bH->(Nat->AV)->Bool->AV->ar->Prop}{m:Bool}
 (hk:∀A H',mg e H0 H' A (xs ++ [x])->Fr (aW v) H H'->(∀b,aW A b->aW v b\/H.au<=b)->K (.row [.int .i64 (x:Int)] e (0,0) true) (Op.sliceTo 1 1) m A H') :
 iS m (Op.buildSlice e 1 zero [(0,1)] [.int .i64 (x:Int)]) λ g o mk=>iS g (Op.append e 1 bytes [v,mk H.au] (H.alloc o)) (K o mk):=by
 have hb:Op.buildSlice e 1 zero [(0,1)] [.int .i64 (x:Int)]=some (.row [.int .i64 (x:Int)] e (0,0) true,Op.sliceTo 1 1):=XA e 1 zero (.int .i64 (x:Int)) I rfl;rw[hb];have f:Fr Em H (H.alloc (.row [.int .i64 (x:Int)] e (0,0) true)):=(Fr.refl H).alloc _;have k:Sl (H.alloc (.row [.int .i64 (x:Int)] e (0,0) true)) 1 (Op.sliceTo 1 1 H.au) 1 [.int .i64 (x:Int)]:=Bc rfl;have B:∀n,Nat.beq n n=true:=λ n=>by simp
 have ha:aJ [AV.int .i64 (x:Int)]=true:=rfl;have j:Nat.blt 0 1=true:=rfl;have l:Nat.beq 1 0=false:=rfl;have d:=Q9 E u;refine iS.intro rfl ?_;rcases h.own with⟨rfl,rfl⟩|⟨b,i,rest,rfl,J,y,z,L⟩
 .have d:fits 1 bytes=true:=by simpa using d
  refine iS.intro (a:=.gslice (H.au+1) 0 1 1 0 1) (b:=(H.alloc (.row [.int .i64 (x:Int)] e (0,0) true)).alloc (.grown 1 1 [.int .i64 (x:Int)] e (0,0))) ?_ (hk _ _ ⟨.inr ⟨H.au+1,1,[],rfl,?_,?_,rfl,?_⟩,?_⟩ ((f.alloc _).mono λ _ _ q=>q.elim) λ b hb=>.inr ?_)
  .simp only[Op.append,k.eY,k.first,qm,ha,xm,cV,l,zj,d,j,jk,dk,xx]
  .rw [xx,xx];omega
  .have:=h.fr.au;omega
  .exact xf ..
  .exact (h.fr.em f).alloc _
  .rw [hb.2];show H.au<=H.au+1;omega
 .have p:(H.alloc (.row [.int .i64 (x:Int)] e (0,0) true)).get b=some (.grown i 1 (xs.flatMap gP++rest) e (0,0)):=by rw[wo J];exact L
  cases rest with
  |nil =>
   have hm:i=xs.length:=by simpa using z
   subst hm;have s:Nat.ble (0+xs.length+1) xs.length=false:=by cases F:Nat.ble (0+xs.length+1) xs.length with|false=>rfl|true=>rw[ww]at F;omega
   have t:=y9 (show 0+xs.length<=xs.length by omega);have C:=y9 (xy (xs.length*1));refine iS.intro (a:=.gslice (H.au+1) 0 (xs.length+1) 1 0 (xs.length+1)) (b:=((H.alloc (.row [.int .i64 (x:Int)] e (0,0) true)).kill b).alloc (.grown (xs.length+1) 1 (xs.flatMap gP ++ [.int .i64 (x:Int)]) e (0,0))) ?_ (hk _ _ ⟨.inr ⟨H.au+1,xs.length+1,[],?_,?_,?_,?_,?_⟩,?_⟩ ?_ λ b hb=>.inr ?_)
   .simp only[Op.append,k.eY,k.first,qm,ha,xm,cV,zj,B,t,j,jk,s,d,p,C,dk,FK,xx,oJ,ze,Nat.beq]
   .rw [qv];rfl
   .rw [xx,FK,xx];omega
   .have:=h.fr.au;omega
   .rw [qv];rfl
   .rw [ze,kq];have:=xf ((H.alloc (.row [.int .i64 (x:Int)] e (0,0) true)).kill b) (.grown (xs.length+1) 1 (xs.flatMap gP ++ [.int .i64 (x:Int)]) e (0,0));rw[FK,xx]at this;exact this
   .exact ((h.fr.em f).kill (.inr y)).alloc _
   .exact (Fr.kill (W:=aW (AV.gslice b 0 xs.length 1 0 xs.length)) (f.mono λ _ _ q=>q.elim) (.inl ⟨by simp,rfl⟩)).alloc _
   .rw [hb.2];show H.au<=H.au+1;omega
  |cons r rest =>
   have s:=y9 (show 0+xs.length+1<=i by simp at z;omega);have t:=y9 (show 0+xs.length<=i by omega);have w:(H.alloc (.row [.int .i64 (x:Int)] e (0,0) true)).store b ((0+xs.length)*1) [.int .i64 (x:Int)]=some ((H.alloc (.row [.int .i64 (x:Int)] e (0,0) true)).set b (.grown i 1 ((xs ++ [x]).flatMap gP++rest) e (0,0))):=by
    have G:dY (0,0) ((0+xs.length)*1) (cQ [AV.int .i64 (x:Int)])=true:=by simp[dY]
    simp only[ar.store,ha,xm,p,G,Ep];rw[qr (by rw[qv,uh];simp),qm];congr 4;rw[jy,IV,jw (by rw[uh];exact qg _),zg (by rw[uh];exact qg _),kq]
    .rfl
    .rw [jy,IV,show[AV.int .i64 (x:Int)].length=1 from rfl,wv,je (by rw[uh];omega),uh];simp
   refine iS.intro (a:=.gslice b 0 i 1 0 (xs.length+1)) (b:=(H.alloc (.row [.int .i64 (x:Int)] e (0,0) true)).set b (.grown i 1 ((xs ++ [x]).flatMap gP++rest) e (0,0))) ?_ (hk _ _ ⟨.inr ⟨b,i,rest,?_,?_,y,?_,?_⟩,?_⟩ ?_ λ c D=>.inl ⟨by simp,D.2⟩)
   .simp only[Op.append,k.eY,k.first,qm,ha,xm,cV,l,zj,B,t,j,jk,s,w]
   .rw [qv];rfl
   .rw [su,xx];omega
   .rw [qv];simp at z⊢;omega
   .exact xc ..
   .exact (h.fr.em f).set (.inr y) _
   .exact Fr.set (W:=aW (AV.gslice b 0 i 1 0 xs.length)) (f.mono λ _ _ q=>q.elim) (.inl ⟨by simp,rfl⟩) _
end
end Go.Am
namespace Go.Am
def Me{len size b o:Nat}{k:IntKind}{j:Int}{i:Nat}(c:j=i)(a:i<len):Op.aS len size [.ptr b o,.int k j]=some (.ptr b (o+i*size)):=by
 simp only[Op.aS,Jj c a,qm]
def ON{k:IntKind}{a:Nat}{b:Int}(hb:0<b):Op.bin .rem [.int k (a:Int),.int k b]=some (.int k ((a % b.toNat:Nat):Int)):=by
 rw[tq k _ _ (by omega),QV (by omega)];congr 2;rw[Int.natCast_emod];congr 1;omega
namespace Lang
def ints(l:List Nat):List Int:=l.map λ(n:Nat)=>(n:Int)
end Lang
end Go.Am
namespace Go.Am
def P2(k k':IntKind)(a:Int)(n:Nat):Op.bin .shr [.int k a,.int k' n]=some (.int k (a.fdiv (2 ^ (min n k.bits)))):=by
 have e:yY (n:Int) 0=false:=by rw[Mx];simp
 simp only[Op.bin,mS,dR,xm,sD,e,zj,EM]
def Pg(k k':IntKind)(a:Int)(n:Nat):Op.bin .shl [.int k a,.int k' n]=some (.int k (aj k (a*2 ^ (min n k.bits)))):=by
 have e:yY (n:Int) 0=false:=by rw[Mx];simp
 simp only[Op.bin,mS,dR,xm,sD,e,zj,EM]
end Go.Am
namespace Go.Am
namespace Lang
structure gO where
 op:Int
 a:Int
 b:Int
 c:Int
 yR:Int
def Ew(o:Nat)(x y:Int):Int :=
 if o=4 then aj .u64 (x+y)else if o=5 then aj .u64 (x-y)else if o=6 then aj .u64 (x*y)
 else if o=7 then aj .u64 ((BitVec.ofInt 64 x &&& BitVec.ofInt 64 y).toNat)else if o=8 then aj .u64 ((BitVec.ofInt 64 x ^^^ BitVec.ofInt 64 y).toNat)
 else if o=9 then aj .u64 (x*2 ^ (y % 64).toNat)else aj .u64 (x / 2 ^ (y % 64).toNat)
structure mE where
 kind:Int
 au:Int
 nQ:Int
 value:Int
 addr:Int
def hO:mE:=⟨0,0,0,0,0⟩
def pk(op:Nat):List UInt8 :=
 if op=2 then[65,73]else if op=3 then[65,66]else if 4<=op/\op<=10 then[65,66,67]
 else if op=11\/op=12\/op=14\/op=15\/op=16 then[65,66,73]else if op=13 then[73]else[]
def gO.mn(i:gO):Prop:=1<=i.op/\i.op<=18/\(65∈pk i.op.toNat->0<=i.a/\i.a<8)/\(66∈pk i.op.toNat->0<=i.b/\i.b<8)/\(67∈pk i.op.toNat->0<=i.c/\i.c<8)
instance(i:gO):Decidable i.mn:=inferInstanceAs (Decidable (_/\_))
def pA(n:Int):Nat:=(BitVec.ofInt 64 n &&& 7#64).toNat
def rg(rs:List Int)(n:Int):Int:=rs.getD (pA n) 0
def mP(i:gO)(pc:Int)(q:Bool):mE:=if q=true then(if i.yR<0\/1024<i.yR then hO else⟨2,i.yR,0,0,0⟩)else⟨2,pc+1,0,0,0⟩
def gO.fO(i:gO)(rs:List Int)(pc:Int):mE :=
 if¬i.mn\/pc<0\/1024<=pc then hO
 else if i.op=1 then⟨7,pc+1,0,0,0⟩
 else if i.op=2 then⟨1,pc+1,i.a,aj .u64 i.yR,0⟩
 else if i.op=3 then⟨1,pc+1,i.a,rg rs i.b,0⟩
 else if i.op<=10 then⟨1,pc+1,i.a,Ew i.op.toNat (rg rs i.b) (rg rs i.c),0⟩
 else if i.op=11 then⟨3,pc+1,i.a,0,aj .u64 (rg rs i.b+aj .u64 i.yR)⟩
 else if i.op=12 then⟨4,pc+1,0,rg rs i.a,aj .u64 (rg rs i.b+aj .u64 i.yR)⟩
 else if i.op=13 then mP i pc true
 else if i.op=14 then mP i pc (decide (rg rs i.a=rg rs i.b))
 else if i.op=15 then mP i pc (decide (rg rs i.a≠rg rs i.b))
 else if i.op=16 then mP i pc (decide (rg rs i.a<rg rs i.b))
 else if i.op=17 then⟨5,pc+1,0,0,0⟩
 else⟨6,pc+1,0,0,0⟩
end Lang
end Go.Am
namespace Go.Am
def tJ(AP:ak)(g:Nat)(pre cap:List AV)(N O:Nat->Prop)(H0:ar)(xs:List (List AV)):Prop :=
 ∀(L:Nat)(R:Nat->(Nat->Prop)->ar->Prop)(S:(Nat->Prop)->ar->Prop)(W0:Nat->Prop)(H:ar),
  H0.au<=H.au->(∀b,N b\/O b->b<H0.au/\H.get b=H0.get b /\ ¬W0 b)->R 0 W0 H->(∀b,W0 b->b<H.au) ->
  (∀i W H H',R i W H->(∀b,W b->H'.get b=H.get b)->H.au<=H'.au->R i W H')->(∀W H H',S W H->(∀b,W b->H'.get b=H.get b)->H.au<=H'.au->S W H') ->
  (∀(i:Nat)x,xs[i]? = some x -> ∀W H',R i W H'->(∀b,W b->b<H'.au/\(W0 b\/H.au<=b))->Fr (λ b=>W0 b\/O b) H H' ->
   ∃bb H'' W',rS AP L x H' (.ret (.bool bb)) H''/\Fr W H' H''/\(∀b,W' b->b<H''.au/\(W b\/H'.au<=b))/\(bb=true->R (i+1) W' H'')/\(bb=false->S W' H'')) ->
  ∃v H' W',CALL AP g (pre++(.fn (.yield L) [] []::cap)) H (.ret v) H'/\Fr (λ b=>W0 b\/O b) H H'/\(∀b,W' b->b<H'.au/\(W0 b\/H.au<=b))/\(R xs.length W' H'\/S W' H')
section
variable{AP:ak}
def xkh{f:Nat}{fn:cj}{k:Nat}{lp:dZ}(hf:AP.func f=some fn)(hk:nth fn.loops k=some lp){tm:T AV}{aX:List aM}{up:Option aE}{H:ar}{Q:cB}
 {g:Nat} {pre cap:List AV} {N O:Nat->Prop} {H0:ar} {xs:List (List AV)} (ny:tJ AP g pre cap N O H0 xs)
 (P:Nat->(Nat->Prop)->ar->Prop) (M:aU->(Nat->Prop)->ar->Prop) (n:Nat->Prop)
 (hn:H0.au<=H.au) (hN:∀b,N b\/O b->b<H0.au/\H.get b=H0.get b /\ ¬n b) (B:∀b,n b->b<H.au) (h0:P 0 n H)
 (loc:∀i W H H',P i W H->(∀b,W b->H'.get b=H.get b)->H.au<=H'.au->P i W H') (C:∀e W H H',M e W H->(∀b,W b->H'.get b=H.get b)->H.au<=H'.au->M e W H')
 (S:∀(L d i:Nat)x,xs[i]? = some x->H.au<=L -> ∀W H1,P i W H1->(∀b,W b->b<H1.au/\(n b\/H.au<=b))->Fr (λ b=>n b\/O b) H H1 -> ¬W L->L<H1.au->H1.get L=some (.loop .ready none f k tm d) ->
  ∃X,Ju tm lp.params x=some X/\WP AP ⟨some L,f⟩ lp.assign ⟨X,[],none,H1⟩ λ e cS=>e=.normal/\cS.H.get L=some (.loop .ready none f k tm d) /\
   WP AP ⟨some L,f⟩ lp.body ⟨cS.tm,cS.aX,cS.up,cS.H.set L (.loop .busy none f k tm d)⟩ λ u a=>a.aX=[]/\a.H.get L=some (.loop .busy none f k tm d) /\
    ∃W':Nat->Prop,(∀b,W' b->b<a.H.au/\(W b\/H1.au<=b))/\Fr (λ b=>W b\/b=L) H1 a.H/\(u=.normal/\P (i+1) W' a.H\/gn u/\M u W' a.H))
 (hend:∀d W' H',H.au<=d->d<H'.au->H'.get d=some (.deferred (some []))->Fr (λ b=>n b\/O b) H H'->(∀b,W' b->b<H'.au/\(n b\/H.au<=b)/\b≠d)->P xs.length W' H'->Q .normal ⟨tm,.iU d::aX,up,H'⟩)
 (U:∀e d W' H',gn e->H.au<=d->d<H'.au->H'.get d=some (.deferred (some []))->Fr (λ b=>n b\/O b) H H'->(∀b,W' b->b<H'.au/\(n b\/H.au<=b)/\b≠d)->M e W' H'->Q e ⟨tm,.iU d::aX,up,H'⟩) :
 IF AP ⟨none,f⟩ k ⟨tm,aX,up,H⟩ Q (.fn (.func g) pre cap):=by
 let d:=H.au
 let L:=H.au+1
 let Hd:=H.alloc (.deferred (some []))
 let HL:=Hd.alloc (.loop .ready none f k tm d)
 have c:HL.au=H.au+2:=rfl
 have hgL:HL.get L=some (.loop .ready none f k tm d):=xf Hd _;have hgd:HL.get d=some (.deferred (some [])):=by rw[show HL.get d=Hd.get d from wo (by show H.au<H.au+1;omega) _];exact xf H _
 have hfr0:Fr Em H HL:=((Fr.refl H).alloc _).alloc _;have hold:∀b,b<H.au->HL.get b=H.get b:=λ b hb=>hfr0.ah b hb (λ q=>q)
 obtain⟨v,H',W',hc,E,D,hres⟩:=ny L
  (λ i W H'=>∃V:Nat->Prop,(∀b,V b->W b)/\W L /\ ¬V L /\ ¬W d/\(∀b,W b->V b\/b=L)/\P i V H'/\H'.get L=some (.loop .ready none f k tm d)/\L<H'.au)
  (λ W H'=>∃(V:Nat->Prop)(e:aU)(j:gU),(∀b,V b->W b)/\W L /\ ¬V L /\ ¬W d/\(∀b,W b->V b\/b=L)/\gn e/\jW e=some j/\M e V H'/\H'.get L=some (.loop .done (some j) f k tm d)/\L<H'.au)
  (λ b=>n b\/b=L) HL (by rw[c];omega)
  (λ b hb=>by
   obtain⟨h1,h2,h3⟩:=hN b hb;exact⟨h1,by rw[hold b (by omega)];exact h2,λ q=>q.elim h3 λ q=>by have:L=H.au+1:=rfl;omega⟩)
  ⟨n,λ b hb=>.inl hb,.inr rfl,λ q=>by have:=B _ q;have:L=H.au+1:=rfl;omega,λ q=>q.elim (λ q=>by have:=B _ q;have:d=H.au:=rfl;omega) λ q=>by have:d=H.au:=rfl;have:L=H.au+1:=rfl;omega,
   λ b hb=>hb,loc 0 n H HL h0 (λ b hb=>hold b (B b hb)) (by rw[c];omega),hgL,by rw[c];show H.au+1<H.au+2;omega⟩
  (λ b hb=>hb.elim (λ q=>by have:=B b q;rw[c];omega) λ q=>by rw[c,q];show H.au+1<H.au+2;omega)
  (λ i W H1 t⟨V,v1,v2,y,v4,Y,v6,z,G⟩hs hle=>⟨V,v1,v2,y,v4,Y,loc i V H1 t v6 (λ b hb=>hs b (v1 b hb)) hle,by rw[hs L v2];exact z,qj G hle⟩)
  (λ W H1 t⟨V,e,j,v1,v2,y,v4,Y,v6,z,G,v9,v10⟩hs hle=>⟨V,e,j,v1,v2,y,v4,Y,v6,z,C e V H1 t G (λ b hb=>hs b (v1 b hb)) hle,by rw[hs L v2];exact v9,qj v10 hle⟩)
  (λ i x hx W H1⟨V,v1,v2,y,v4,Y,v6,z,G⟩hb I=>by
   have hLn0:L=H.au+1:=rfl
   have hfr1:Fr (λ b=>n b\/O b) H H1:=⟨xu (by rw[c];omega) I.au,λ b hb hw=>by rw[I.ah b (by rw[c];omega) (λ q=>q.elim (λ q=>q.elim (λ q=>hw (.inl q)) λ q=>by omega) λ q=>hw (.inr q)),hold b hb]⟩
   have hbV:∀b,V b->b<H1.au/\(n b\/H.au<=b):=λ b q=>⟨(hb b (v1 b q)).1,(hb b (v1 b q)).2.elim (λ r=>r.elim .inl λ r=>by subst r;exact(y q).elim) λ r=>.inr (by rw[c]at r;omega)⟩
   obtain⟨X,hbp,hw⟩:=S L d i x hx (by show H.au<=H.au+1;omega) V H1 v6 hbV hfr1 y G z;obtain⟨e,t,hr,bb,rfl,l,k1,k2,k3,k4⟩:=Zd (Q:=λ e t=>∃bb,e=.ret (.bool bb) /\ ∃l:Nat->Prop,Fr W H1 t/\(∀b,l b->b<t.au/\(W b\/H1.au<=b)) /\
    (bb=true -> ∃V:Nat->Prop,(∀b,V b->l b)/\l L /\ ¬V L /\ ¬l d/\(∀b,l b->V b\/b=L)/\P (i+1) V t/\t.get L=some (.loop .ready none f k tm d)/\L<t.au) /\
    (bb=false -> ∃(V:Nat->Prop)(e:aU)(j:gU),(∀b,V b->l b)/\l L /\ ¬V L /\ ¬l d/\(∀b,l b->V b\/b=L)/\gn e/\jW e=some j/\M e V t/\t.get L=some (.loop .done (some j) f k tm d)/\L<t.au)) z hf hk hbp
    (pF hw λ e cS⟨he,hgl,hw2⟩=>by
     subst he;show bM aG (beginRound cS.H L) _;have:beginRound cS.H L=some (cS.H.set L (.loop .busy none f k tm d)):=by unfold beginRound;rw[hgl]
     rw[this];refine pF hw2 λ u a⟨hd2,hg2,W',w1,w2,w3⟩=>⟨hd2,?_⟩
     have R:L<a.H.au:=qj G w2.au
     have hd1:d<H1.au:=by have:d=H.au:=rfl;have:L=H.au+1:=rfl;omega
     have fin:∀s p,Fr W H1 (a.H.set L (.loop s p f k tm d)):=λ s p=>⟨w2.au,λ b hb hw=>by
      rw[ar.aI,qo (by rintro rfl;exact hw v2)];exact w2.ah b hb λ q=>q.elim (λ q=>hw (v1 b q)) λ q=>hw (by rw[q];exact v2)⟩
     have hW'L:∀b,(W' b/\b≠L)->(a.H.set L (.loop .ready none f k tm d)).get b=a.H.get b:=λ b hb=>by rw[ar.aI,qo (λ q=>hb.2 q.symm)]
     have F:¬W' L:=λ q=>by
      rcases(w1 L q).2 with q|q
      .exact y q
      .omega
     have hnd:¬W' d:=λ q=>by
      rcases(w1 d q).2 with q|q
      .exact v4 (v1 d q)
      .omega
     have w:d≠L:=by show H.au≠H.au+1;omega
     have bounds:∀b,(W' b\/b=L)->b<a.H.au/\(W b\/H1.au<=b):=λ b hb=>hb.elim (λ q=>⟨(w1 b q).1,(w1 b q).2.imp (v1 b) id⟩) λ q=>by subst q;exact⟨R,.inl v2⟩
     rcases w3 with⟨rfl,w3⟩|⟨hj,w3⟩
     .show bM aG (cM a.H L (cond true .ready .done) none) _;have:cM a.H L .ready none=some (a.H.set L (.loop .ready none f k tm d)):=by unfold cM;rw[hg2]
      rw[xm,this];refine⟨true,rfl,λ b=>W' b\/b=L,fin _ _,bounds,λ _=>⟨W',λ b hb=>.inl hb,.inr rfl,F,λ q=>q.elim hnd w,λ b hb=>hb,loc _ _ _ _ w3 (λ b hb=>by rw[ar.aI,qo (by rintro rfl;exact F hb)]) (qg _),xc _ _ _,R⟩,λ h=>by cases h⟩
     .obtain ⟨j,hj2⟩:∃j,jW u=some j:=by cases u<;>first|exact hj.elim|exact⟨_,rfl⟩
      have hnn:yM u=false:=by cases u<;>first|exact hj.elim|rfl
      have m:∀(A:Prop),(bM aG (cM a.H L (cond (yM u) .ready .done) (jW u)) λ H=>∃bb,(bE.ret (.bool (yM u))=.ret (.bool bb)) /\ ∃l:Nat->Prop,Fr W H1 H/\(∀b,l b->b<H.au/\(W b\/H1.au<=b)) /\
       (bb=true -> ∃V:Nat->Prop,(∀b,V b->l b)/\l L /\ ¬V L /\ ¬l d/\(∀b,l b->V b\/b=L)/\P (i+1) V H/\H.get L=some (.loop .ready none f k tm d)/\L<H.au) /\
       (bb=false -> ∃(V:Nat->Prop)(e:aU)(j:gU),(∀b,V b->l b)/\l L /\ ¬V L /\ ¬l d/\(∀b,l b->V b\/b=L)/\gn e/\jW e=some j/\M e V H/\H.get L=some (.loop .done (some j) f k tm d)/\L<H.au)):=λ _=>by
       have:cM a.H L .done (some j)=some (a.H.set L (.loop .done (some j) f k tm d)):=by unfold cM;rw[hg2]
       rw[hnn,hj2,zj,this];refine⟨false,rfl,λ b=>W' b\/b=L,fin _ _,bounds,λ h=>(by cases h),λ _=>⟨W',u,j,λ b hb=>.inl hb,.inr rfl,F,λ q=>q.elim hnd w,λ b hb=>hb,hj,hj2,C _ _ _ _ w3 (λ b hb=>by rw[ar.aI,qo (by rintro rfl;exact F hb)]) (qg _),xc _ _ _,R⟩⟩
      cases u with
      |normal=>exact hj.elim
      |panic _=>exact hj.elim
      |exit _=>exact m True
      |goto _=>exact m True
      |ret=>exact m True)
   exact⟨bb,t,l,hr,k1,k2,k3,k4⟩)
 have w:d≠L:=by show H.au≠H.au+1;omega
 have hdW:¬((n d\/d=L)\/O d):=λ q=>q.elim (λ q=>q.elim (λ q=>by have:=B _ q;have:d=H.au:=rfl;omega) w) λ q=>by have:=(hN d (.inr q)).1;have:d=H.au:=rfl;omega
 have J:H'.get d=some (.deferred (some [])):=by rw[E.ah d (by rw[c];show H.au<H.au+2;omega) hdW];exact hgd
 have Z:d<H'.au:=qj (by rw[c];show H.au<H.au+2;omega) E.au
 have K:∀(o:bH),Fr (λ b=>n b\/O b) H (H'.set L o):=λ o=>⟨xu (by rw[c];omega) E.au,λ b hb hw=>by
  have:L=H.au+1:=rfl
  rw[ar.aI,qo (by omega),E.ah b (by rw[c];omega) (λ q=>q.elim (λ q=>q.elim (λ q=>hw (.inl q)) λ q=>by omega) λ q=>hw (.inr q)),hold b hb]⟩
 refine⟨.ret v,H',hc,?_⟩;rcases hres with⟨V,v1,v2,y,v4,Y,v6,z,G⟩|⟨V,e,j,v1,v2,y,v4,Y,v6,z,G,v9,v10⟩
 .refine ⟨.ready,none,f,k,tm,d,z,by simp,?_⟩;refine hend d V _ (qg _) Z (by rw[ar.aI,qo (λ q=>w q.symm)];exact J) (K _) (λ b hb=>⟨(D b (v1 b hb)).1,?_,λ q=>v4 (by rw[<-q];exact v1 b hb)⟩) (loc _ _ _ _ v6 (λ b hb=>by rw[ar.aI,qo (by rintro rfl;exact y hb)]) (qg _));rcases(D b (v1 b hb)).2 with q|q
  .exact q.imp id λ q=>by subst q;exact(y hb).elim
  .rw [c]at q;exact .inr (by omega)
 .refine ⟨.done,some j,f,k,tm,d,v9,by simp,?_⟩;have he:qC (some j)=e:=by cases e<;>first|exact v6.elim|(injection z with z;subst z;rfl)
  rw[he];refine U e d V _ v6 (qg _) Z (by rw[ar.aI,qo (λ q=>w q.symm)];exact J) (K _) (λ b hb=>⟨(D b (v1 b hb)).1,?_,λ q=>v4 (by rw[<-q];exact v1 b hb)⟩) (C _ _ _ _ G (λ b hb=>by rw[ar.aI,qo (by rintro rfl;exact y hb)]) (qg _));rcases(D b (v1 b hb)).2 with q|q
  .exact q.imp id λ q=>by subst q;exact(y hb).elim
  .rw [c]at q;exact .inr (by omega)
def vR:List Nat->List AV->Env->Option Env
 |[],[],E=>some E
 |t::ts,v::vs,E=>vR ts vs ((t,v)::E)
 |_,_,_=>none
def TQ(M:ak)(ctx:Ctx)(b:Kp×ai)(L:Nat)(lr lb:bH)(Q:aF):aF:=λ e E D H=>match e with
 | .normal=>H.get L=some lr/\W M ctx b true Q E D (H.set L lb)
 |_=>False
def Fx(M:ak)(ctx:Ctx)(b:Kp×ai)(L:Nat)(lr lb:bH)(Q:aF)(E:Env)(D:List aM)(H:ar):TQ M ctx b L lr lb Q .normal E D H=(H.get L=some lr/\W M ctx b true Q E D (H.set L lb)):=propext jx
def NT(P:(Nat->Prop)->ar->Prop)(PS:aU->(Nat->Prop)->ar->Prop)(L:Nat)(lb:bH)(W:Nat->Prop)(H1:ar):aF:=λ e _ D H=>D=[]/\H.get L=some lb /\
 ∃W':Nat->Prop,(∀b,W' b->b<H.au/\(W b\/H1.au<=b))/\Fr (λ b=>W b\/b=L) H1 H/\(e=.normal/\P W' H\/gn e/\PS e W' H)
def fQ.cons{ks:List Nat}{E:Env}{tm:T AV}(h:fQ ks E tm){t:Nat}(v:AV)(c:bC t ks=true):fQ ks ((t,v)::E) (tm.set t v):=λ u x hu=>by
 rw[u5]at hu;split at hu
 .rename_i e;subst e;injection hu with hu;subst hu
  exact⟨by rw[T.aI,qr rfl],c⟩
 .rename_i e;obtain⟨a,b⟩:=h u x hu;exact⟨by rw[T.aI,qo e,a],b⟩
def UU{ks:List Nat}:∀{ts:List Nat}{vs:List AV}{E b:Env}{tm:T AV},fQ ks E tm->(∀t∈ts,bC t ks=true)->vR ts vs E=some b -> ∃a,Ju tm ts vs=some a/\fQ ks b a
 |[],[],E,b,tm,h,ht,hb=>by injection hb with hb;subst hb;exact⟨tm,rfl,h⟩
 |[],_::_,_,_,_,_,_,hb=>nomatch hb
 |_::_,[],_,_,_,_,_,hb=>nomatch hb
 |t::ts,v::vs,E,b,tm,h,ht,hb=>UU (ts:=ts) (vs:=vs) (h.cons v (ht t (IA ..))) (λ u hu=>ht u (vq _ hu)) hb
def jB.iter{f:Nat}{fn:cj}{k:Nat}{lp:dZ}(hf:AP.func f=some fn)(hk:nth fn.loops k=some lp){ks:List Nat}{ts:List Nat}(hp:lp.params=ts)(R:∀t∈ts,bC t ks=true){pa pb:Kp×ai}(ha:pa.1.ah=ks/\pa.2=lp.assign)(hb:pb.1.ah=ks/\pb.2=lp.body)
 {E:Env} {D:List aM} {H:ar} {Q:aF} {g:Nat} {pre cap:List AV} {N O:Nat->Prop} {H0:ar} {xs:List (List AV)} (ny:tJ AP g pre cap N O H0 xs)
 (P:Nat->(Nat->Prop)->ar->Prop) (j:aU->(Nat->Prop)->ar->Prop) (a:Nat->Prop)
 (hn:H0.au<=H.au) (hN:∀b,N b\/O b->b<H0.au/\H.get b=H0.get b /\ ¬a b) (C:∀b,a b->b<H.au) (p:P 0 a H)
 (loc:∀i W H H',P i W H->(∀b,W b->H'.get b=H.get b)->H.au<=H'.au->P i W H') (n:∀e W H H',j e W H->(∀b,W b->H'.get b=H.get b)->H.au<=H'.au->j e W H')
 (c:∀(L i:Nat)(lr lb:bH)x,xs[i]? = some x->H.au<=L -> ∀W' H1,P i W' H1->(∀b,W' b->b<H1.au/\(a b\/H.au<=b))->Fr (λ b=>a b\/O b) H H1 -> ¬W' L->L<H1.au->H1.get L=some lr ->
  ∃o,vR ts x E=some o/\W AP ⟨some L,f⟩ pa true (TQ AP ⟨some L,f⟩ pb L lr lb (NT (P (i+1)) j L lb W' H1)) o [] H1)
 (l:∀d W' H',H.au<=d->d<H'.au->H'.get d=some (.deferred (some []))->Fr (λ b=>a b\/O b) H H'->(∀b,W' b->b<H'.au/\(a b\/H.au<=b)/\b≠d)->P xs.length W' H'->Q .normal E (.iU d::D) H')
 (h:∀e d W' H',gn e->H.au<=d->d<H'.au->H'.get d=some (.deferred (some []))->Fr (λ b=>a b\/O b) H H'->(∀b,W' b->b<H'.au/\(a b\/H.au<=b)/\b≠d)->j e W' H'->Q e E (.iU d::D) H') :
 jB AP ks ⟨none,f⟩ k E D H Q (.fn (.func g) pre cap):=by
 intro tm up he;refine xkh hf hk ny P j a hn hN C p loc n ?_ (λ d W' H' q r s u w y=>⟨rfl,rfl,l d W' H' q r s u w y⟩) (λ e d W' H' p q r s u w y=>⟨rfl,rfl,h e d W' H' p q r s u w y⟩);intro L d i x hx hL W' H1 hP hW I M B K;obtain⟨o,A,hw⟩:=c L i (.loop .ready none f k tm d) (.loop .busy none f k tm d) x hx hL W' H1 hP hW I M B K;obtain⟨T,F,G⟩:=UU he R A;refine⟨T,by rw[hp];exact F,?_⟩;rw[kR]at hw;have:=W3.wp _ _ (qg _) (up:=none) hw (by rw[ha.1];exact G);rw[ha.2]at this;refine pF this λ e cS⟨S,X,z,U⟩=>?_;cases e with
 |normal =>
  obtain⟨hg,m⟩:=U;refine⟨rfl,hg,?_⟩;rw[kR]at m;have:=W3.wp _ _ (qg _) (up:=none) m (show fQ pb.1.ah X cS.tm by rw[hb.1,<-ha.1];exact z);rw[hb.2]at this;rw[S];refine pF this λ e2 st2⟨V,E2,Z,hd,J,Y,k1,k2,k3⟩=>⟨hd,J,Y,k1,k2,k3⟩
 |_=>exact U.elim
def Ke(rs:List dX)(Q:bE->ar->Prop)(E:Env)(d:Nat)(H:ar):fj AP rs Q .ret E [.iU d] H=(H.get d=some (.deferred (some []))/\iQ E (H.set d (.deferred none)) rs λ l=>Q (.ret (iR l)) (H.set d (.deferred none))):=propext jx
end
end Go.Am
namespace Go.Am
def sV(AP:ak)(g:Nat)(pre cap:List AV)(N O:Nat->Prop)(I:ar->Prop)(H0:ar)(xs:List (List AV)):Prop :=
 ∀(L:Nat)(R:Nat->(Nat->Prop)->ar->Prop)(S:(Nat->Prop)->ar->Prop)(W0:Nat->Prop)(H:ar),
  H0.au<=H.au->(∀b,N b\/O b->b<H0.au/\H.get b=H0.get b /\ ¬W0 b)->R 0 W0 H->(∀b,W0 b->b<H.au) ->
  (∀i W H H',R i W H->(∀b,W b->H'.get b=H.get b)->H.au<=H'.au->R i W H')->(∀W H H',S W H->(∀b,W b->H'.get b=H.get b)->H.au<=H'.au->S W H') ->
  (∀i W H',R i W H'->I H') ->
  (∀(i:Nat)x,xs[i]? = some x -> ∀W H',R i W H'->(∀b,W b->b<H'.au/\(W0 b\/H.au<=b))->Fr (λ b=>W0 b\/O b) H H' ->
   ∃bb H'' W',rS AP L x H' (.ret (.bool bb)) H''/\Fr W H' H''/\(∀b,W' b->b<H''.au/\(W b\/H'.au<=b))/\(bb=true->R (i+1) W' H'')/\(bb=false->S W' H'')) ->
  ∃v H' W',CALL AP g (pre++(.fn (.yield L) [] []::cap)) H (.ret v) H'/\Fr (λ b=>W0 b\/O b) H H'/\(∀b,W' b->b<H'.au/\(W0 b\/H.au<=b))/\(R xs.length W' H'\/S W' H')
section
variable{AP:ak}
def xkg{f:Nat}{fn:cj}{k:Nat}{lp:dZ}(hf:AP.func f=some fn)(hk:nth fn.loops k=some lp){tm:T AV}{aX:List aM}{up:Option aE}{H:ar}{Q:cB}
 {g:Nat} {pre cap:List AV} {N O:Nat->Prop} {I:ar->Prop} {H0:ar} {xs:List (List AV)} (ny:sV AP g pre cap N O I H0 xs)
 (P:Nat->(Nat->Prop)->ar->Prop) (R:aU->(Nat->Prop)->ar->Prop) (n:Nat->Prop)
 (hn:H0.au<=H.au) (hN:∀b,N b\/O b->b<H0.au/\H.get b=H0.get b /\ ¬n b) (B:∀b,n b->b<H.au) (h0:P 0 n H)
 (loc:∀i W H H',P i W H->(∀b,W b->H'.get b=H.get b)->H.au<=H'.au->P i W H') (C:∀e W H H',R e W H->(∀b,W b->H'.get b=H.get b)->H.au<=H'.au->R e W H') (hI:∀i W H,P i W H->I H)
 (U:∀(L d i:Nat)x,xs[i]? = some x->H.au<=L -> ∀W H1,P i W H1->(∀b,W b->b<H1.au/\(n b\/H.au<=b))->Fr (λ b=>n b\/O b) H H1 -> ¬W L->L<H1.au->H1.get L=some (.loop .ready none f k tm d) ->
  ∃Y,Ju tm lp.params x=some Y/\WP AP ⟨some L,f⟩ lp.assign ⟨Y,[],none,H1⟩ λ e cS=>e=.normal/\cS.H.get L=some (.loop .ready none f k tm d) /\
   WP AP ⟨some L,f⟩ lp.body ⟨cS.tm,cS.aX,cS.up,cS.H.set L (.loop .busy none f k tm d)⟩ λ w a=>a.aX=[]/\a.H.get L=some (.loop .busy none f k tm d) /\
    ∃W':Nat->Prop,(∀b,W' b->b<a.H.au/\(W b\/H1.au<=b))/\Fr (λ b=>W b\/b=L) H1 a.H/\(w=.normal/\P (i+1) W' a.H\/gn w/\R w W' a.H))
 (hend:∀d W' H',H.au<=d->d<H'.au->H'.get d=some (.deferred (some []))->Fr (λ b=>n b\/O b) H H'->(∀b,W' b->b<H'.au/\(n b\/H.au<=b)/\b≠d)->P xs.length W' H'->Q .normal ⟨tm,.iU d::aX,up,H'⟩)
 (X:∀e d W' H',gn e->H.au<=d->d<H'.au->H'.get d=some (.deferred (some []))->Fr (λ b=>n b\/O b) H H'->(∀b,W' b->b<H'.au/\(n b\/H.au<=b)/\b≠d)->R e W' H'->Q e ⟨tm,.iU d::aX,up,H'⟩) :
 IF AP ⟨none,f⟩ k ⟨tm,aX,up,H⟩ Q (.fn (.func g) pre cap):=by
 let d:=H.au
 let L:=H.au+1
 let Hd:=H.alloc (.deferred (some []))
 let HL:=Hd.alloc (.loop .ready none f k tm d)
 have c:HL.au=H.au+2:=rfl
 have hgL:HL.get L=some (.loop .ready none f k tm d):=xf Hd _;have hgd:HL.get d=some (.deferred (some [])):=by rw[show HL.get d=Hd.get d from wo (by show H.au<H.au+1;omega) _];exact xf H _
 have hfr0:Fr Em H HL:=((Fr.refl H).alloc _).alloc _;have hold:∀b,b<H.au->HL.get b=H.get b:=λ b hb=>hfr0.ah b hb (λ q=>q)
 obtain⟨v,H',W',hc,F,E,hres⟩:=ny L
  (λ i W H'=>∃V:Nat->Prop,(∀b,V b->W b)/\W L /\ ¬V L /\ ¬W d/\(∀b,W b->V b\/b=L)/\P i V H'/\H'.get L=some (.loop .ready none f k tm d)/\L<H'.au)
  (λ W H'=>∃(V:Nat->Prop)(e:aU)(j:gU),(∀b,V b->W b)/\W L /\ ¬V L /\ ¬W d/\(∀b,W b->V b\/b=L)/\gn e/\jW e=some j/\R e V H'/\H'.get L=some (.loop .done (some j) f k tm d)/\L<H'.au)
  (λ b=>n b\/b=L) HL (by rw[c];omega)
  (λ b hb=>by
   obtain⟨h1,h2,h3⟩:=hN b hb;exact⟨h1,by rw[hold b (by omega)];exact h2,λ q=>q.elim h3 λ q=>by have:L=H.au+1:=rfl;omega⟩)
  ⟨n,λ b hb=>.inl hb,.inr rfl,λ q=>by have:=B _ q;have:L=H.au+1:=rfl;omega,λ q=>q.elim (λ q=>by have:=B _ q;have:d=H.au:=rfl;omega) λ q=>by have:d=H.au:=rfl;have:L=H.au+1:=rfl;omega,
   λ b hb=>hb,loc 0 n H HL h0 (λ b hb=>hold b (B b hb)) (by rw[c];omega),hgL,by rw[c];show H.au+1<H.au+2;omega⟩
  (λ b hb=>hb.elim (λ q=>by have:=B b q;rw[c];omega) λ q=>by rw[c,q];show H.au+1<H.au+2;omega)
  (λ i W H1 t⟨V,v1,v2,u,v4,Z,v6,z,D⟩hs hle=>⟨V,v1,v2,u,v4,Z,loc i V H1 t v6 (λ b hb=>hs b (v1 b hb)) hle,by rw[hs L v2];exact z,qj D hle⟩)
  (λ W H1 t⟨V,e,j,v1,v2,u,v4,Z,v6,z,D,v9,v10⟩hs hle=>⟨V,e,j,v1,v2,u,v4,Z,v6,z,C e V H1 t D (λ b hb=>hs b (v1 b hb)) hle,by rw[hs L v2];exact v9,qj v10 hle⟩)
  (λ i W H1⟨V,v1,v2,u,v4,Z,v6,z,D⟩=>hI i V H1 v6)
  (λ i x hx W H1⟨V,v1,v2,u,v4,Z,v6,z,D⟩hb J=>by
   have hLn0:L=H.au+1:=rfl
   have hfr1:Fr (λ b=>n b\/O b) H H1:=⟨xu (by rw[c];omega) J.au,λ b hb hw=>by rw[J.ah b (by rw[c];omega) (λ q=>q.elim (λ q=>q.elim (λ q=>hw (.inl q)) λ q=>by omega) λ q=>hw (.inr q)),hold b hb]⟩
   have hbV:∀b,V b->b<H1.au/\(n b\/H.au<=b):=λ b q=>⟨(hb b (v1 b q)).1,(hb b (v1 b q)).2.elim (λ r=>r.elim .inl λ r=>by subst r;exact(u q).elim) λ r=>.inr (by rw[c]at r;omega)⟩
   obtain⟨Y,hbp,hw⟩:=U L d i x hx (by show H.au<=H.au+1;omega) V H1 v6 hbV hfr1 u D z;obtain⟨e,t,hr,bb,rfl,l,k1,k2,k3,k4⟩:=Zd (Q:=λ e t=>∃bb,e=.ret (.bool bb) /\ ∃l:Nat->Prop,Fr W H1 t/\(∀b,l b->b<t.au/\(W b\/H1.au<=b)) /\
    (bb=true -> ∃V:Nat->Prop,(∀b,V b->l b)/\l L /\ ¬V L /\ ¬l d/\(∀b,l b->V b\/b=L)/\P (i+1) V t/\t.get L=some (.loop .ready none f k tm d)/\L<t.au) /\
    (bb=false -> ∃(V:Nat->Prop)(e:aU)(j:gU),(∀b,V b->l b)/\l L /\ ¬V L /\ ¬l d/\(∀b,l b->V b\/b=L)/\gn e/\jW e=some j/\R e V t/\t.get L=some (.loop .done (some j) f k tm d)/\L<t.au)) z hf hk hbp
    (pF hw λ e cS⟨he,hgl,hw2⟩=>by
     subst he;show bM aG (beginRound cS.H L) _;have:beginRound cS.H L=some (cS.H.set L (.loop .busy none f k tm d)):=by unfold beginRound;rw[hgl]
     rw[this];refine pF hw2 λ w a⟨hd2,hg2,W',w1,w2,w3⟩=>⟨hd2,?_⟩
     have S:L<a.H.au:=qj D w2.au
     have hd1:d<H1.au:=by have:d=H.au:=rfl;have:L=H.au+1:=rfl;omega
     have fin:∀s p,Fr W H1 (a.H.set L (.loop s p f k tm d)):=λ s p=>⟨w2.au,λ b hb hw=>by
      rw[ar.aI,qo (by rintro rfl;exact hw v2)];exact w2.ah b hb λ q=>q.elim (λ q=>hw (v1 b q)) λ q=>hw (by rw[q];exact v2)⟩
     have hW'L:∀b,(W' b/\b≠L)->(a.H.set L (.loop .ready none f k tm d)).get b=a.H.get b:=λ b hb=>by rw[ar.aI,qo (λ q=>hb.2 q.symm)]
     have G:¬W' L:=λ q=>by
      rcases(w1 L q).2 with q|q
      .exact u q
      .omega
     have hnd:¬W' d:=λ q=>by
      rcases(w1 d q).2 with q|q
      .exact v4 (v1 d q)
      .omega
     have y:d≠L:=by show H.au≠H.au+1;omega
     have bounds:∀b,(W' b\/b=L)->b<a.H.au/\(W b\/H1.au<=b):=λ b hb=>hb.elim (λ q=>⟨(w1 b q).1,(w1 b q).2.imp (v1 b) id⟩) λ q=>by subst q;exact⟨S,.inl v2⟩
     rcases w3 with⟨rfl,w3⟩|⟨hj,w3⟩
     .show bM aG (cM a.H L (cond true .ready .done) none) _;have:cM a.H L .ready none=some (a.H.set L (.loop .ready none f k tm d)):=by unfold cM;rw[hg2]
      rw[xm,this];refine⟨true,rfl,λ b=>W' b\/b=L,fin _ _,bounds,λ _=>⟨W',λ b hb=>.inl hb,.inr rfl,G,λ q=>q.elim hnd y,λ b hb=>hb,loc _ _ _ _ w3 (λ b hb=>by rw[ar.aI,qo (by rintro rfl;exact G hb)]) (qg _),xc _ _ _,S⟩,λ h=>by cases h⟩
     .obtain ⟨j,hj2⟩:∃j,jW w=some j:=by cases w<;>first|exact hj.elim|exact⟨_,rfl⟩
      have hnn:yM w=false:=by cases w<;>first|exact hj.elim|rfl
      have m:∀(A:Prop),(bM aG (cM a.H L (cond (yM w) .ready .done) (jW w)) λ H=>∃bb,(bE.ret (.bool (yM w))=.ret (.bool bb)) /\ ∃l:Nat->Prop,Fr W H1 H/\(∀b,l b->b<H.au/\(W b\/H1.au<=b)) /\
       (bb=true -> ∃V:Nat->Prop,(∀b,V b->l b)/\l L /\ ¬V L /\ ¬l d/\(∀b,l b->V b\/b=L)/\P (i+1) V H/\H.get L=some (.loop .ready none f k tm d)/\L<H.au) /\
       (bb=false -> ∃(V:Nat->Prop)(e:aU)(j:gU),(∀b,V b->l b)/\l L /\ ¬V L /\ ¬l d/\(∀b,l b->V b\/b=L)/\gn e/\jW e=some j/\R e V H/\H.get L=some (.loop .done (some j) f k tm d)/\L<H.au)):=λ _=>by
       have:cM a.H L .done (some j)=some (a.H.set L (.loop .done (some j) f k tm d)):=by unfold cM;rw[hg2]
       rw[hnn,hj2,zj,this];refine⟨false,rfl,λ b=>W' b\/b=L,fin _ _,bounds,λ h=>(by cases h),λ _=>⟨W',w,j,λ b hb=>.inl hb,.inr rfl,G,λ q=>q.elim hnd y,λ b hb=>hb,hj,hj2,C _ _ _ _ w3 (λ b hb=>by rw[ar.aI,qo (by rintro rfl;exact G hb)]) (qg _),xc _ _ _,S⟩⟩
      cases w with
      |normal=>exact hj.elim
      |panic _=>exact hj.elim
      |exit _=>exact m True
      |goto _=>exact m True
      |ret=>exact m True)
   exact⟨bb,t,l,hr,k1,k2,k3,k4⟩)
 have y:d≠L:=by show H.au≠H.au+1;omega
 have hdW:¬((n d\/d=L)\/O d):=λ q=>q.elim (λ q=>q.elim (λ q=>by have:=B _ q;have:d=H.au:=rfl;omega) y) λ q=>by have:=(hN d (.inr q)).1;have:d=H.au:=rfl;omega
 have K:H'.get d=some (.deferred (some [])):=by rw[F.ah d (by rw[c];show H.au<H.au+2;omega) hdW];exact hgd
 have hd':d<H'.au:=qj (by rw[c];show H.au<H.au+2;omega) F.au
 have M:∀(o:bH),Fr (λ b=>n b\/O b) H (H'.set L o):=λ o=>⟨xu (by rw[c];omega) F.au,λ b hb hw=>by
  have:L=H.au+1:=rfl
  rw[ar.aI,qo (by omega),F.ah b (by rw[c];omega) (λ q=>q.elim (λ q=>q.elim (λ q=>hw (.inl q)) λ q=>by omega) λ q=>hw (.inr q)),hold b hb]⟩
 refine⟨.ret v,H',hc,?_⟩;rcases hres with⟨V,v1,v2,u,v4,Z,v6,z,D⟩|⟨V,e,j,v1,v2,u,v4,Z,v6,z,D,v9,v10⟩
 .refine ⟨.ready,none,f,k,tm,d,z,by simp,?_⟩;refine hend d V _ (qg _) hd' (by rw[ar.aI,qo (λ q=>y q.symm)];exact K) (M _) (λ b hb=>⟨(E b (v1 b hb)).1,?_,λ q=>v4 (by rw[<-q];exact v1 b hb)⟩) (loc _ _ _ _ v6 (λ b hb=>by rw[ar.aI,qo (by rintro rfl;exact u hb)]) (qg _));rcases(E b (v1 b hb)).2 with q|q
  .exact q.imp id λ q=>by subst q;exact(u hb).elim
  .rw [c]at q;exact .inr (by omega)
 .refine ⟨.done,some j,f,k,tm,d,v9,by simp,?_⟩;have he:qC (some j)=e:=by cases e<;>first|exact v6.elim|(injection z with z;subst z;rfl)
  rw[he];refine X e d V _ v6 (qg _) hd' (by rw[ar.aI,qo (λ q=>y q.symm)];exact K) (M _) (λ b hb=>⟨(E b (v1 b hb)).1,?_,λ q=>v4 (by rw[<-q];exact v1 b hb)⟩) (C _ _ _ _ D (λ b hb=>by rw[ar.aI,qo (by rintro rfl;exact u hb)]) (qg _));rcases(E b (v1 b hb)).2 with q|q
  .exact q.imp id λ q=>by subst q;exact(u hb).elim
  .rw [c]at q;exact .inr (by omega)
def jB.tE{f:Nat}{fn:cj}{k:Nat}{lp:dZ}(hf:AP.func f=some fn)(hk:nth fn.loops k=some lp){ks:List Nat}{ts:List Nat}(hp:lp.params=ts)(S:∀t∈ts,bC t ks=true){pa pb:Kp×ai}(ha:pa.1.ah=ks/\pa.2=lp.assign)(hb:pb.1.ah=ks/\pb.2=lp.body)
 {E:Env} {D:List aM} {H:ar} {Q:aF} {g:Nat} {pre cap:List AV} {N O:Nat->Prop} {I:ar->Prop} {H0:ar} {xs:List (List AV)} (ny:sV AP g pre cap N O I H0 xs)
 (P:Nat->(Nat->Prop)->ar->Prop) (j:aU->(Nat->Prop)->ar->Prop) (a:Nat->Prop)
 (hn:H0.au<=H.au) (hN:∀b,N b\/O b->b<H0.au/\H.get b=H0.get b /\ ¬a b) (C:∀b,a b->b<H.au) (p:P 0 a H)
 (loc:∀i W H H',P i W H->(∀b,W b->H'.get b=H.get b)->H.au<=H'.au->P i W H') (n:∀e W H H',j e W H->(∀b,W b->H'.get b=H.get b)->H.au<=H'.au->j e W H') (hI:∀i W H,P i W H->I H)
 (c:∀(L i:Nat)(lr lb:bH)x,xs[i]? = some x->H.au<=L -> ∀W' H1,P i W' H1->(∀b,W' b->b<H1.au/\(a b\/H.au<=b))->Fr (λ b=>a b\/O b) H H1 -> ¬W' L->L<H1.au->H1.get L=some lr ->
  ∃o,vR ts x E=some o/\W AP ⟨some L,f⟩ pa true (TQ AP ⟨some L,f⟩ pb L lr lb (NT (P (i+1)) j L lb W' H1)) o [] H1)
 (l:∀d W' H',H.au<=d->d<H'.au->H'.get d=some (.deferred (some []))->Fr (λ b=>a b\/O b) H H'->(∀b,W' b->b<H'.au/\(a b\/H.au<=b)/\b≠d)->P xs.length W' H'->Q .normal E (.iU d::D) H')
 (h:∀e d W' H',gn e->H.au<=d->d<H'.au->H'.get d=some (.deferred (some []))->Fr (λ b=>a b\/O b) H H'->(∀b,W' b->b<H'.au/\(a b\/H.au<=b)/\b≠d)->j e W' H'->Q e E (.iU d::D) H') :
 jB AP ks ⟨none,f⟩ k E D H Q (.fn (.func g) pre cap):=by
 intro tm up he;refine xkg hf hk ny P j a hn hN C p loc n hI ?_ (λ d W' H' q r s u w y=>⟨rfl,rfl,l d W' H' q r s u w y⟩) (λ e d W' H' p q r s u w y=>⟨rfl,rfl,h e d W' H' p q r s u w y⟩);intro L d i x hx hL W' H1 hP hW J R B M;obtain⟨o,A,hw⟩:=c L i (.loop .ready none f k tm d) (.loop .busy none f k tm d) x hx hL W' H1 hP hW J R B M;obtain⟨U,F,G⟩:=UU he S A;refine⟨U,by rw[hp];exact F,?_⟩;rw[kR]at hw;have:=W3.wp _ _ (qg _) (up:=none) hw (by rw[ha.1];exact G);rw[ha.2]at this;refine pF this λ e cS⟨T,Y,z,V⟩=>?_;cases e with
 |normal =>
  obtain⟨hg,m⟩:=V;refine⟨rfl,hg,?_⟩;rw[kR]at m;have:=W3.wp _ _ (qg _) (up:=none) m (show fQ pb.1.ah Y cS.tm by rw[hb.1,<-ha.1];exact z);rw[hb.2]at this;rw[T];refine pF this λ e2 st2⟨X,E2,hE2,hd,K,Z,k1,k2,k3⟩=>⟨hd,K,Z,k1,k2,k3⟩
 |_=>exact V.elim
end
end Go.Am
namespace Go.Am
def ZP{α:Type}{L E:List α}{p size:Nat}(c:E.length=size)(hp:p+size<=L.length)(h:∀r,r<size->L[p+r]? = E[r]?):L=L.take p++(E++L.drop (p+size)):=by
 have a:(L.drop p).take size=E:=by
  refine jz λ r=>?_;rcases xq r size with q|q
  .rw [yf,qr q,yo,h r q]
  .rw [zz (by rw[j6];omega),zz (by omega)]
 have b:L.drop p=E++L.drop (p+size):=by
  rw[<-a,<-Ib,ve]
 rw[<-b,ve]
def Cs{α:Type}{L E cs:List α}{p size j n:Nat}(g:E.length=size)(i:cs.length=n)(k:j+n<=size)(hp:p+size<=L.length)(h:∀r,r<size->L[p+r]? = E[r]?) :
 L.take (p+j)++cs++L.drop (p+j+n)=L.take p++((E.take j++cs++E.drop (j+n))++L.drop (p+size)):=by
 obtain⟨A,a⟩:∃A,A=L.take p:=⟨_,rfl⟩
 obtain⟨B,c⟩:∃B,B=L.drop (p+size):=⟨_,rfl⟩
 have hl:A.length=p:=by rw[a,j6];omega
 have b:=ZP g hp h;rw[<-a,<-c]at b;rw[<-a,<-c];have d:L.take (p+j)=A++E.take j:=by
  rw[b,L5,hl,zg (by omega),yp,jw (by omega)]
 have f:L.drop (p+j+n)=E.drop (j+n)++B:=by
  rw[b,wv,hl,je (by omega),zw,show p+j+n-p=j+n by omega,yn (by omega)]
 rw[d,f];simp
section
variable{α:Type}{enc:α->List AV}{size:Nat}{H:ar}{v:AV}{xs:List α}
def xi3(hs:∀x,(enc x).length=size){i:Nat}{x y:α}(a:xs[i]? = some x){j n:Nat}{cs:List AV}(b:cs.length=n)(d:j+n<=size)(f:enc y=(enc x).take j++cs++(enc x).drop (j+n)) :
 (xs.flatMap enc).take (i*size+j)++cs++(xs.flatMap enc).drop (i*size+j+n)=(xs.set i y).flatMap enc:=by
 have c:=Eu a;have hb:(i+1)*size<=xs.length*size:=jv _ c;rw[wL]at hb;have hl:=GY hs xs;rw[Cs (E:=enc x) (size:=size) (hs x) b d (by omega) (λ r hr=>Hl hs xs a hr),<-f,Ro hs xs a];simp[zm]
def gB.G2{e:Nat}(hs:∀x,(enc x).length=size)(h:gB enc e size H v xs){i:Nat}{x y:α}(d:xs[i]? = some x){j n:Nat}{u:AV}(hu:u.cells.length=n)(ho:aJ u.cells=true)(l:j+n<=size)(m:enc y=(enc x).take j++u.cells++(enc x).drop (j+n)) :
 ∃H',Op.store n [.ptr (aH v) (cG size v i+j),u] H=some (.undef,H')/\gB enc e size H' v (xs.set i y)/\Fr (On (aH v)) H H':=by
 obtain⟨b,rfl,f,g⟩:=h;have k:=Eu d;have hl:=GY hs xs;have hb:(i+1)*size<=xs.length*size:=jv _ k;rw[wL]at hb;have c:=t9 g (o:=i*size+j) (n:=n) (v:=u) hu (by omega) ho;have a:cG size (AV.slice b 0 xs.length xs.length) i=i*size:=by simp[cG]
 rw[a];refine⟨_,c,⟨b,?_,f,?_⟩,(Fr.refl H).set (W:=On b) (.inl rfl) _⟩
 .rw [xg]
 .rw [xc,xi3 hs d hu l m]
def gB.PM{e:Nat}(hs:∀x,(enc x).length=size)(ho:∀x,aJ (enc x)=true)(h:gB enc e size H v xs){i:Nat}{x:α}(a:xs[i]? = some x)(y:α) :
 ∃H',Op.store size [.ptr (aH v) (cG size v i),.agg (enc y)] H=some (.undef,H')/\gB enc e size H' v (xs.set i y)/\Fr (On (aH v)) H H':=by
 have:=h.G2 hs a (y:=y) (j:=0) (n:=size) (u:=.agg (enc y)) (by rw[zu];exact hs y) (by rw[zu];exact ho y) (by omega) (by
  rw[zu,yz,zw,je (by rw[hs];omega),ze])
 rw[vf]at this;exact this
end
end Go.Am
namespace Go.Am
open Go.Proofs Ca
variable{M:ak}[MK M]
abbrev uW(x:Int):AV:=.int .u64 x
def aB(e:En):List AV:=.int .i64 e.line::.int .i64 e.st::.bool e.r::.bool e.w::(e.d.l.map uW++(e.o.l.map uW ++ [.int .i64 e.u]))
def jj(e:En):(aB e).length=21:=by simp[aB,e.d.h,e.o.h]
def xO(e:En):aJ (aB e)=true:=by
 rw[yj];unfold aB;simp[av]
def Mf{H:ar}{s e:Nat}{a:AV}(h:H.get s=some (OR [a] e)){u:AV}(hu:av u=true):Op.store 1 [.ptr s 0,u] H=some (.undef,H.set s (OR [u] e)):=by
 have d:u.cells=[u]:=by cases u<;>first|rfl|cases hu
 have:=t9 h (o:=0) (n:=1) (v:=u) (by rw[d];rfl) (by simp) (by rw[d,yj];simpa using hu);rw[this,d];rfl
def OD(b:ai)(Q:aF)(E:Env)(D:List aM)(H:ar):jR b Q .normal E D H=Q .normal E D H:=rfl
def B8(b:ai)(Q:aF)(E:Env)(D:List aM)(H:ar):jR b Q .ret E D H=Q .ret E D H:=rfl
def EG(c:Ca)(sv:AV):List AV:=[.int .i64 (c.fE:Int),.int .i64 (c.ways:Int),sv,.int .i64 c.us]
abbrev eA(sv:AV)(i:Nat):AV:=.ptr (aH sv) (cG 21 sv i)
structure dP(H:ar)(b:Nat)(sv:AV)(c:Ca):Prop where
 row:H.get b=some (OR (EG c sv) TR)
 lt:b<H.au
 sl:gB aB xk 21 H sv c.sl
 ne:aH sv≠b
 s8:c.fE<=8
 w4:c.ways<=4
 us:0<=c.us/\c.us<=1000000
def dP.em{H H':ar}{b:Nat}{sv:AV}{c:Ca}(h:dP H b sv c)(f:Fr Em H H'):dP H' b sv c:=⟨by rw[f.ah _ h.lt id];exact h.row,qj h.lt f.au,h.sl.fr f id,h.ne,h.s8,h.w4,h.us⟩
def dP.fr{H H':ar}{W:Nat->Prop}{b:Nat}{sv:AV}{c:Ca}(h:dP H b sv c)(f:Fr W H H')(a:¬W b)(d:¬W (aH sv)):dP H' b sv c:=⟨by rw[f.ah _ h.lt a];exact h.row,qj h.lt f.au,h.sl.fr f d,h.ne,h.s8,h.w4,h.us⟩
def dP.ix{H:ar}{b:Nat}{sv:AV}{c:Ca}(h:dP H b sv c){i:Nat}(a:i<c.sl.length):Op.aO 21 [sv,.int .i64 (i:Int)]=some (eA sv i):=(h.sl.sl jj).idx (Er a) rfl .i64
def dP.ld{H:ar}{b:Nat}{sv:AV}{c:Ca}(h:dP H b sv c){i:Nat}(a:i<c.sl.length){k:Nat}(hk:k<21):Op.ae [.ptr (aH sv) (cG 21 sv i+k)] H=(aB (c.en i))[k]?:=(h.sl.sl jj).ae jj (Er a) hk
def dP.wF{H:ar}{b:Nat}{sv:AV}{c:Ca}(h:dP H b sv c){i:Nat}(a:i<c.sl.length):Op.ae [.ptr (aH sv) (cG 21 sv i)] H=some (.int .i64 (c.en i).line):=(h.sl.sl jj).lT jj (Er a) (by decide)
def yq(b o:Nat)(H:ar):Op.eq .ptr false [.ptr b o,.nilp] H=some (.bool false):=rfl
def kX(b o:Nat)(H:ar):Op.eq .ptr true [.ptr b o,.nilp] H=some (.bool true):=rfl
def Pd(H:ar):Op.eq .ptr false [.nilp,.nilp] H=some (.bool true):=rfl
def tH(H:ar):Op.eq .ptr true [.nilp,.nilp] H=some (.bool false):=rfl
def MX(R:Nat->(Nat->Prop)->ar->Prop)(S:(Nat->Prop)->ar->Prop)(W0 O:Nat->Prop)(H:ar)(n:Nat)(v:AV)(H':ar):Prop:=∃W':Nat->Prop,Fr (λ b=>W0 b\/O b) H H'/\(∀b,W' b->b<H'.au/\(W0 b\/H.au<=b))/\(R n W' H'\/S W' H')
def pq(c:Ca)(sv:AV)(line:Int):List (List AV):=if line<0 then[]else(List.range c.ways).map λ k=>[eA sv (c.fr line+k)]
structure Mq(R:Nat->(Nat->Prop)->ar->Prop)(W0:Nat->Prop)(H1 Hx:ar)(i:Nat)(V:Nat->Prop):Prop where
 hR:R i V Hx
 hV:∀b,V b->b<Hx.au/\(W0 b\/H1.au<=b)
 fr:Fr W0 H1 Hx
def xa8{H0:ar}{p q b:Nat}{sv:AV}{c:Ca}{lines line:Int}(g:dP H0 b sv c)(e:CI lines c)(hp:H0.get p=some (OR [.ptr b 0] AH))(hq:H0.get q=some (OR [.int .i64 line] cK))(hpl:p<H0.au)(hql:q<H0.au) :
 tJ M KB [] [.ptr p 0,.ptr q 0] (λ x=>x=p\/x=q\/x=b) (λ _=>False) H0 (pq c sv line):=by
 intro Y R S d H1 hnx A m r loc O step;obtain⟨p1,p2,p3⟩:=A p (.inl (.inl rfl));obtain⟨Q,F,G⟩:=A q (.inl (.inr (.inl rfl)));obtain⟨b1,T,U⟩:=A b (.inl (.inr (.inr rfl)))
 suffices h:za M KB [.fn (.yield Y) [] [],.ptr p 0,.ptr q 0] H1 (MX R S d (λ _=>False) H1 (pq c sv line).length)by
  obtain⟨v,H',g,W',Q,F,G⟩:=h.elim;exact⟨v,H',W',g,Q,F,G⟩
 refine qye ?_;obtain⟨w0,w6,u,I,J⟩:=qyf M ⟨none,KB⟩;have lp:∀{a:ar},Fr d H1 a->Op.ae [.ptr p 0] a=some (.ptr b 0):=λ f=>by rw[xz (qy (by rw[f.ah _ (by omega) p3,p2];exact hp))];rfl
 have P:∀{a:ar},Fr d H1 a->Op.ae [.ptr q 0] a=some (.int .i64 line):=λ f=>by rw[xz (qy (by rw[f.ah _ (by omega) G,F];exact hq))];rfl
 have lb:∀{a:ar}(k:Nat),Fr d H1 a->Op.ae [.ptr b k] a=(EG c sv)[k]?:=λ k f=>xz (qy (by rw[f.ah _ (by omega) U,T];exact g.row)) k;have j:=Fr.refl (W:=d) H1
 by_cases hl:line<0
 .simp only[aa,bc,w0,lp j,yq,P j,hl];exact⟨d,Fr.refl _,λ b hb=>⟨r b hb,.inl hb⟩,.inl (by unfold pq;rw[qr hl];exact m)⟩
 have D:(pq c sv line)=(List.range c.ways).map λ k=>[eA sv (c.fr line+k)]:=by unfold pq;rw[qo hl]
 rw[D]at step⊢;rw[xp,j0];have l0:Op.ae [.ptr b 0] H1=some (.int .i64 (c.fE:Int)):=lb 0 j;have l1:Op.ae [.ptr b 1] H1=some (.int .i64 (c.ways:Int)):=lb 1 j;have rm:Op.bin .rem [.int .i64 line,.int .i64 (c.fE:Int)]=some (.int .i64 ((line.toNat % c.fE:Nat):Int)):=by
  have:=e.s0;obtain⟨n,rfl⟩:=z4 (Ik.1 hl);rw[tq .i64 _ _ (by omega)];rfl
 have N:line.toNat % c.fE<c.fE:=Nat.mod_lt _ e.s0;have h8:=g.s8;have X:=g.w4;have B:(line.toNat % c.fE)*c.ways<=7*4:=Nat.mul_le_mul (by omega) X;have wm:aj .i64 (((line.toNat % c.fE:Nat):Int)*(c.ways:Int))=((c.fr line:Nat):Int):=by
  rw[<-Int.natCast_mul];exact js (by omega) (by omega)
 have L:c.fr line<=28:=B;simp only[aa,bc,w0,lp j,yq,qn,P j,hl,w6,l0,l1,rm,wm];refine de.intro (λ n E a=>∃(i:Nat)(V:Nat->Prop),E=[(27,.int .i64 (i:Int)),(26,.int .i64 (c.ways:Int)),(4,.int .i64 ((c.fr line:Nat):Int)),(0,.fn (.yield Y) [] []),(1,.ptr p 0)]/\n=c.ways-i/\i<=c.ways/\Mq R d H1 a i V) ?_ ?_
 .exact ⟨_,_,⟨0,d,rfl,rfl,xy _,⟨m,λ b hb=>⟨r b hb,.inl hb⟩,Fr.refl _⟩⟩,by simp only[aa,bc]⟩
 rintro n E a ⟨i,V,rfl,rfl,hi,hI⟩;rcases xq i c.ways with t|hge
 .have z:(i:Int)<(c.ways:Int):=by omega
  have l2:Op.ae [.ptr b 2] a=some sv:=lb 2 hI.fr;have wi:aj .i64 (((c.fr line:Nat):Int)+(i:Int))=((c.fr line+i:Nat):Int):=by rw[js (by omega) (by omega)];omega
  have ix:=g.ix (e.lf line t);obtain⟨bb,K,y,hr,Z,s,ht,hs⟩:=step i [eA sv (c.fr line+i)] (by rw[xj,yg t];rfl) V a hI.hR hI.hV (hI.fr.mono λ _ _ q=>.inl q);have l:Fr d H1 K:=hI.fr.trans Z λ b q=>(hI.hV b q).2;have o:∀b,y b->b<K.au/\(d b\/H1.au<=b):=λ b q=>⟨(s b q).1,(s b q).2.elim (λ w=>(hI.hV b w).2) λ w=>.inr (xu hI.fr.au w)⟩
  have wj:aj .i64 ((i:Int)+1)=((i+1:Nat):Int):=by rw[js (by omega) (by omega)];omega
  simp only[aa,bc,u,z,I,lp hI.fr,qn,l2,wi,ix];refine C3.xV hr ?_;cases bb with
  |true =>
   simp only[aa,bc,J,wj];exact⟨_,_,⟨i+1,y,rfl,rfl,by omega,⟨ht rfl,o,l⟩⟩,by simp only[aa,bc],by omega⟩
  |false =>
   simp only[aa,bc];exact⟨y,l.mono λ _ _ q=>.inl q,o,.inr (hs rfl)⟩
 .have z:¬(i:Int)<(c.ways:Int):=by omega
  have C:i=c.ways:=by omega
  simp only[aa,bc,u,z];exact⟨V,hI.fr.mono λ _ _ q=>.inl q,hI.hV,.inl (by rw[<-C];exact hI.hR)⟩
def xe3{H:ar}(b:Nat)(line:Int):za M sI [.ptr b 0,.int .i64 line] H λ v H'=>v=.fn (.func KB) [] [.ptr H.au 0,.ptr (H.au+1) 0]/\H'=(H.alloc (OR [.ptr b 0] AH)).alloc (OR [.int .i64 line] cK):=by
 refine q45 ?_;obtain⟨H1,d,-,n1,-⟩:=bX H (OR [.ptr b 0] AH);have ca:AV.cells (.ptr b 0)=[.ptr b 0]:=rfl;have a:AV.cells (.int .i64 line)=[.int .i64 line]:=rfl;have mk:Op.bD KB 0 [.ptr H.au 0,.ptr (H.au+1) 0]=some (.fn (.func KB) [] [.ptr H.au 0,.ptr (H.au+1) 0]):=rfl;simp only[aa,bc,q46,ca,a,<-d,n1];rfl
structure AtI(c:Ca)(line:Int)(t:Nat)(i:Nat)(V:Nat->Prop)(Hx:ar):Prop where
 vt:V t
 g:Hx.get t=some (OR [.nilp] kh)
 lt:t<Hx.au
 no:∀k,k<i->c.ny line k=false
structure Y7(c:Ca)(sv:AV)(line:Int)(t:Nat)(V:Nat->Prop)(Hx:ar):Prop where
 vt:V t
 ex:∃k,k<c.ways/\dq (c.ny line) c.ways=some k/\Hx.get t=some (OR [eA sv (c.fr line+k)] kh)
 lt:t<Hx.au
def uQ(c:Ca)(sv:AV)(line:Int):AV:=match c.pos line with
 |none=>.nilp
 |some i=>eA sv i
def Wk{H:ar}{b:Nat}{sv:AV}{c:Ca}{lines line:Int}(hc:dP H b sv c)(s:CI lines c):za M LH [.ptr b 0,.int .i64 line] H λ v H'=>v=uQ c sv line/\Fr Em H H':=by
 refine q7r ?_;obtain⟨w0,wa,U,w2,w7⟩:=YN M ⟨none,LH⟩;obtain⟨H1,e1,f1,n1,-⟩:=bX H (OR [.int .i64 line] cK);obtain⟨p,Z,I,-,-⟩:=bX H1 (OR [.nilp] kh);have f2:Fr Em H p:=f1.trans I λ _ q=>q.elim;have n2:p.au=H.au+2:=by rw[Z,xx,n1]
 have g1:p.get H.au=some (OR [.int .i64 line] cK):=by rw[I.ah _ (by omega) id,e1,xf]
 have g2:p.get (H.au+1)=some (OR [.nilp] kh):=by rw[Z,<-n1,xf]
 have cl:AV.cells (.int .i64 line)=[.int .i64 line]:=rfl;have l1:Op.ae [.ptr H.au 0] p=some (.int .i64 line):=xz (qy g1) 0;simp only[aa,bc,w0,cl,<-e1,<-Z,n1,w2,l1];refine C3.q (xe3 (M:=M) b line) λ v H5⟨hv,R⟩=>?_;obtain⟨X,e3,f23,-,-⟩:=bX p (OR [.ptr b 0] AH);obtain⟨E,e4,J,-,-⟩:=bX X (OR [.int .i64 line] cK);rw[<-e3,<-e4]at R;rw[hv,R];have r:Fr Em p E:=f23.trans J λ _ q=>q.elim;have f4:Fr Em H E:=f2.trans r λ _ q=>q.elim;have n3:X.au=H.au+3:=by rw[e3,xx,n2]
 have n4:E.au=H.au+4:=by rw[e4,xx,n3]
 have g3:E.get p.au=some (OR [.ptr b 0] AH):=by rw[J.ah _ (by omega) id,e3,xf]
 have g4:E.get (p.au+1)=some (OR [.int .i64 line] cK):=by rw[show p.au+1=X.au by omega,e4,xf]
 have L:=hc.em f4;have hlt:=hc.lt;have hsb:aH sv<H.au:=hc.sl.lt
 have kp:∀{j:ar},Fr (λ x=>(x=H.au+1)\/False) E j->dP j b sv c/\Op.ae [.ptr H.au 0] j=some (.int .i64 line):=λ f =>
  ⟨L.fr f (λ q=>q.elim (λ q=>by omega) id) (λ q=>q.elim (λ q=>by omega) id),xz (qy (by rw[f.ah H.au (by omega) (λ q=>q.elim (λ q=>by omega) id),r.ah _ (by omega) id];exact g1)) 0⟩
 have res:∀{d:Nat}{j:ar}{x:AV},j.get (H.au+1)=some (OR [x] kh)->d≠H.au+1->Op.ae [.ptr (H.au+1) 0] (j.set d (.deferred none))=some x:=λ g hd=>by
  rw[xz (qy (by rw[yk hd];exact g))];rfl
 refine jB.iter (fn:=QJ) (lp:=Om) (pa:=T3 0) (pb:=Uc 0) q44 qpp.1 qpp.2 (by decide) q24 q25
  (xa8 (M:=M) L s g3 g4 (by omega) (by omega)) (λ i V j=>AtI c line (H.au+1) i V j) (λ e V j=>e=.ret/\Y7 c sv line (H.au+1) V j) (λ x=>x=H.au+1) (qg _) ?_ ?_ ?_ ?_ ?_ ?_ ?_ ?_
 .rintro x ((q|q|q)|q)
  .exact ⟨by omega,rfl,by omega⟩
  .exact ⟨by omega,rfl,by omega⟩
  .exact ⟨by omega,rfl,by omega⟩
  .exact q.elim
 .exact λ x F=>by omega
 .exact ⟨rfl,by rw[r.ah _ (by omega) id];exact g2,by omega,λ k hk=>by omega⟩
 .exact λ i V Ha Hb h hs hn=>⟨h.vt,by rw[hs _ h.vt];exact h.g,qj h.lt hn,h.no⟩
 .rintro e V Ha Hb ⟨he,h⟩ hs hn;obtain⟨k,k1,S,k3⟩:=h.ex;exact⟨he,h.vt,⟨k,k1,S,by rw[hs _ h.vt];exact k3⟩,qj h.lt hn⟩
 .intro a i lr lb x F hL2 V l m hV N hnL hL6 hgL;unfold pq at F;split at F
  .simp at F
  rename_i hl;rw[xj,xl]at F;obtain⟨y,P,rfl⟩:=F;have w:i<c.ways:=by have:=(qk.1 P).1;rw[j0]at this;exact this
  rw[yg w]at P;injection P with P;subst P
  refine⟨_,rfl,?_⟩;obtain⟨-,wa,U,-⟩:=YN M ⟨some a,LH⟩;simp only[aa,bc,wa,Fx];refine⟨hgL,?_⟩;have fx:Fr (On a) l (l.set a lb):=(Fr.refl l).set (W:=On a) (.inl rfl) _;have gL:(l.set a lb).get a=some lb:=xc ..;have T:(l.set a lb).au=l.au:=rfl
  obtain⟨hc6,lq6⟩:=kp N;have h7:dP (l.set a lb) b sv c:=hc6.fr fx (λ(q:b=a)=>by omega) (λ(q:aH sv=a)=>by omega);have Q:Op.ae [.ptr H.au 0] (l.set a lb)=some (.int .i64 line):=by
   have hg:(l.set a lb).get H.au=l.get H.au:=by rw[yk (by omega)]
   exact xz (qy (by rw[hg,N.ah H.au (by omega) (λ q=>q.elim (λ q=>by omega) id),r.ah _ (by omega) id];exact g1)) 0
  have K:a≠H.au+1:=λ q=>hnL (by rw[q];exact m.vt)
  have O:(l.set a lb).get (H.au+1)=some (OR [.nilp] kh):=by rw[yk K];exact m.g
  generalize l.set a lb=H7 at *;have hi:=s.lf line w;obtain⟨e,he⟩:∃e,e=c.en (c.fr line+i):=⟨_,rfl⟩
  have l0:Op.ae [.ptr (aH sv) (cG 21 sv (c.fr line+i))] H7=some (.int .i64 e.line):=by rw[he];exact h7.wF hi
  have l1:Op.ae [.ptr (aH sv) (cG 21 sv (c.fr line+i)+1)] H7=some (.int .i64 e.st):=by rw[he];exact h7.ld hi (k:=1) (by decide)
  have n:c.ny line i=(e.st != 0 && e.line == line):=by rw[he];rfl
  have stay:c.ny line i=false->NT (λ V j=>AtI c line (H.au+1) (i+1) V j) (λ e V j=>e=.ret/\Y7 c sv line (H.au+1) V j) a lb V l .normal [] [] H7:=λ R =>
   ⟨rfl,gL,V,λ b hb=>⟨by rw[T];exact(hV b hb).1,.inl hb⟩,fx.mono λ x _ q=>.inr q,.inl ⟨rfl,m.vt,O,by rw[T];exact m.lt,λ k hk=>by
    by_cases q:k=i
    .rw [q];exact R
    .exact m.no k (by omega)⟩⟩
  by_cases G:e.st=0
  .simp only[aa,bc,U,qn,l1,xb G];exact stay (by rw[n,G];rfl)
  by_cases z:e.line=line
  .have st:=Mf O (u:=eA sv (c.fr line+i)) rfl;simp only[aa,bc,U,qn,l1,G,l0,Q,xb z,st];refine⟨rfl,?_,V,?_,?_,.inr ⟨trivial,rfl,m.vt,⟨i,w,L3 w (by rw[n];simp[G,z]) m.no,xc ..⟩,?_⟩⟩
   .rw [yk (mO K)];exact gL
   .exact λ b hb=>⟨by show b<H7.au;rw[T];exact(hV b hb).1,.inl hb⟩
   .exact (fx.mono λ x _ q=>.inr q).set (.inl (.inl m.vt)) _
   .show H.au+1<H7.au;rw[T];exact m.lt
  .simp only[aa,bc,U,qn,l1,G,l0,Q,z];exact stay (by rw[n];simp[z])
 .intro d V Y hd1 hd2 C B A m;have st:=Mf m.g (u:=.nilp) rfl;have t:d≠H.au+1:=λ q=>by have:=(A _ m.vt).2.2;omega
  have gd:(Y.set (H.au+1) (OR [.nilp] kh)).get d=some (.deferred (some [])):=by rw[yk (mO t)];exact C
  have rd:=res (d:=d) (xc Y (H.au+1) (OR [.nilp] kh)) t;have o:c.pos line=none:=by
   unfold Ca.pos;split
   .rfl
   .rename_i hl;have D:=m.no;unfold pq at D;rw[qo hl,xp,j0]at D;rw[Mp D];rfl
  simp only[aa,bc,w7,st,Ke,rd];refine⟨gd,?_,?_⟩
  .unfold uQ;rw[o]
  .exact (((f4.trans (W':=λ x=>x=H.au+1\/False) B λ x q=>q.elim (λ q=>.inr (by omega)) False.elim).set (.inr (by omega)) _).set (.inr (by omega)) _)
 .rintro e d V Y hj hd1 hd2 C B A ⟨he,hS⟩;subst he;obtain⟨k,k1,S,k3⟩:=hS.ex;have t:d≠H.au+1:=λ q=>by have:=(A _ hS.vt).2.2;omega
  have rd:=res (d:=d) k3 t;have o:uQ c sv line=eA sv (c.fr line+k):=by
   unfold uQ Ca.pos
   by_cases hl:line<0
   .exfalso;obtain⟨G,z,-⟩:=Lf S;unfold Ca.ny at z;simp only[xt,bne_iff_ne,ne_eq,EO]at z;have:=(s.ok _ (s.lf line k1) z.1).2.1;omega
   .rw [qo hl,S];rfl
  simp only[aa,bc,Ke,rd];refine⟨C,o.symm,?_⟩;exact((f4.trans (W':=λ x=>x=H.au+1\/False) B λ x q=>q.elim (λ q=>.inr (by omega)) False.elim).set (.inr (by omega)) _)
end Go.Am
namespace Go.Am
open Go.Proofs Ca
variable{M:ak}[MK M]
def gK{H:ar}{b e n:Nat}{l x:List AV}(h:H.get b=some (OR l e))(hl:l.length=n)(d:x.length=n)(a:aJ x=true):Op.store n [.ptr b 0,.agg x] H=some (.undef,H.set b (OR x e)):=by
 have st:=t9 h (o:=0) (n:=n) (v:=.agg x) (by rw[zu];exact d) (by omega) (by rw[zu];exact a);rw[st,zu,yz,zw,je (by omega),ze]
def fp{H:ar}{b e n:Nat}{l:List AV}(h:H.get b=some (OR l e))(hl:l.length=n):Op.aq n [.ptr b 0] H=some (.agg l):=by
 rw[rq (qy h) (by omega),ym,zg (by omega)]
def pN(l:List AV):Op.build l [] []=some (.agg l):=rfl
def eZ:[AV.int .i64 0,.int .i64 0,.bool false,.bool false,.int .u64 0,.int .u64 0,.int .u64 0,.int .u64 0,.int .u64 0,.int .u64 0,.int .u64 0,.int .u64 0,.int .u64 0,.int .u64 0,.int .u64 0,.int .u64 0,.int .u64 0,.int .u64 0,.int .u64 0,.int .u64 0,.int .i64 0]=aB .zero:=rfl
abbrev dS(d:L8):List AV:=d.l.map uW
def wn(d:L8):(dS d).length=8:=by simp[dS,d.h]
def xY(d:L8):aJ (dS d)=true:=by rw[yj];simp[dS,av]
def lZ:[AV.int .u64 0,.int .u64 0,.int .u64 0,.int .u64 0,.int .u64 0,.int .u64 0,.int .u64 0,.int .u64 0]=dS .zero:=rfl
def mF(b:Nat)(sv:AV):Nat->Prop:=λ x=>x=b\/x=aH sv
section
variable{H:ar}{b:Nat}{sv:AV}{c:Ca}{lines line:Int}
def dP.set(h:dP H b sv c){i:Nat}{e:En}{H':ar}(hs:gB aB xk 21 H' sv (c.sl.set i e))(f:Fr (On (aH sv)) H H'):dP H' b sv (c.set i e) :=
 ⟨by rw[f.ah _ h.lt (λ q:b=aH sv=>h.ne q.symm)];exact h.row,qj h.lt f.au,hs,h.ne,h.s8,h.w4,h.us⟩
def dP.cS(h:dP H b sv c){i:Nat}(g:i<c.sl.length){j:Nat}(k:j<21){u:AV}(hu:av u=true){e:En}(he:aB e=(aB (c.en i)).set j u):∃H',Op.store 1 [.ptr (aH sv) (cG 21 sv i+j),u] H=some (.undef,H')/\dP H' b sv (c.set i e)/\Fr (On (aH sv)) H H':=by
 obtain⟨H',d,f,a⟩:=h.sl.yK jj (Er g) k hu he;exact⟨H',d,h.set f a,a⟩
def dP.RK(h:dP H b sv c){i:Nat}(g:i<c.sl.length){j n:Nat}{u:AV}(hu:u.cells.length=n)(ho:aJ u.cells=true)(k:j+n<=21){e:En}(he:aB e=(aB (c.en i)).take j++u.cells++(aB (c.en i)).drop (j+n)):∃H',Op.store n [.ptr (aH sv) (cG 21 sv i+j),u] H=some (.undef,H')/\dP H' b sv (c.set i e)/\Fr (On (aH sv)) H H':=by
 obtain⟨H',d,f,a⟩:=h.sl.G2 jj (Er g) hu ho k he;exact⟨H',d,h.set f a,a⟩
def dP.Ea(h:dP H b sv c){i:Nat}(g:i<c.sl.length)(e:En):∃H',Op.store 21 [.ptr (aH sv) (cG 21 sv i),.agg (aB e)] H=some (.undef,H')/\dP H' b sv (c.set i e)/\Fr (On (aH sv)) H H':=by
 obtain⟨H',d,f,a⟩:=h.sl.PM jj xO (Er g) e;exact⟨H',d,h.set f a,a⟩
def dP.stU(h:dP H b sv c){u:Int}(hu:0<=u/\u<=1000000):∃H',Op.store 1 [.ptr b 3,.int .i64 u] H=some (.undef,H')/\dP H' b sv {c with us:=u}/\Fr (On b) H H':=by
 have st:=t9 h.row (o:=3) (n:=1) (v:=.int .i64 u) rfl (by simp[EG]) rfl;have e:(EG c sv).take 3++(AV.int .i64 u).cells++(EG c sv).drop (3+1)=EG {c with us:=u} sv:=rfl;rw[e]at st;have f:Fr (On b) H (H.set b (OR (EG {c with us:=u} sv) TR)):=(Fr.refl H).set (W:=On b) (.inl rfl) _;exact⟨_,st,⟨xc ..,h.lt,h.sl.fr f λ(q:aH sv=b)=>h.ne q,h.ne,h.s8,h.w4,hu⟩,f⟩
def dP.Q3(h:dP H b sv c)(k:Nat):Op.ae [.ptr b k] H=(EG c sv)[k]?:=xz (qy h.row) k
def dP.Hq(h:dP H b sv c){i:Nat}(a:i<c.sl.length):Op.aq 21 [.ptr (aH sv) (cG 21 sv i)] H=some (.agg (aB (c.en i))):=(h.sl.sl jj).aq jj (by decide) (Er a)
def dP.cells(h:dP H b sv c){i:Nat}(a:i<c.sl.length){j n:Nat}(m:j+n<=21):Op.aq n [.ptr (aH sv) (cG 21 sv i+j)] H=some (.agg (((aB (c.en i)).drop j).take n)):=by
 obtain⟨sb,e,l,f⟩:=h.sl;have hb:aH sv=sb:=by rw[e];rfl
 have ho:cG 21 sv i=i*21:=by rw[e];simp[cG]
 have k:(i+1)*21<=c.sl.length*21:=jv _ a;have hl:=GY jj c.sl;rw[hb,ho,rq (qy f) (by omega)];have hm:=ZP (L:=c.sl.flatMap aB) (E:=aB (c.en i)) (p:=i*21) (size:=21) (jj _) (by omega) (λ r hr=>Hl jj c.sl (Er a) hr);have g:((c.sl.flatMap aB).take (i*21)).length=i*21:=by rw[j6];omega
 have d:(c.sl.flatMap aB).drop (i*21+j)=(aB (c.en i)).drop j++(c.sl.flatMap aB).drop (i*21+21):=by
  conv=>lhs;rw[hm]
  rw[wv,g,je (by omega),zw,yp,yn (by rw[jj];omega)]
 rw[d,jw (by rw[kr,jj];omega)]
def dP.ldD(h:dP H b sv c){i:Nat}(a:i<c.sl.length):Op.aq 8 [.ptr (aH sv) (cG 21 sv i+4)] H=some (.agg (dS (c.en i).d)):=by
 rw[h.cells a (by decide)];have:((aB (c.en i)).drop 4).take 8=dS (c.en i).d:=by
  show((dS (c.en i).d++(dS (c.en i).o ++ [AV.int .i64 (c.en i).u]))).take 8=_;rw[List.take_left' (wn _)]
 rw[this]
def dP.ldO(h:dP H b sv c){i:Nat}(a:i<c.sl.length):Op.aq 8 [.ptr (aH sv) (cG 21 sv i+12)] H=some (.agg (dS (c.en i).o)):=by
 rw[h.cells a (by decide)];have:((aB (c.en i)).drop 12).take 8=dS (c.en i).o:=by
  have e:(aB (c.en i)).drop 12=(dS (c.en i).d++(dS (c.en i).o ++ [AV.int .i64 (c.en i).u])).drop 8:=rfl;rw[e,List.drop_left' (wn _),List.take_left' (wn _)]
 rw[this]
def Gb(c:Ca)(sv:AV)(line st:Int):AV:=match c.kM line st with
 |none=>.tuple [.nilp,.int .i64 20]
 |some i=>.tuple [eA sv i,.int .i64 0]
def K1(k:dP H b sv c)(e:CI lines c)(line st:Int):za M Wm [.ptr b 0,.int .i64 line,.int .i64 st] H λ v H'=>v=Gb c sv line st/\Fr Em H H':=by
 refine q7s ?_;obtain⟨w0,n,h,a,f⟩:=q7t M ⟨none,Wm⟩;simp only[aa,bc,w0,n,yq,h];refine C3.q (Wk (M:=M) (line:=line) k e) λ v H1⟨m,d⟩=>?_;rw[m];unfold uQ Gb kM;cases hp:c.pos line with
 |none =>
  simp only[aa,bc,a,Pd];exact d
 |some i =>
  obtain⟨-,l,-⟩:=e.bt hp;have l1:Op.ae [.ptr (aH sv) (cG 21 sv i+1)] H1=some (.int .i64 (c.en i).st):=(k.em d).ld l (by decide)
  by_cases g:st=0
  .subst g;simp only[aa,bc,a,yq,f];exact d
  by_cases j:(c.en i).st=st
  .simp only[aa,bc,a,yq,g,qn,l1,xb j,f];exact d
  .simp only[aa,bc,a,yq,g,qn,l1,j];exact d
abbrev CaQ(H:ar)(b:Nat)(sv:AV)(c':Ca)(r:AV):AV->ar->Prop:=λ v H'=>v=r/\dP H' b sv c'/\Fr (mF b sv) H H'
def uj{H1 a:ar}(f:Fr (On (aH sv)) H1 a):Fr (mF b sv) H1 a:=f.mono λ _ _ q=>.inr q
def frB{H1 a:ar}(f:Fr (On b) H1 a):Fr (mF b sv) H1 a:=f.mono λ _ _ q=>.inl q
def qY{H1 a:ar}(f:Fr Em H1 a):Fr (mF b sv) H1 a:=f.mono λ _ _ q=>q.elim
def tR{H1 a d:ar}(f:Fr (mF b sv) H1 a)(g:Fr (mF b sv) a d):Fr (mF b sv) H1 d:=f.trans g λ _ q=>.inl q
def Xx(a:dP H b sv c)(hu:c.us+1<=1000000){i:Nat}(n:i<c.sl.length):za M ZG [.ptr b 0,eA sv i] H λ _ H'=>dP H' b sv (c.use i)/\Fr (mF b sv) H H':=by
 refine q47 ?_;have l3:Op.ae [.ptr b 3] H=some (.int .i64 c.us):=a.Q3 3;have:=a.us;have p:aj .i64 (c.us+1)=c.us+1:=js (by omega) (by omega);obtain⟨H1,s1,g,h⟩:=a.stU (u:=c.us+1) (by omega);have f:Op.ae [.ptr b 3] H1=some (.int .i64 (c.us+1)):=g.Q3 3;obtain⟨q,s2,l,k⟩:=g.cS n (j:=20) (by decide) (u:=.int .i64 (c.us+1)) rfl (e:={c.en i with u:=c.us+1}) (by
  show aB {c.en i with u:=c.us+1} = (aB (c.en i)).set 20 _;obtain⟨line,st,r,w,⟨d,m⟩,⟨o,ho⟩,u⟩:=c.en i
  match d,m,o,ho with
  |[d0,d1,d2,d3,d4,d5,d6,d7],_,[o0,o1,o2,o3,o4,o5,o6,o7],_=>rfl)
 simp only[aa,bc,q48,qn,l3,p,s1,f,s2];exact⟨l,tR (frB h) (uj k)⟩
def rQ(c:Ca)(line:Int):AV:=match c.find line with
 |none=>.tuple [.agg (aB .zero),.bool false]
 |some e=>.tuple [.agg (aB e),.bool true]
def RP(k:dP H b sv c)(d:CI lines c)(line:Int):za M Tz [.ptr b 0,.int .i64 line] H λ v H'=>v=rQ c line/\Fr Em H H':=by
 refine q2y ?_;obtain⟨w0,w4,f⟩:=q2z M ⟨none,Tz⟩;obtain⟨H1,l,g,n1,m⟩:=bX H (OR (aB .zero) xk);simp only[aa,bc,w0,eZ,<-l];refine C3.q (Wk (M:=M) (line:=line) (k.em g) d) λ v e⟨o,h⟩=>?_;rw[o];have j:e.get H.au=some (OR (aB .zero) xk):=by rw[h.ah _ (by omega) id];exact m
 have a:Fr Em H e:=g.trans h λ _ q=>q.elim;unfold uQ rQ Ca.find;cases hp:c.pos line with
 |none =>
  have st:=gK j (jj _) (jj .zero) (xO _);have ld:=fp (xc e H.au (OR (aB .zero) xk)) (jj _);simp only[aa,bc,w4,Pd,eZ,pN,st,ld];exact⟨rfl,a.set (.inr (qg _)) _⟩
 |some i =>
  obtain⟨-,n,-⟩:=d.bt hp;have le:=(k.em a).Hq n;have st:=gK j (jj _) (jj (c.en i)) (xO _);have ld:=fp (xc e H.au (OR (aB (c.en i)) xk)) (jj _);simp only[aa,bc,w4,yq,f,qn,le,st,ld];exact⟨rfl,a.set (.inr (qg _)) _⟩
end
end Go.Am
namespace Go.Am
open Go.Proofs Ca
variable{M:ak}[MK M]
def Pa(e:En)(k:Nat)(hk:k<8)(y:Int):aB {e with d:=e.d.put k y} = (aB e).set (4+k) (uW y):=by
 obtain⟨line,st,r,w,⟨d,a⟩,⟨o,ho⟩,u⟩:=e
 match d,a,o,ho with
 |[d0,d1,d2,d3,d4,d5,d6,d7],_,[o0,o1,o2,o3,o4,o5,o6,o7],_ =>
  rcases(show k=0\/k=1\/k=2\/k=3\/k=4\/k=5\/k=6\/k=7 by omega)with rfl|rfl|rfl|rfl|rfl|rfl|rfl|rfl<;>rfl
def JW(e:En)(k:Nat)(hk:k<8):(aB e)[4+k]? = some (uW (e.d.get k)):=by
 obtain⟨line,st,r,w,⟨d,a⟩,⟨o,ho⟩,u⟩:=e
 match d,a,o,ho with
 |[d0,d1,d2,d3,d4,d5,d6,d7],_,[o0,o1,o2,o3,o4,o5,o6,o7],_ =>
  rcases(show k=0\/k=1\/k=2\/k=3\/k=4\/k=5\/k=6\/k=7 by omega)with rfl|rfl|rfl|rfl|rfl|rfl|rfl|rfl<;>rfl
def IC(e:En)(x:L8):aB {e with d:=x} = (aB e).take 4++(AV.agg (dS x)).cells++(aB e).drop (4+8):=by
 obtain⟨line,st,r,w,⟨d,a⟩,⟨o,ho⟩,u⟩:=e
 match d,a,o,ho with
 |[d0,d1,d2,d3,d4,d5,d6,d7],_,[o0,o1,o2,o3,o4,o5,o6,o7],_=>rfl
def Ih(e:En)(x:L8):aB {e with o:=x} = (aB e).take 12++(AV.agg (dS x)).cells++(aB e).drop (12+8):=by
 obtain⟨line,st,r,w,⟨d,a⟩,⟨o,ho⟩,u⟩:=e
 match d,a,o,ho with
 |[d0,d1,d2,d3,d4,d5,d6,d7],_,[o0,o1,o2,o3,o4,o5,o6,o7],_ =>
  obtain⟨x,f⟩:=x
  match x,f with
  |[x0,x1,x2,x3,x4,x5,x6,x7],_=>rfl
section
variable{H:ar}{b:Nat}{sv:AV}{c:Ca}{lines line:Int}
def AN{a:Nat}(h:a<1000000):Op.bin .quo [.int .i64 (a:Int),.int .i64 8]=some (.int .i64 ((a / 8:Nat):Int)):=by
 rw[Px .i64 _ _ (by decide),Int.tdiv_eq_ediv_of_nonneg (by omega),js (by omega) (by omega)];rfl
def Oy{a:Nat}(h:a<1000000):Op.bin .rem [.int .i64 (a:Int),.int .i64 8]=some (.int .i64 ((a % 8:Nat):Int)):=ON (by decide)
def R1(i k:Nat)(hk:k<8):Op.aS 8 1 [.ptr (aH sv) (cG 21 sv i+4),.int .i64 (k:Int)]=some (.ptr (aH sv) (cG 21 sv i+(4+k))):=by
 have:=Me (len:=8) (size:=1) (b:=aH sv) (o:=cG 21 sv i+4) (k:=.i64) (j:=(k:Int)) (i:=k) rfl hk;rw[this,IV,vw]
def J3{i:Nat}(a:i<c.sl.length)(e:En):(c.set i e).en i=e:=by rw[zQ a,qr rfl]
def Rg(c:Ca)(i:Nat)(e e':En):(c.set i e).set i e'=c.set i e':=by unfold Ca.set;simp only[List.set_set]
def Ad{i:Nat}(a:i<c.sl.length):(c.use i).en i = {c.en i with u:=c.us+1}:=by
 show(c.set i {c.en i with u:=c.us+1}).en i=_;exact J3 a _
def wB(c:Ca)(a:Nat):AV:=match c.pos ((a / 8:Nat):Int)with
 |none=>.tuple [.int .u64 0,.int .i64 20]
 |some i=>.tuple [.int .u64 ((c.en i).d.get (a % 8)),.int .i64 0]
def um(p:dP H b sv c)(e:CI lines c)(hu:c.us+1<=1000000){a:Nat}(ha:a<1000000):za M Xn [.ptr b 0,.int .i64 (a:Int)] H (CaQ H b sv (c.word a).1 (wB c a)):=by
 refine q22 ?_;obtain⟨w0,u,l,f,m⟩:=q23 M ⟨none,Xn⟩;have n0:¬(a:Int)<0:=by omega
 have hk:a % 8<8:=Nat.mod_lt _ (by decide);simp only[aa,bc,w0,u,kX,n0,l,AN ha];refine C3.q (K1 (M:=M) p e ((a / 8:Nat):Int) 0) λ v H1⟨t,g⟩=>?_;rw[t];have n:=p.em g;unfold Gb wB Ca.word;rw[rE];cases hp:c.pos ((a / 8:Nat):Int)with
 |none =>
  have k:¬(20:Int)=0:=by decide
  simp only[aa,bc,xe,f,k];exact⟨rfl,n,qY g⟩
 |some i =>
  obtain⟨-,h,-⟩:=e.bt hp;have w:=xb (show(0:Int)=0 from rfl);simp only[aa,bc,xe,f,m];refine C3.q (Xx (M:=M) n hu h) λ _ r⟨o,s⟩=>?_;have j:i<(c.use i).sl.length:=by show i<(c.sl.set i _).length;rw[xg];exact h
  have ld:Op.ae [.ptr (aH sv) (cG 21 sv i+(4+a % 8))] r=some (uW ((c.en i).d.get (a % 8))):=by
   rw[o.ld j (by omega),Ad h,JW _ _ hk]
  simp only[aa,bc,Oy ha,qn,R1 i (a % 8) hk,ld];exact⟨rfl,o,tR (qY g) s⟩
def Ni(c:Ca)(a:Nat):AV:=match c.kM ((a / 8:Nat):Int) 2 with
 |none=>.int .i64 20
 |some _=>.int .i64 0
def YF(s:dP H b sv c)(f:CI lines c)(hu:c.us+1<=1000000){a:Nat}(ha:a<1000000)(y:Int):za M Vs [.ptr b 0,.int .i64 (a:Int),.int .u64 y] H (CaQ H b sv (c.put a y) (Ni c a)):=by
 refine q42 ?_;obtain⟨w0,B,n,g,o⟩:=q43 M ⟨none,Vs⟩;have n0:¬(a:Int)<0:=by omega
 have hk:a % 8<8:=Nat.mod_lt _ (by decide);simp only[aa,bc,w0,B,kX,n0,n,AN ha];refine C3.q (K1 (M:=M) s f ((a / 8:Nat):Int) 2) λ v H1⟨z,h⟩=>?_;rw[z];have p:=s.em h;unfold Gb Ni Ca.put;cases hp:c.kM ((a / 8:Nat):Int) 2 with
 |none =>
  have m:¬(20:Int)=0:=by decide
  simp only[aa,bc,xe,g,m];exact⟨rfl,p,qY h⟩
 |some i =>
  obtain⟨-,k,-⟩:=f.bt (vM hp).1;have E:=xb (show(0:Int)=0 from rfl);simp only[aa,bc,xe,g,o];refine C3.q (Xx (M:=M) p hu k) λ _ C⟨x,t⟩=>?_;have l:i<(c.use i).sl.length:=by show i<(c.sl.set i _).length;rw[xg];exact k
  obtain⟨D,A,r,w⟩:=x.cS l (j:=4+a % 8) (by omega) (u:=.int .u64 y) rfl (e:={(c.use i).en i with d:=((c.use i).en i).d.put (a % 8) y}) (Pa _ _ hk y);have e:(c.use i).set i {(c.use i).en i with d:=((c.use i).en i).d.put (a % 8) y} = {c with us:=c.us+1,sl:=c.sl.set i {c.en i with u:=c.us+1,d:=(c.en i).d.put (a % 8) y}}:=by
   rw[Ad k];unfold Ca.use Ca.set;simp only[List.set_set]
  rw[e]at r;simp only[aa,bc,Oy ha,qn,R1 i (a % 8) hk,A];exact⟨rfl,r,tR (tR (qY h) t) (uj w)⟩
def xag(s:dP H b sv c)(a:CI lines c)(line:Int)(wr:Bool):za M Ut [.ptr b 0,.int .i64 line,.bool wr] H λ _ H'=>dP H' b sv (c.mark line wr)/\Fr (mF b sv) H H':=by
 refine q20 ?_;obtain⟨w0,D,B,E,k,p,l⟩:=q21 M ⟨none,Ut⟩;have m:¬(20:Int)=0:=by decide
 have K:=xb (show(0:Int)=0 from rfl);cases wr with
 |false =>
  simp only[aa,bc,w0,D];refine C3.q (K1 (M:=M) s a line 0) λ v H1⟨z,f⟩=>?_;rw[z];have g:=s.em f;unfold Gb Ca.mark;rw[qo (by decide)];cases hp:c.kM line 0 with
  |none =>
   simp only[aa,bc,xe,E,m,p];exact⟨g,qY f⟩
  |some i =>
   obtain⟨-,h,-⟩:=a.bt (vM hp).1;obtain⟨F,A,x,t⟩:=g.cS h (j:=2) (by decide) (u:=.bool true) rfl (e:={c.en i with r:=true}) rfl;simp only[aa,bc,xe,E,qn,A,p];exact⟨x,tR (qY f) (uj t)⟩
 |true =>
  simp only[aa,bc,w0,D,B];refine C3.q (K1 (M:=M) s a line 2) λ v H1⟨z,f⟩=>?_;rw[z];have g:=s.em f;unfold Gb Ca.mark;rw[qr rfl];cases hp:c.kM line 2 with
  |none =>
   simp only[aa,bc,xe,k,m,l];exact⟨g,qY f⟩
  |some i =>
   obtain⟨-,h,-⟩:=a.bt (vM hp).1;have l3:Op.ae [.ptr (aH sv) (cG 21 sv i+3)] H1=some (.bool (c.en i).w):=g.ld h (by decide);dsimp only;cases hw:(c.en i).w with
   |true =>
    rw[qr rfl];rw[hw]at l3;simp only[aa,bc,xe,k,qn,l3,l];exact⟨g,qY f⟩
   |false =>
    rw[qo (by decide)];rw[hw]at l3;obtain⟨F,A,x,t⟩:=g.cS h (j:=3) (by decide) (u:=.bool true) rfl (e:={c.en i with w:=true}) rfl;have y:i<(c.set i {c.en i with w:=true}).sl.length:=by show i<(c.sl.set i _).length;rw[xg];exact h
    obtain⟨J,I,C,G⟩:=x.RK y (j:=12) (n:=8) (u:=.agg (dS (c.en i).d)) (by rw[zu];exact wn _) (by rw[zu];exact xY _) (by decide) (e:={(c.set i {c.en i with w:=true}).en i with o:=(c.en i).d}) (Ih _ _);rw[J3 h,Rg]at C;simp only[aa,bc,xe,k,qn,l3,g.ldD h,A,I,l];exact⟨C,tR (tR (qY f) (uj t)) (uj G)⟩
def rY(c:Ca)(line:Int):AV:=.tuple [.agg (dS (c.cO line).2),match c.kM line 2 with|none=>.int .i64 20|some _=>.int .i64 0]
def xb2(g:dP H b sv c)(h:CI lines c)(line:Int):za M VN [.ptr b 0,.int .i64 line] H λ v H'=>v=rY c line/\dP H' b sv (c.cO line).1/\Fr (mF b sv) H H':=by
 refine qvu ?_;obtain⟨w0,w4,p⟩:=qvv M ⟨none,VN⟩;have o:¬(20:Int)=0:=by decide
 have G:=xb (show(0:Int)=0 from rfl);obtain⟨H1,x,r,n1,z⟩:=bX H (OR (dS .zero) k9);have C:=g.lt;have D:aH sv<H.au:=g.sl.lt
 simp only[aa,bc,w0,lZ,<-x];refine C3.q (K1 (M:=M) (g.em r) h line 2) λ v k⟨E,l⟩=>?_;rw[E];have a:Fr Em H k:=r.trans l λ _ q=>q.elim;have B:=g.em a;have t:k.get H.au=some (OR (dS .zero) k9):=by rw[l.ah _ (by omega) id];exact z
 unfold Gb rY Ca.cO;cases hp:c.kM line 2 with
 |none =>
  have st:=gK t (wn _) (wn .zero) (xY _);have ld:=fp (xc k H.au (OR (dS .zero) k9)) (wn _);have fs:Fr Em H (k.set H.au (OR (dS .zero) k9)):=a.set (.inr (qg _)) _;simp only[aa,bc,xe,w4,o,lZ,pN,st,ld];exact⟨g.em fs,qY fs⟩
 |some i =>
  obtain⟨-,m,-⟩:=h.bt (vM hp).1;obtain⟨f,F,w,s⟩:=B.cS m (j:=1) (by decide) (u:=.int .i64 1) rfl (e:={c.en i with st:=1}) rfl;have n:i<(c.set i {c.en i with st:=1}).sl.length:=by show i<(c.sl.set i _).length;rw[xg];exact m
  have l3:=w.ldD n;rw[J3 m]at l3;have n2:=l.au
  have A:f.get H.au=some (OR (dS .zero) k9):=by rw[s.ah _ (by omega) (λ(q:H.au=aH sv)=>by omega)];exact t
  have st:=gK A (wn _) (wn (c.en i).d) (xY _);have ld:=fp (xc f H.au (OR (dS (c.en i).d) k9)) (wn _);have y:Fr (On H.au) f (f.set H.au (OR (dS (c.en i).d) k9)):=(Fr.refl f).set (W:=On H.au) (.inl rfl) _;simp only[aa,bc,xe,w4,p,qn,F,l3,st,ld];exact⟨w.fr y (λ(q:b=H.au)=>by omega) (λ(q:aH sv=H.au)=>by omega),(tR (qY a) (uj s)).set (.inr (qg _)) _⟩
def xav(h:dP H b sv c)(f:CI lines c)(line:Int)(x:L8):za M Xm [.ptr b 0,.int .i64 line,.agg (dS x)] H λ _ H'=>dP H' b sv (c.cH line x)/\Fr (mF b sv) H H':=by
 refine qt2 ?_;obtain⟨w0,w4,g⟩:=qt3 M ⟨none,Xm⟩;have o:¬(20:Int)=0:=by decide
 have N:=xb (show(0:Int)=0 from rfl);obtain⟨H1,A,r,n1,C⟩:=bX H (OR (dS x) k9);have F:=h.lt;have G:aH sv<H.au:=h.sl.lt
 simp only[aa,bc,w0,<-A];refine C3.q (K1 (M:=M) (h.em r) f line 1) λ v p⟨I,k⟩=>?_;rw[I];have a:Fr Em H p:=r.trans k λ _ q=>q.elim;have w:=h.em a;have t:p.get H.au=some (OR (dS x) k9):=by rw[k.ah _ (by omega) id];exact C
 unfold Gb Ca.cH;cases hp:c.kM line 1 with
 |none =>
  simp only[aa,bc,xe,w4,o,g];exact⟨w,qY a⟩
 |some i =>
  obtain⟨-,l,-⟩:=f.bt (vM hp).1;obtain⟨z,J,E,s⟩:=w.cS l (j:=1) (by decide) (u:=.int .i64 2) rfl (e:={c.en i with st:=2}) rfl;have m:i<(c.set i {c.en i with st:=2}).sl.length:=by show i<(c.sl.set i _).length;rw[xg];exact l
  obtain⟨L,K,y,B⟩:=E.RK m (j:=4) (n:=8) (u:=.agg (dS x)) (by rw[zu];exact wn _) (by rw[zu];exact xY _) (by decide) (e:={(c.set i {c.en i with st:=2}).en i with d:=x}) (IC _ _);rw[J3 l,Rg]at y;have n2:=k.au
  have D:z.get H.au=some (OR (dS x) k9):=by rw[s.ah _ (by omega) (λ(q:H.au=aH sv)=>by omega)];exact t
  simp only[aa,bc,xe,w4,qn,fp t (wn x),J,fp D (wn x),K,g];exact⟨y,tR (tR (qY a) (uj s)) (uj B)⟩
def xB(c:Ca)(line:Int):AV:=.tuple [.agg (aB (c.drop line).2),match c.kM line 0 with|none=>.int .i64 20|some _=>.int .i64 0]
def WG(h:dP H b sv c)(j:CI lines c)(line:Int):za M Tj [.ptr b 0,.int .i64 line] H λ v H'=>v=xB c line/\dP H' b sv (c.drop line).1/\Fr (mF b sv) H H':=by
 refine q2u ?_;obtain⟨w0,w4,s⟩:=q2v M ⟨none,Tj⟩;have r:¬(20:Int)=0:=by decide
 have S:=xb (show(0:Int)=0 from rfl);obtain⟨H1,B,u,n1,E⟩:=bX H (OR (aB .zero) xk);have K:=h.lt;have L:aH sv<H.au:=h.sl.lt
 simp only[aa,bc,w0,eZ,<-B];refine C3.q (K1 (M:=M) (h.em u) j line 0) λ v a⟨N,l⟩=>?_;rw[N];have d:Fr Em H a:=u.trans l λ _ q=>q.elim;have y:=h.em d;have n2:=l.au
 have w:a.get H.au=some (OR (aB .zero) xk):=by rw[l.ah _ (by omega) id];exact E
 unfold Gb xB Ca.drop;cases hp:c.kM line 0 with
 |none =>
  have st:=gK w (jj _) (jj .zero) (xO _);have ld:=fp (xc a H.au (OR (aB .zero) xk)) (jj _);have fs:Fr Em H (a.set H.au (OR (aB .zero) xk)):=d.set (.inr (qg _)) _;simp only[aa,bc,xe,w4,r,eZ,pN,st,ld];exact⟨h.em fs,qY fs⟩
 |some i =>
  obtain⟨-,z,-⟩:=j.bt (vM hp).1;obtain⟨f,C,m,R,F⟩:=bX a (OR (aB .zero) xk);have A:=gK F (jj _) (jj (c.en i)) (xO _);obtain⟨t,g⟩:∃X,X=f.set a.au (OR (aB (c.en i)) xk):=⟨_,rfl⟩
  rw[<-g]at A;have n:Fr (On a.au) f t:=by rw[g];exact(Fr.refl f).set (W:=On a.au) (.inl rfl) _
  have I:=(y.em m).fr n (λ(q:b=a.au)=>by omega) (λ(q:aH sv=a.au)=>by omega);obtain⟨e,P,J,o⟩:=I.Ea z .zero;have G:e.get a.au=some (OR (aB (c.en i)) xk):=by rw[o.ah _ (by rw[g];show a.au<f.au;omega) (λ(q:a.au=aH sv)=>by omega),g,xc]
  have O:=fp G (jj (c.en i));have p:e.get H.au=some (OR (aB .zero) xk):=by rw[o.ah _ (by rw[g];show H.au<f.au;omega) (λ(q:H.au=aH sv)=>by omega),n.ah _ (by omega) (λ(q:H.au=a.au)=>by omega),m.ah _ (by omega) id];exact w
  have Q:=gK p (jj _) (jj (c.en i)) (xO _);have ld:=fp (xc e H.au (OR (aB (c.en i)) xk)) (jj _);have D:Fr (On H.au) e (e.set H.au (OR (aB (c.en i)) xk)):=(Fr.refl e).set (W:=On H.au) (.inl rfl) _;have k:Fr (mF b sv) H t:=(tR (qY d) (qY m)).trans n λ x(q:x=a.au)=>.inr (by omega);simp only[aa,bc,xe,w4,s,qn,y.Hq z,eZ,<-C,A,pN,P,O,Q,ld];exact⟨J.fr D (λ(q:b=H.au)=>by omega) (λ(q:aH sv=H.au)=>by omega),(tR k (uj o)).set (.inr (qg _)) _⟩
end
end Go.Am
namespace Go.Am
open Go.Proofs Ca
variable{M:ak}[MK M]
def px(sv:AV)(o:Option Nat):AV:=match o with
 |none=>.nilp
 |some i=>eA sv i
def Dy(sv:AV)(o:Option Nat):av (px sv o)=true:=by cases o<;>rfl
def CC{a:ar}{t d e:Nat}{x:AV}{o:bH}(g:a.get t=some (OR [x] e))(h:d≠t):Op.ae [.ptr t 0] (a.set d o)=some x:=by
 have f:(a.set d o).get t=some (OR [x] e):=by rw[yk h];exact g
 exact xz (qy f) 0
structure VE(c:Ca)(sv:AV)(line:Int)(t u:Nat)(i:Nat)(V:Nat->Prop)(Hx:ar):Prop where
 vt:V t
 vu:V u
 g:Hx.get t=some (OR [.nilp] kh)
 gu:Hx.get u=some (OR [px sv ((c.iz line i).map (c.fr line + ·))] kh)
 lt:t<Hx.au
 Tv:u<Hx.au
 no:∀k,k<i->c.free line k=false
structure Tx(c:Ca)(sv:AV)(line:Int)(t:Nat)(V:Nat->Prop)(Hx:ar):Prop where
 vt:V t
 ex:∃k,k<c.ways/\dq (c.free line) c.ways=some k/\Hx.get t=some (OR [eA sv (c.fr line+k)] kh)
 lt:t<Hx.au
section
variable{H:ar}{b:Nat}{sv:AV}{c:Ca}{lines line:Int}
def xki(hc:dP H b sv c)(O:CI lines c)(hl:0<=line):za M Lu [.ptr b 0,.int .i64 line] H λ v H'=>v=px sv (c.room line)/\Fr Em H H':=by
 refine q28 ?_;obtain⟨w0,wa,S,w2,t,w3,n,w5,w7,w12⟩:=qpq M ⟨none,Lu⟩;obtain⟨H1,e1,f1,n1,-⟩:=bX H (OR [.nilp] kh);obtain⟨D,e2,Y,-,-⟩:=bX H1 (OR [.nilp] kh);have f2:Fr Em H D:=f1.trans Y λ _ q=>q.elim;have n2:D.au=H.au+2:=by rw[e2,xx,n1]
 have g1:D.get H.au=some (OR [.nilp] kh):=by rw[Y.ah _ (by omega) id,e1,xf]
 have g2:D.get (H.au+1)=some (OR [.nilp] kh):=by rw[e2,<-n1,xf]
 simp only[aa,bc,w0,<-e1,w2,w3,<-e2,n1,w5,w7];refine C3.q (xe3 (M:=M) b line) λ v H5⟨hv,hh⟩=>?_;obtain⟨H3,e3,f23,-,-⟩:=bX D (OR [.ptr b 0] AH);obtain⟨T,e4,Z,-,-⟩:=bX H3 (OR [.int .i64 line] cK);rw[<-e3,<-e4]at hh;rw[hv,hh];have L:Fr Em D T:=f23.trans Z λ _ q=>q.elim;have f4:Fr Em H T:=f2.trans L λ _ q=>q.elim;have n3:H3.au=H.au+3:=by rw[e3,xx,n2]
 have n4:T.au=H.au+4:=by rw[e4,xx,n3]
 have g3:T.get D.au=some (OR [.ptr b 0] AH):=by rw[Z.ah _ (by omega) id,e3,xf]
 have g4:T.get (D.au+1)=some (OR [.int .i64 line] cK):=by rw[show D.au+1=H3.au by omega,e4,xf]
 have hc4:=hc.em f4;have hlt:=hc.lt;have hsb:aH sv<H.au:=hc.sl.lt
 have I:pq c sv line=(List.range c.ways).map λ k=>[eA sv (c.fr line+k)]:=by unfold pq;rw[qo (by omega)]
 refine jB.iter (fn:=RD) (lp:=Qb) (pa:=Vb 0) (pb:=Wp 0) qyd qmt.1 qmt.2 (by decide) qvy qvz
  (xa8 (M:=M) hc4 O g3 g4 (by omega) (by omega)) (λ i V B=>VE c sv line H.au (H.au+1) i V B) (λ e V B=>e=.ret/\Tx c sv line H.au V B) (λ x=>x=H.au\/x=H.au+1) (qg _) ?_ ?_ ?_ ?_ ?_ ?_ ?_ ?_
 .rintro x ((q|q|q)|q)
  .exact ⟨by omega,rfl,by omega⟩
  .exact ⟨by omega,rfl,by omega⟩
  .exact ⟨by omega,rfl,by omega⟩
  .exact q.elim
 .exact λ x hx=>by omega
 .exact ⟨.inl rfl,.inr rfl,by rw[L.ah _ (by omega) id];exact g1,by rw[L.ah _ (by omega) id];exact g2,by omega,by omega,λ k hk=>by omega⟩
 .exact λ i V Ha Hb h hs hn=>⟨h.vt,h.vu,by rw[hs _ h.vt];exact h.g,by rw[hs _ h.vu];exact h.gu,qj h.lt hn,qj h.Tv hn,h.no⟩
 .rintro e V Ha Hb ⟨he,h⟩ hs hn;obtain⟨k,k1,k2,k3⟩:=h.ex;exact⟨he,h.vt,⟨k,k1,k2,by rw[hs _ h.vt];exact k3⟩,qj h.lt hn⟩
 .intro f i lr lb x hx hL2 V p a hV hf6 hnL hL6 hgL;rw[I,xj,xl]at hx;obtain⟨y,hy,rfl⟩:=hx;have F:i<c.ways:=by have:=(qk.1 hy).1;rw[j0]at this;exact this
  rw[yg F]at hy;injection hy with hy;subst hy
  refine⟨_,rfl,?_⟩;obtain⟨-,wa,S,-,t,-,n,-⟩:=qpq M ⟨some f,Lu⟩;simp only[aa,bc,wa,Fx];refine⟨hgL,?_⟩;have fx:Fr (On f) p (p.set f lb):=(Fr.refl p).set (W:=On f) (.inl rfl) _;have gL:(p.set f lb).get f=some lb:=xc ..;have J:(p.set f lb).au=p.au:=rfl
  have hc6:dP p b sv c:=hc4.fr hf6 (λ q=>q.elim (λ q=>by omega) id) (λ q=>q.elim (λ q=>by omega) id);have h7:dP (p.set f lb) b sv c:=hc6.fr fx (λ(q:b=f)=>by omega) (λ(q:aH sv=f)=>by omega);have hLt:f≠H.au:=λ q=>hnL (by rw[q];exact a.vt)
  have hLu:f≠H.au+1:=λ q=>hnL (by rw[q];exact a.vu)
  have R:(p.set f lb).get H.au=some (OR [.nilp] kh):=by rw[yk hLt];exact a.g
  have s:(p.set f lb).get (H.au+1)=some (OR [px sv ((c.iz line i).map (c.fr line + ·))] kh):=by rw[yk hLu];exact a.gu
  generalize p.set f lb=H7 at *;have hi:=O.lf line F;obtain⟨e,he⟩:∃e,e=c.en (c.fr line+i):=⟨_,rfl⟩
  have l1:Op.ae [.ptr (aH sv) (cG 21 sv (c.fr line+i)+1)] H7=some (.int .i64 e.st):=by rw[he];exact h7.ld hi (k:=1) (by decide)
  have l2:Op.ae [.ptr (aH sv) (cG 21 sv (c.fr line+i)+2)] H7=some (.bool e.r):=by rw[he];exact h7.ld hi (k:=2) (by decide)
  have l3:Op.ae [.ptr (aH sv) (cG 21 sv (c.fr line+i)+3)] H7=some (.bool e.w):=by rw[he];exact h7.ld hi (k:=3) (by decide)
  have K:∀e:En,(aB e)[20]? = some (.int .i64 e.u):=λ e=>by
   obtain⟨line,st,r,w,⟨d,hd⟩,⟨o,ho⟩,u⟩:=e
   match d,hd,o,ho with
   |[d0,d1,d2,d3,d4,d5,d6,d7],_,[o0,o1,o2,o3,o4,o5,o6,o7],_=>rfl
  have l20:∀k,c.fr line+k<c.sl.length->Op.ae [.ptr (aH sv) (cG 21 sv (c.fr line+k)+20)] H7=some (.int .i64 (c.en (c.fr line+k)).u):=λ k hk=>by rw[h7.ld hk (k:=20) (by decide),K]
  have C:c.free line i=(e.st == 0):=by rw[he];rfl
  have no':e.st≠0 -> ∀k,k<i+1->c.free line k=false:=λ h0 k hk=>by
   by_cases q:k=i
   .rw [q,C];simp[h0]
   .exact a.no k (by omega)
  have z:Op.ae [.ptr (H.au+1) 0] H7=some (px sv ((c.iz line i).map (c.fr line + ·))):=xz (qy s) 0;have l:c.iz line (i+1)=if e.r ||e.w then c.iz line i else match c.iz line i with
   |none=>some i
   |some j=>if e.u<(c.en (c.fr line+j)).u then some i else some j:=by rw[he];rfl
  -- it stays as it is
  have stay:e.st≠0->c.iz line (i+1)=c.iz line i->NT (λ V B=>VE c sv line H.au (H.au+1) (i+1) V B) (λ e V B=>e=.ret/\Tx c sv line H.au V B) f lb V p .normal [] [] H7:=λ h0 hb =>
   ⟨rfl,gL,V,λ b hb=>⟨by rw[J];exact(hV b hb).1,.inl hb⟩,fx.mono λ x _ q=>.inr q,.inl ⟨rfl,a.vt,a.vu,R,by rw[hb];exact s,by rw[J];exact a.lt,by rw[J];exact a.Tv,no' h0⟩⟩
  -- this one is taken
  obtain⟨H8,G⟩:∃X,X=H7.set (H.au+1) (OR [eA sv (c.fr line+i)] kh):=⟨_,rfl⟩
  have st:=Mf s (u:=eA sv (c.fr line+i)) rfl;rw[<-G]at st;have take:e.st≠0->c.iz line (i+1)=some i->NT (λ V B=>VE c sv line H.au (H.au+1) (i+1) V B) (λ e V B=>e=.ret/\Tx c sv line H.au V B) f lb V p .normal [] [] H8:=λ h0 hb =>
   ⟨rfl,by rw[G,yk (mO hLu)];exact gL,V,λ b hb=>⟨by rw[G];show b<H7.au;rw[J];exact(hV b hb).1,.inl hb⟩,by rw[G];exact(fx.mono λ x _ q=>.inr q).set (.inl (.inl a.vu)) _,.inl ⟨rfl,a.vt,a.vu,by rw[G,yk (by omega)];exact R,by rw[G,xc,hb];rfl,by rw[G];show H.au<H7.au;rw[J];exact a.lt,by rw[G];show H.au+1<H7.au;rw[J];exact a.Tv,no' h0⟩⟩
  by_cases A:e.st=0
  .have stt:=Mf R (u:=eA sv (c.fr line+i)) rfl;simp only[aa,bc,S,qn,l1,xb A,stt];refine⟨rfl,?_,V,?_,?_,.inr ⟨trivial,rfl,a.vt,⟨i,F,L3 F (by rw[C];simp[A]) a.no,xc ..⟩,?_⟩⟩
   .rw [yk (mO hLt)];exact gL
   .exact λ b hb=>⟨by show b<H7.au;rw[J];exact(hV b hb).1,.inl hb⟩
   .exact (fx.mono λ x _ q=>.inr q).set (.inl (.inl a.vt)) _
   .show H.au<H7.au;rw[J];exact a.lt
  cases hr:e.r with
  |true =>
   rw[hr]at l2;simp only[aa,bc,S,qn,l1,A,t,l2];exact stay A (by rw[l,hr];rfl)
  |false =>
   rw[hr]at l2;cases hw:e.w with
   |true =>
    rw[hw]at l3;simp only[aa,bc,S,qn,l1,A,t,l2,l3];exact stay A (by rw[l,hr,hw];rfl)
   |false =>
    rw[hw]at l3;rw[hr,hw]at l;cases hb:c.iz line i with
    |none =>
     rw[hb]at z l;have z:Op.ae [.ptr (H.au+1) 0] H7=some .nilp:=z;simp only[aa,bc,S,qn,l1,A,t,l2,l3,n,z,Pd,st];exact take A l
    |some j =>
     rw[hb]at z l;have z:Op.ae [.ptr (H.au+1) 0] H7=some (eA sv (c.fr line+j)):=z;have hj:=(QY hb).1;have a1:=l20 i hi;rw[<-he]at a1;have a2:=l20 j (O.lf line (by omega))
     by_cases q:e.u<(c.en (c.fr line+j)).u
     .simp only[aa,bc,S,qn,l1,A,t,l2,l3,n,z,yq,a1,a2,q,st];exact take A (by rw[l];simp[q])
     .simp only[aa,bc,S,qn,l1,A,t,l2,l3,n,z,yq,a1,a2,q];exact stay A (by rw[l,hb];simp[q])
 .intro d V U hd1 hd2 Q P N a;have hno:=a.no;have s:=a.gu;rw[I,xp,j0]at hno s;have z:Op.ae [.ptr (H.au+1) 0] U=some (px sv ((c.iz line c.ways).map (c.fr line + ·))):=xz (qy s) 0;have st:=Mf a.g (u:=px sv ((c.iz line c.ways).map (c.fr line + ·))) (Dy ..);have E:d≠H.au:=λ q=>by have:=(N _ a.vt).2.2;omega
  have gd:(U.set H.au (OR [px sv ((c.iz line c.ways).map (c.fr line + ·))] kh)).get d=some (.deferred (some [])):=by rw[yk (mO E)];exact Q
  have rd:Op.ae [.ptr H.au 0] ((U.set H.au (OR [px sv ((c.iz line c.ways).map (c.fr line + ·))] kh)).set d (.deferred none))=some (px sv ((c.iz line c.ways).map (c.fr line + ·))):=CC (xc ..) E;have m:c.room line=(c.iz line c.ways).map (c.fr line + ·):=by
   unfold Ca.room;rw[Mp hno]
  rw[<-m]at z st gd rd;simp only[aa,bc,w12,z,st,B8,Ke,rd];refine⟨gd,?_⟩;exact(((f4.trans (W':=λ x=>(x=H.au\/x=H.au+1)\/False) P λ x q=>q.elim (λ q=>.inr (by omega)) False.elim).set (.inr (by omega)) _).set (.inr (by omega)) _)
 .rintro e d V U hj hd1 hd2 Q P N ⟨he,hS⟩;subst he;obtain⟨k,k1,k2,k3⟩:=hS.ex;have E:d≠H.au:=λ q=>by have:=(N _ hS.vt).2.2;omega
  have rd:Op.ae [.ptr H.au 0] (U.set d (.deferred none))=some (eA sv (c.fr line+k)):=CC k3 E;have m:c.room line=some (c.fr line+k):=by unfold Ca.room;rw[k2]
  simp only[aa,bc,B8,Ke,rd];refine⟨Q,by rw[m];rfl,?_⟩;exact((f4.trans (W':=λ x=>(x=H.au\/x=H.au+1)\/False) P λ x q=>q.elim (λ q=>.inr (by omega)) False.elim).set (.inr (by omega)) _)
end
end Go.Am
namespace Go.Am
open Go.Proofs Ca
variable{M:ak}[MK M]
def bdE(line st:Int)(x:L8):Op.build (aB .zero) [(0,1),(1,1),(4,8)] [.int .i64 line,.int .i64 st,.agg (dS x)]=some (.agg (aB ⟨line,st,false,false,x,.zero,0⟩)):=by
 obtain⟨x,a⟩:=x
 match x,a with
 |[x0,x1,x2,x3,x4,x5,x6,x7],_=>rfl
def oR(c:Ca)(line st:Int)(x:L8):AV:=.tuple [.agg (aB (c.fill line st x).2.1),.bool (decide ((c.fill line st x).2.2=0/\(c.fill line st x).2.1.st≠0)),.int .i64 (c.fill line st x).2.2]
section
variable{H:ar}{b:Nat}{sv:AV}{c:Ca}{lines line:Int}
def ZC(n:dP H b sv c)(l:CI lines c)(hu:c.us+1<=1000000)(hl:0<=line){st:Int}(S:st=1\/st=2)(x:L8) :
 za M LO [.ptr b 0,.int .i64 line,.int .i64 st,.agg (dS x)] H λ v H'=>v=oR c line st x/\dP H' b sv (c.fill line st x).1/\Fr (mF b sv) H H':=by
 refine q2w ?_;obtain⟨w0,w2,Y,V,u,Z⟩:=q2x M ⟨none,LO⟩;obtain⟨H1,G,f1,n1,-⟩:=bX H (OR (dS x) k9);obtain⟨m,w,p,-,-⟩:=bX H1 (OR (aB .zero) xk);have A:Fr Em H m:=f1.trans p λ _ q=>q.elim;have n2:m.au=H.au+2:=by rw[w,xx,n1]
 have g1:m.get H.au=some (OR (dS x) k9):=by rw[p.ah _ (by omega) id,G,xf]
 have g2:m.get (H.au+1)=some (OR (aB .zero) xk):=by rw[w,<-n1,xf]
 have nl:¬line<0:=by omega
 have hlt:=n.lt;have hsb:aH sv<H.au:=n.sl.lt
 -- an error
 have err:∀{g:ar}(k:Int),Fr Em m g->k≠0->(c.fill line st x).2.2=k->(c.fill line st x).1=c->(c.fill line st x).2.1=.zero ->
  Op.store 21 [.ptr (H.au+1) 0,.agg (aB .zero)] g=some (.undef,g.set (H.au+1) (OR (aB .zero) xk))/\Op.aq 21 [.ptr (H.au+1) 0] (g.set (H.au+1) (OR (aB .zero) xk))=some (.agg (aB .zero)) /\
  (AV.tuple [.agg (aB .zero),.bool false,.int .i64 k]=oR c line st x/\dP (g.set (H.au+1) (OR (aB .zero) xk)) b sv (c.fill line st x).1/\Fr (mF b sv) H (g.set (H.au+1) (OR (aB .zero) xk))):=by
  intro g k f hk h1 h2 h3;have gx:g.get (H.au+1)=some (OR (aB .zero) xk):=by rw[f.ah _ (by omega) id];exact g2
  have fs:Fr Em H (g.set (H.au+1) (OR (aB .zero) xk)):=(A.trans f λ _ q=>q.elim).set (.inr (by omega)) _;refine⟨gK gx (jj _) (jj .zero) (xO _),fp (xc ..) (jj _),?_,by rw[h2];exact n.em fs,qY fs⟩;unfold oR;rw[h1,h3];simp[hk]
 have r:∀{q:AV},W M ⟨none,LO⟩ (qpo 16) true (eM 0 (eP (W M ⟨none,LO⟩ (qpo 23)) (fj M [.cL 21 8,.tmp 9,.tmp 10] (ug λ v H'=>v=oR c line st x/\dP H' b sv (c.fill line st x).1/\Fr (mF b sv) H H'))))
  [(21,q),(10,.int .i64 0),(9,.bool false),(8,.ptr (H.au+1) 0),(7,.ptr H.au 0),(0,.ptr b 0),(1,.int .i64 line),(2,.int .i64 st),(3,.agg (dS x))] [] m:=by
  intro q;simp only[aa,bc,V];refine C3.q (Wk (M:=M) (line:=line) (n.em A) l) λ v H3⟨T,L⟩=>?_;rw[T];unfold uQ;cases hp:c.pos line with
  |some i =>
   obtain⟨s1,s2,U⟩:=err 21 L (by decide) (by unfold Ca.fill;rw[hp]) (by unfold Ca.fill;rw[hp]) (by unfold Ca.fill;rw[hp]);simp only[aa,bc,kX,eZ,pN,s1,s2];exact U
  |none =>
   simp only[aa,bc,tH,Y];have J:=A.trans L λ _ q=>q.elim;refine C3.q (xki (M:=M) (n.em J) l hl) λ v a⟨T,f4⟩=>?_;rw[T];have e:=L.trans f4 λ _ q=>q.elim;cases hr:c.room line with
   |none =>
    obtain⟨s1,s2,U⟩:=err 22 e (by decide) (by unfold Ca.fill;rw[hp,hr]) (by unfold Ca.fill;rw[hp,hr]) (by unfold Ca.fill;rw[hp,hr]);unfold px;simp only[aa,bc,u,Pd,eZ,pN,s1,s2];exact U
   |some i =>
    obtain⟨k,k1,k2,-⟩:=SL hr;have E:i<c.sl.length:=by rw[k2];exact l.lf line k1
    have o:=A.trans e λ _ q=>q.elim;have h4:=n.em o;have n4:=e.au
    obtain⟨F,e5,B,n5,g5⟩:=bX a (OR (aB .zero) xk);have s6:=gK g5 (jj _) (jj (c.en i)) (xO _);obtain⟨h,z⟩:∃X,X=F.set a.au (OR (aB (c.en i)) xk):=⟨_,rfl⟩
    rw[<-z]at s6;have C:Fr (On a.au) F h:=by rw[z];exact(Fr.refl F).set (W:=On a.au) (.inl rfl) _
    have n6:h.au=a.au+1:=by rw[z];exact n5
    have g6:h.get a.au=some (OR (aB (c.en i)) xk):=by rw[z,xc]
    have h6:dP h b sv c:=(h4.em B).fr C (λ(q:b=a.au)=>by omega) (λ(q:aH sv=a.au)=>by omega);have N:h.get H.au=some (OR (dS x) k9):=by rw[C.ah _ (by omega) (λ(q:H.au=a.au)=>by omega),B.ah _ (by omega) id,e.ah _ (by omega) id];exact g1
    have O:h.get (H.au+1)=some (OR (aB .zero) xk):=by rw[C.ah _ (by omega) (λ(q:H.au+1=a.au)=>by omega),B.ah _ (by omega) id,e.ah _ (by omega) id];exact g2
    obtain⟨H7,s7,h7,f7⟩:=h6.Ea E ⟨line,st,false,false,x,.zero,0⟩;have R:i<(c.set i ⟨line,st,false,false,x,.zero,0⟩).sl.length:=by show i<(c.sl.set i _).length;rw[xg];exact E
    have l6:=fp N (wn x);unfold px;simp only[aa,bc,u,yq,Z,qn,h4.Hq E,eZ,<-e5,s6,l6,bdE,s7];refine C3.q (Xx (M:=M) h7 hu R) λ _ d⟨h8,f8⟩=>?_;have j:Fr (mF b sv) h d:=tR (uj f7) f8;have nW:∀y,H.au<=y -> ¬mF b sv y:=λ y hy q=>q.elim (λ q=>by omega) λ q=>by omega
    have P:d.get a.au=some (OR (aB (c.en i)) xk):=by rw[j.ah _ (by omega) (nW _ (by omega))];exact g6
    have Q:d.get (H.au+1)=some (OR (aB .zero) xk):=by rw[j.ah _ (by omega) (nW _ (by omega))];exact O
    have l8:=fp P (jj (c.en i));have s:Op.ae [.ptr a.au 1] d=some (.int .i64 (c.en i).st):=xz (qy P) 1;have s9:=gK Q (jj _) (jj (c.en i)) (xO _);have g9:(d.set (H.au+1) (OR (aB (c.en i)) xk)).get a.au=some (OR (aB (c.en i)) xk):=by rw[yk (by omega)];exact P
    have t:Op.ae [.ptr a.au 1] (d.set (H.au+1) (OR (aB (c.en i)) xk))=some (.int .i64 (c.en i).st):=xz (qy g9) 1;have l9:=fp (xc d (H.au+1) (OR (aB (c.en i)) xk)) (jj (c.en i));have I:c.fill line st x=({c with us:=c.us+1,sl:=c.sl.set i ⟨line,st,false,false,x,.zero,c.us+1⟩},c.en i,0):=by unfold Ca.fill;rw[hp,hr]
    have eu:(c.set i ⟨line,st,false,false,x,.zero,0⟩).use i = {c with us:=c.us+1,sl:=c.sl.set i ⟨line,st,false,false,x,.zero,c.us+1⟩}:=by
     unfold Ca.use;rw[J3 E];unfold Ca.set;simp only[List.set_set]
    rw[eu]at h8;have fo:Fr (On (H.au+1)) d (d.set (H.au+1) (OR (aB (c.en i)) xk)):=(Fr.refl d).set (W:=On (H.au+1)) (.inl rfl) _;have K:Fr (mF b sv) H d:=tR ((tR (qY o) (qY B)).trans C λ y(q:y=a.au)=>.inr (by omega)) j;have end_:dP (d.set (H.au+1) (OR (aB (c.en i)) xk)) b sv (c.fill line st x).1/\Fr (mF b sv) H (d.set (H.au+1) (OR (aB (c.en i)) xk)):=by
     rw[I];exact⟨h8.fr fo (λ(q:b=H.au+1)=>by omega) (λ(q:aH sv=H.au+1)=>by omega),K.set (.inr (by omega)) _⟩
    by_cases D:(c.en i).st=0
    .simp only[aa,bc,l8,s,xb D,s9,t,l9];refine⟨?_,end_⟩;unfold oR;rw[I];simp[D]
    .simp only[aa,bc,l8,s,D,s9,t,l9];refine⟨?_,end_⟩;unfold oR;rw[I];simp[D]
 rcases S with rfl|rfl
 .have t1:=xb (show(1:Int)=1 from rfl);simp only[aa,bc,w0,<-G,n1,eZ,<-w,w2,yq,nl];exact r
 .have t1:¬(2:Int)=1:=by decide
  have t2:=xb (show(2:Int)=2 from rfl);simp only[aa,bc,w0,<-G,n1,eZ,<-w,w2,yq,nl,t1];exact r
end
end Go.Am
namespace Go.Am
open Go.Proofs Ca
variable{M:ak}[MK M]
def PD(p:Nat->Bool)(k:Nat):(List.range (k+1)).filter p=(List.range k).filter p++(if p k then[k]else[]):=by
 rw[List.range_succ,List.filter_append];congr 1;cases h:p k<;>simp[h]
def xd6(p:Nat->Bool){k:Nat}:∀m:Nat,∃X,(List.range (k+m)).filter p=(List.range k).filter p++X
 |0=>⟨[],by simp⟩
 |m+1=>by
  obtain⟨X,a⟩:=xd6 p m;rw[<-vw,PD,a];exact⟨X++(if p (k+m)then[k+m]else[]),by rw[zm]⟩
def Um(p:Nat->Bool){n k:Nat}(hk:k<n)(hp:p k=true):((List.range n).filter p)[((List.range k).filter p).length]? = some k:=by
 obtain⟨m,rfl⟩:∃m,n=k+1+m:=⟨n-(k+1),by omega⟩
 obtain⟨X,a⟩:=xd6 p (k:=k+1) m;rw[a,PD,hp];simp
def iJ(c:Ca):List Nat:=(List.range c.sl.length).filter λ k=>(c.en k).st != 0
def kB(c:Ca)(sv:AV):List (List AV):=(iJ c).map λ k=>[eA sv k]
def HeI(b:Nat)(sv:AV)(c:Ca)(Hx:ar):Prop:=∃c',dP Hx b sv c'/\c'.sl.length=c.sl.length /\ ∀k,(c'.en k).st=(c.en k).st
def ZH{H0:ar}{p b:Nat}{sv:AV}{c:Ca}(hp:H0.get p=some (OR [.ptr b 0] AH))(hpl:p<H0.au)(hl:c.sl.length<=40) :
 sV M Jh [] [.ptr p 0] (λ x=>x=p) (λ _=>False) (HeI b sv c) H0 (kB c sv):=by
 intro Y R S g H1 hnx hN s I loc U hI step;obtain⟨p1,p2,p3⟩:=hN p (.inl rfl)
 suffices h:za M Jh [.fn (.yield Y) [] [],.ptr p 0] H1 (MX R S g (λ _=>False) H1 (kB c sv).length)by
  obtain⟨v,H',hc,W',m,q2,q3⟩:=h.elim;exact⟨v,H',W',hc,m,q2,q3⟩
 refine qvw ?_;obtain⟨w0,w1,w7,w9,l,A,C,B,O⟩:=qvx M ⟨none,Jh⟩;have lp:∀{d:ar},Fr g H1 d->Op.ae [.ptr p 0] d=some (.ptr b 0):=λ f=>by rw[xz (qy (by rw[f.ah _ (by omega) p3,p2];exact hp))];rfl
 have r0:=Fr.refl (W:=g) H1;obtain⟨c1,Q,G,h1s⟩:=hI 0 g H1 s;have l2:Op.ae [.ptr b 2] H1=some sv:=Q.Q3 2;have ln:Op.dc [sv]=some (.int .i64 ((c.sl.length:Nat):Int)):=by rw[<-G];exact(Q.sl.sl jj).len
 simp only[aa,bc,w0,w1,lp r0,yq,w7,w9,qn,l2,ln];refine de.intro (λ n E d=>∃(i:Nat)(V:Nat->Prop),E=[(11,.int .i64 (i:Int)),(10,.int .i64 ((c.sl.length:Nat):Int)),(0,.fn (.yield Y) [] []),(1,.ptr p 0)]/\n=c.sl.length-i/\i<=c.sl.length/\Mq R g H1 d ((List.range i).filter λ k=>(c.en k).st != 0).length V) ?_ ?_
 .exact ⟨_,_,⟨0,g,rfl,rfl,xy _,⟨s,λ b hb=>⟨I b hb,.inl hb⟩,Fr.refl _⟩⟩,by simp only[aa,bc]⟩
 rintro n E d ⟨i,V,rfl,rfl,hi,a⟩;rcases xq i c.sl.length with L|hge
 .have m:(i:Int)<((c.sl.length:Nat):Int):=by omega
  obtain⟨Z,F,hl',N⟩:=hI _ V d a.hR;have z:Op.ae [.ptr b 2] d=some sv:=F.Q3 2;have y:i<Z.sl.length:=by omega
  have ix:=F.ix y;have ls:Op.ae [.ptr (aH sv) (cG 21 sv i+1)] d=some (.int .i64 (c.en i).st):=by rw[<-N i];exact F.ld y (k:=1) (by decide)
  have X:aj .i64 ((i:Int)+1)=((i+1:Nat):Int):=by rw[js (by omega) (by omega)];omega
  have T:=PD (λ k=>(c.en k).st != 0) i
  by_cases r:(c.en i).st=0
  .have j:((List.range (i+1)).filter λ k=>(c.en k).st != 0).length=((List.range i).filter λ k=>(c.en k).st != 0).length:=by rw[T];simp[r]
   simp only[aa,bc,l,m,A,B,lp a.fr,qn,z,ix,ls,xb r,C,X];exact⟨_,_,⟨i+1,V,rfl,rfl,by omega,by rw[j];exact a⟩,by simp only[aa,bc],by omega⟩
  .have j:((List.range (i+1)).filter λ k=>(c.en k).st != 0).length=((List.range i).filter λ k=>(c.en k).st != 0).length+1:=by rw[T];simp[r]
   have hg:(kB c sv)[((List.range i).filter λ k=>(c.en k).st != 0).length]? = some [eA sv i]:=by
    unfold kB iJ;rw[xj,Um _ L (by simp[r])];rfl
   obtain⟨bb,P,D,hr,J,u,ht,hs⟩:=step _ _ hg V d a.hR a.hV (a.fr.mono λ _ _ q=>.inl q);have o:Fr g H1 P:=a.fr.trans J λ b q=>(a.hV b q).2;have t:∀b,D b->b<P.au/\(g b\/H1.au<=b):=λ b q=>⟨(u b q).1,(u b q).2.elim (λ w=>(a.hV b w).2) λ w=>.inr (xu a.fr.au w)⟩
   simp only[aa,bc,l,m,A,B,lp a.fr,qn,z,ix,ls,r,O];refine C3.xV hr ?_;cases bb with
   |true =>
    simp only[aa,bc,C,X];exact⟨_,_,⟨i+1,D,rfl,rfl,by omega,⟨by rw[j];exact ht rfl,t,o⟩⟩,by simp only[aa,bc],by omega⟩
   |false =>
    simp only[aa,bc,B8];exact⟨D,o.mono λ _ _ q=>.inl q,t,.inr (hs rfl)⟩
 .have m:¬(i:Int)<((c.sl.length:Nat):Int):=by omega
  have K:i=c.sl.length:=by omega
  simp only[aa,bc,l,m,OD];refine⟨V,a.fr.mono λ _ _ q=>.inl q,a.hV,.inl ?_⟩;have e:(kB c sv).length=((List.range i).filter λ k=>(c.en k).st != 0).length:=by unfold kB iJ;rw[xp,K]
  rw[e];exact a.hR
def q94{H:ar}(b:Nat):za M qox [.ptr b 0] H λ v H'=>v=.fn (.func Jh) [] [.ptr H.au 0]/\H'=H.alloc (OR [.ptr b 0] AH):=by
 refine q26 ?_;have ca:AV.cells (.ptr b 0)=[.ptr b 0]:=rfl;have mk:Op.bD Jh 0 [.ptr H.au 0]=some (.fn (.func Jh) [] [.ptr H.au 0]):=rfl;simp only[aa,bc,q27,ca];rfl
structure EA(c:Ca)(g:En->En)(i:Nat)(c':Ca):Prop where
 fE:c'.fE=c.fE
 ways:c'.ways=c.ways
 us:c'.us=c.us
 len:c'.sl.length=c.sl.length
 en:∀k,k<c.sl.length->c'.en k=if k∈(iJ c).take i then g (c.en k)else c.en k
def EA.zero(c:Ca)(g:En->En):EA c g 0 c:=⟨rfl,rfl,rfl,rfl,λ k hk=>by simp⟩
def xcc(c:Ca):(iJ c).Nodup:=List.Nodup.sublist (List.filter_sublist) List.nodup_range
def OQ{c:Ca}{k:Nat}:k∈iJ c↔k<c.sl.length/\(c.en k).st≠0:=by
 unfold iJ;rw[List.mem_filter,List.mem_range];simp
def xgo{l:List Nat}(h:l.Nodup){i k:Nat}(hk:l[i]? = some k):k∉l.take i:=by
 intro hm;obtain⟨j,a⟩:=Ks hm;rw[yf]at a;split at a
 .rename_i d;have e:=qk.1 a;have f:=qk.1 hk;exact List.pairwise_iff_getElem.1 h j i e.1 f.1 d (by rw[e.2,f.2])
 .cases a
def EA.step{c a:Ca}{g:En->En}{i k:Nat}(h:EA c g i a)(hk:(iJ c)[i]? = some k):a.en k=c.en k/\EA c g (i+1) (a.set k (g (c.en k))):=by
 have hm:=OQ.1 (x9 hk);have hn:=xgo (xcc c) hk;have he:a.en k=c.en k:=by rw[h.en k hm.1,qo hn]
 refine⟨he,h.fE,h.ways,h.us,by show(a.sl.set k _).length=_;rw[xg];exact h.len,λ j d=>?_⟩;rw[zQ (by rw[h.len];exact hm.1),L7,hk]
 by_cases q:k=j
 .subst q;rw[qr rfl,qr (by simp)]
 .rw [qo q,h.en j d];have:(j∈(iJ c).take i++(some k).toList)↔j∈(iJ c).take i:=by simp[mO q]
  by_cases w:j∈(iJ c).take i
  .rw [qr w,qr (this.2 w)]
  .rw [qo w,qo λ z=>w (this.1 z)]
def EA.done{c d:Ca}{g:En->En}(h:EA c g (iJ c).length d)(hg:∀e:En,e.st=0->g e=e):d = {c with sl:=c.sl.map g}:=by
 have a:d.sl=c.sl.map g:=by
  refine jz λ k=>?_;rcases xq k c.sl.length with q|q
  .rw [Er (by rw[h.len];exact q),xj,Er q,h.en k q,zg (qg _)]
   by_cases w:(c.en k).st=0
   .rw [qo (λ z=>(OQ.1 z).2 w)];show some (c.en k)=some (g (c.en k));rw[hg _ w]
   .rw [qr (OQ.2 ⟨q,w⟩)];rfl
  .rw [zz (by rw[h.len];exact q),zz (by rw[xp];exact q)]
 obtain⟨s,w,l,u⟩:=d;have f:=h.fE;have i:=h.ways;have j:=h.us;simp only at f i j a;subst f;subst i;subst j;subst a;rfl
structure JY(c:Ca)(g:En->En)(b:Nat)(sv:AV)(i:Nat)(V:Nat->Prop)(Hx:ar):Prop where
 vb:V b
 vs:V (aH sv)
 ex:∃c',dP Hx b sv c'/\EA c g i c'
def dP.loc{a Hb:ar}{b:Nat}{sv:AV}{c:Ca}(h:dP a b sv c)(j:Hb.get b=a.get b)(e:Hb.get (aH sv)=a.get (aH sv))(hn:a.au<=Hb.au):dP Hb b sv c :=
 ⟨by rw[j];exact h.row,qj h.lt hn,by
  obtain⟨sb,d,f,g⟩:=h.sl;have i:aH sv=sb:=by rw[d];rfl
  rw[i]at e;exact⟨sb,d,qj f hn,by rw[e];exact g⟩,h.ne,h.s8,h.w4,h.us⟩
def JY.loc{c:Ca}{g:En->En}{b:Nat}{sv:AV}{i:Nat}{V:Nat->Prop}{a Hb:ar}(h:JY c g b sv i V a)(hs:∀x,V x->Hb.get x=a.get x)(hn:a.au<=Hb.au):JY c g b sv i V Hb:=by
 obtain⟨d,e,f⟩:=h.ex;exact⟨h.vb,h.vs,d,e.loc (hs _ h.vb) (hs _ h.vs) hn,f⟩
def JY.hI{c:Ca}{g:En->En}(hg:∀e:En,(g e).st=e.st){b:Nat}{sv:AV}{i:Nat}{V:Nat->Prop}{d:ar}(h:JY c g b sv i V d):HeI b sv c d:=by
 obtain⟨f,j,a⟩:=h.ex;refine⟨f,j,a.len,λ k=>?_⟩;rcases xq k c.sl.length with q|q
 .rw [a.en k q];split
  .exact hg _
  .rfl
 .rw [Vk q,Vk (by rw[a.len];exact q)]
section
variable{H:ar}{b:Nat}{sv:AV}{c:Ca}{lines line:Int}
def q16(G:dP H b sv c)(hl:c.sl.length<=40):za M MO [.ptr b 0] H λ _ H'=>dP H' b sv c.bw/\Fr (mF b sv) H H':=by
 refine qvt ?_;obtain⟨w0,wa,wb,w2,U,X⟩:=Yb M ⟨none,MO⟩;simp only[aa,bc,w0,w2,yq,U];refine C3.q (q94 (M:=M) b) λ v H5⟨hv,hh⟩=>?_;obtain⟨H1,e1,Z,n1,g1⟩:=bX H (OR [.ptr b 0] AH);rw[<-e1]at hh;rw[hv,hh];have I:=G.em Z;have hlt:=G.lt;have hsb:aH sv<H.au:=G.sl.lt
 refine jB.tE (fn:=RH) (lp:=P9) (pa:=Xf 0) (pb:=S9 0) qt0 qkr.1 qkr.2 (by decide) qr7 qr8
  (ZH (M:=M) (b:=b) (sv:=sv) (c:=c) g1 (by omega) hl) (λ i V Y=>JY c pQ b sv i V Y) (λ _ _ _=>False) (mF b sv) (qg _) ?_ ?_ ?_ ?_ ?_ ?_ ?_ ?_ ?_
 .rintro x (q|q)
  .exact ⟨by omega,rfl,λ w=>w.elim (λ w=>by omega) λ w=>by omega⟩
  .exact q.elim
 .exact λ x B=>B.elim (λ q=>by omega) λ q=>by omega
 .exact ⟨.inl rfl,.inr rfl,c,I,EA.zero c pQ⟩
 .exact λ i V Ha Hb h hs hn=>h.loc hs hn
 .exact λ e V Ha Hb h _ _=>h
 .exact λ i V Y h=>h.hI Tp
 .intro f i lr lb x B hL2 V p s hV hf6 A hL6 O;unfold kB at B;rw[xj,xl]at B;obtain⟨k,hk,rfl⟩:=B;refine⟨_,rfl,?_⟩;obtain⟨-,wa,wb,-⟩:=Yb M ⟨some f,MO⟩;simp only[aa,bc,wa,Fx];refine⟨O,?_⟩;have fx:Fr (On f) p (p.set f lb):=(Fr.refl p).set (W:=On f) (.inl rfl) _;have gL:(p.set f lb).get f=some lb:=xc ..;have nL:(p.set f lb).au=p.au:=rfl
  have F:=s.loc (Hb:=p.set f lb) (λ y C=>by rw[yk (λ q:f=y=>A (by rw[q];exact C))]) (qg _);generalize p.set f lb=H7 at *;obtain⟨a,h7,ht⟩:=F.ex;obtain⟨L,S⟩:=ht.step hk;have hm:=OQ.1 (x9 hk);have l:k<a.sl.length:=by rw[ht.len];exact hm.1
  obtain⟨H8,s8,h8,f8⟩:=h7.cS l (j:=2) (by decide) (u:=.bool false) rfl (e:={a.en k with r:=false}) rfl;have Q:k<(a.set k {a.en k with r:=false}).sl.length:=by show k<(a.sl.set k _).length;rw[xg];exact l
  obtain⟨H9,s9,h9,f9⟩:=h8.cS Q (j:=3) (by decide) (u:=.bool false) rfl (e:={(a.set k {a.en k with r:=false}).en k with w:=false}) rfl;rw[J3 l,Rg]at h9;have R:k<(a.set k {a.en k with r:=false,w:=false}).sl.length:=by show k<(a.sl.set k _).length;rw[xg];exact l
  obtain⟨t,T,m,D⟩:=h9.RK R (j:=12) (n:=8) (u:=.agg (dS .zero)) (by rw[zu];exact wn _) (by rw[zu];exact xY _) (by decide) (e:={(a.set k {a.en k with r:=false,w:=false}).en k with o:=.zero}) (Ih _ _);rw[J3 l,Rg]at m;have ec:({a.en k with r:=false,w:=false,o:=.zero}:En)=pQ (c.en k):=by rw[L];unfold pQ;rw[qo hm.2]
  have m:dP t b sv (a.set k (pQ (c.en k))):=by rw[<-ec];exact m
  have g:Fr (On (aH sv)) H7 t:=(f8.trans f9 λ _ q=>.inl q).trans D λ _ q=>.inl q;have E:f≠aH sv:=λ q=>A (by rw[q];exact s.vs);have n710:=g.au
  simp only[aa,bc,wb,lZ,pN,qn,s8,s9,T];refine⟨rfl,by rw[g.ah f (by omega) (λ(q:f=aH sv)=>E q)];exact gL,V,λ y C=>⟨by have:=(hV y C).1;omega,.inl C⟩,(fx.mono λ y _ q=>.inr q).trans g λ y(q:y=aH sv)=>.inl (.inl (by rw[q];exact s.vs)),.inl ⟨rfl,s.vb,s.vs,_,m,S⟩⟩
 .intro d V z hd1 hd2 P N hVd s;obtain⟨a,h1,h2⟩:=s.ex;have el:(kB c sv).length=(iJ c).length:=by unfold kB;rw[xp]
  rw[el]at h2;have e:a=c.bw:=h2.done λ e h=>by unfold pQ;rw[qr h]
  rw[e]at h1;have J:d≠b:=by omega
  have K:d≠aH sv:=by omega
  have fo:Fr (On d) z (z.set d (.deferred none)):=(Fr.refl z).set (W:=On d) (.inl rfl) _;have fW:Fr (mF b sv) H z:=(qY Z).trans N λ y q=>q.elim (λ w=>.inl w) False.elim;simp only[aa,bc,X,Ke];exact⟨P,h1.fr fo (λ(q:b=d)=>J q.symm) (λ(q:aH sv=d)=>K q.symm),fW.set (.inr (by omega)) _⟩
 .exact λ e d V z _ _ _ _ _ _ h=>h.elim
end
end Go.Am
namespace Go.Am
open Go.Proofs Ca
variable{M:ak}[MK M]
def lO(e:En):En:=if e.st≠0/\e.w=true then{e with d:=e.o}else e
def xkq(e:En):(lO e).st=e.st:=by unfold lO;split<;>rfl
def CL(e:En):pQ (lO e)=back e:=by
 unfold pQ back;rw[xkq]
 by_cases h:e.st=0
 .rw [qr h,qr h];unfold lO;rw[qo λ q=>q.1 h]
 .rw [qo h,qo h];unfold lO
  by_cases hw:e.w=true
  .rw [qr ⟨h,hw⟩,qr hw]
  .rw [qo (λ q=>hw q.2),qo hw]
def xft(c:Ca):Ca.bw {c with sl:=c.sl.map lO} = c.discard:=by
 unfold Ca.bw Ca.discard;simp only[we];congr 1;exact List.map_congr_left λ e _=>CL e
section
variable{H:ar}{b:Nat}{sv:AV}{c:Ca}{lines line:Int}
def q9q(N:dP H b sv c)(hl:c.sl.length<=40):za M LP [.ptr b 0] H λ _ H'=>dP H' b sv c.discard/\Fr (mF b sv) H H':=by
 refine qt1 ?_;obtain⟨w0,wa,Y,w2,U,X⟩:=Ya M ⟨none,LP⟩;simp only[aa,bc,w0,w2,yq,U];refine C3.q (q94 (M:=M) b) λ v H5⟨hv,hh⟩=>?_;obtain⟨H1,e1,f1,n1,g1⟩:=bX H (OR [.ptr b 0] AH);rw[<-e1]at hh;rw[hv,hh];have O:=N.em f1;have hlt:=N.lt;have hsb:aH sv<H.au:=N.sl.lt
 refine jB.tE (fn:=Rc) (lp:=NK) (pa:=VJ 0) (pb:=UK 0) qr9 Zr.1 Zr.2 (by decide) qqt qqu
  (ZH (M:=M) (b:=b) (sv:=sv) (c:=c) g1 (by omega) hl) (λ i V Hx=>JY c lO b sv i V Hx) (λ _ _ _=>False) (mF b sv) (qg _) ?_ ?_ ?_ ?_ ?_ ?_ ?_ ?_ ?_
 .rintro x (q|q)
  .exact ⟨by omega,rfl,λ w=>w.elim (λ w=>by omega) λ w=>by omega⟩
  .exact q.elim
 .exact λ x C=>C.elim (λ q=>by omega) λ q=>by omega
 .exact ⟨.inl rfl,.inr rfl,c,O,EA.zero c lO⟩
 .exact λ i V Ha Hb h hs hn=>h.loc hs hn
 .exact λ e V Ha Hb h _ _=>h
 .exact λ i V Hx h=>h.hI xkq
 .intro f i lr lb x C hL2 V p g hV hf6 B hL6 R;unfold kB at C;rw[xj,xl]at C;obtain⟨k,hk,rfl⟩:=C;refine⟨_,rfl,?_⟩;obtain⟨-,wa,Y,-⟩:=Ya M ⟨some f,LP⟩;simp only[aa,bc,wa,Fx];refine⟨R,?_⟩;have fx:Fr (On f) p (p.set f lb):=(Fr.refl p).set (W:=On f) (.inl rfl) _;have gL:(p.set f lb).get f=some lb:=xc ..;have nL:(p.set f lb).au=p.au:=rfl
  have L:=g.loc (Hb:=p.set f lb) (λ y t=>by rw[yk (λ q:f=y=>B (by rw[q];exact t))]) (qg _);generalize p.set f lb=H7 at *;obtain⟨a,E,ht⟩:=L.ex;obtain⟨l,r⟩:=ht.step hk;have hm:=OQ.1 (x9 hk);have m:k<a.sl.length:=by rw[ht.len];exact hm.1
  have K:f≠aH sv:=λ q=>B (by rw[q];exact g.vs);have lw:Op.ae [.ptr (aH sv) (cG 21 sv k+3)] H7=some (.bool (a.en k).w):=E.ld m (k:=3) (by decide);cases hw:(a.en k).w with
  |true =>
   rw[hw]at lw;obtain⟨H8,s8,J,G⟩:=E.RK m (j:=4) (n:=8) (u:=.agg (dS (a.en k).o)) (by rw[zu];exact wn _) (by rw[zu];exact xY _) (by decide) (e:={a.en k with d:=(a.en k).o}) (IC _ _);have F:({a.en k with d:=(a.en k).o}:En)=lO (c.en k):=by
    have s:(c.en k).w=true:=by rw[<-l];exact hw
    rw[l];unfold lO;rw[qr ⟨hm.2,s⟩]
   have J:dP H8 b sv (a.set k (lO (c.en k))):=by rw[<-F];exact J
   have n78:=G.au
   simp only[aa,bc,Y,qn,lw,E.ldO m,s8];exact⟨rfl,by rw[G.ah f (by omega) (λ(q:f=aH sv)=>K q)];exact gL,V,λ y t=>⟨by have:=(hV y t).1;omega,.inl t⟩,(fx.mono λ y _ q=>.inr q).trans G λ y(q:y=aH sv)=>.inl (.inl (by rw[q];exact g.vs)),.inl ⟨rfl,g.vb,g.vs,_,J,r⟩⟩
  |false =>
   rw[hw]at lw;have F:a.set k (lO (c.en k))=a:=by
    have hu:lO (c.en k)=a.en k:=by
     have s:(c.en k).w=false:=by rw[<-l];exact hw
     unfold lO;rw[qo (λ q=>by rw[s]at q;exact Bool.noConfusion q.2),l]
    rw[hu];unfold Ca.set Ca.en;rw[qt m];simp
   rw[F]at r;simp only[aa,bc,Y,qn,lw];exact⟨rfl,gL,V,λ y t=>⟨by have:=(hV y t).1;omega,.inl t⟩,fx.mono λ y _ q=>.inr q,.inl ⟨rfl,g.vb,g.vs,_,E,r⟩⟩
 .intro d V Z hd1 P S Q hVd g;obtain⟨a,h1,I⟩:=g.ex;have el:(kB c sv).length=(iJ c).length:=by unfold kB;rw[xp]
  rw[el]at I;have e:a = {c with sl:=c.sl.map lO}:=I.done λ e h=>by unfold lO;rw[qo λ q=>q.1 h]
  have z:d≠b:=by omega
  have A:d≠aH sv:=by omega
  have fW:Fr (mF b sv) H Z:=(qY f1).trans Q λ y q=>q.elim (λ w=>.inl w) False.elim;simp only[aa,bc,X];refine C3.q (q16 (M:=M) h1 (by rw[I.len];exact hl)) λ _ D⟨h3,f3⟩=>?_;rw[e,xft]at h3;have T:D.get d=some (.deferred (some [])):=by rw[f3.ah d P (λ q=>q.elim z A)];exact S
  have fo:Fr (On d) D (D.set d (.deferred none)):=(Fr.refl D).set (W:=On d) (.inl rfl) _;simp only[aa,bc,Ke];exact⟨T,h3.fr fo (λ(q:b=d)=>z q.symm) (λ(q:aH sv=d)=>A q.symm),(tR fW f3).set (.inr (by omega)) _⟩
 .exact λ e d V Z _ _ _ _ _ _ h=>h.elim
end
end Go.Am
namespace Go.Am
open Go.Proofs Ca
variable{M:ak}[MK M]
def oX(s w:Nat):Ca:=⟨s,w,List.replicate (s*w) .zero,0⟩
def UA(s w k:Nat):(oX s w).en k=.zero:=by
 unfold Ca.en oX;simp only[SE];split<;>rfl
def Dv(lines:Int){s w:Nat}(hs:0<s)(hw:0<w):CI lines (oX s w) :=
 ⟨zr ..,hs,hw,λ i _ h=>by rw[UA]at h;exact absurd rfl h,λ i j _ _ h=>by rw[UA]at h;exact absurd rfl h⟩
def xcv(s w:Nat):(oX s w).plain:=λ i _ h=>by rw[UA]at h;exact absurd rfl h
def yc:∀n:Nat,(List.replicate n En.zero).flatMap aB=fq n (aB .zero)
 |0=>rfl
 |n+1=>by rw[Qp,ju,yc n];rfl
def rV(s w:Int):Prop:=1<=s/\s<=8/\1<=w/\w<=4
instance(s w:Int):Decidable (rV s w):=inferInstanceAs (Decidable (_/\_))
def WU(H:ar)(s w:Int)(v:AV)(H':ar):Prop:=Fr Em H H'/\(¬rV s w/\v=.tuple [.nilp,.int .i64 2]\/rV s w /\ ∃b sv,v=.tuple [.ptr b 0,.int .i64 0]/\dP H' b sv (oX s.toNat w.toNat)/\H.au<=b/\H.au<=aH sv)
def xgd{H:ar}(s w:Int):za M Tw [.int .i64 s,.int .i64 w] H (WU H s w):=by
 refine Db ?_;obtain⟨w0,g,l⟩:=CZ M ⟨none,Tw⟩
 by_cases f:s<1
 .simp only[aa,bc,w0,g,f];exact⟨Fr.refl _,.inl ⟨λ q=>by have:=q.1;omega,rfl⟩⟩
 by_cases h:8<s
 .simp only[aa,bc,w0,g,f,h];exact⟨Fr.refl _,.inl ⟨λ q=>by have:=q.2.1;omega,rfl⟩⟩
 by_cases j:w<1
 .simp only[aa,bc,w0,g,f,h,j];exact⟨Fr.refl _,.inl ⟨λ q=>by have:=q.2.2.1;omega,rfl⟩⟩
 by_cases o:4<w
 .simp only[aa,bc,w0,g,f,h,j,o];exact⟨Fr.refl _,.inl ⟨λ q=>by have:=q.2.2.2;omega,rfl⟩⟩
 obtain⟨a,rfl⟩:=z4 (show 0<=s by omega);obtain⟨d,rfl⟩:=z4 (show 0<=w by omega);have u:a*d<=8*4:=Nat.mul_le_mul (by omega) (by omega);have x:aj .i64 ((a:Int)*(d:Int))=((a*d:Nat):Int):=by rw[<-Int.natCast_mul];exact js (by omega) (by omega)
 have mk:=OH xk 160 (aB .zero) (a*d) .i64 .i64 (by omega) (by omega);rw[<-yc]at mk;obtain⟨H1,m,r,n1,-⟩:=bX H (OR ((List.replicate (a*d) En.zero).flatMap aB) xk);obtain⟨sv,e⟩:∃sv:AV,sv=.slice H.au 0 (a*d) (a*d):=⟨_,rfl⟩
 have k:Op.sliceTo (a*d) (a*d) H.au=sv:=by rw[e];rfl
 have v:aH sv=H.au:=by rw[e];rfl
 have p:Op.build [.int .i64 0,.int .i64 0,.nils,.int .i64 0] [(0,1),(1,1),(2,1)] [.int .i64 (a:Int),.int .i64 (d:Int),sv]=some (.agg (EG (oX a d) sv)):=by rw[e];rfl
 obtain⟨y,i,n,-,t⟩:=bX H1 (OR (EG (oX a d) sv) TR);simp only[aa,bc,w0,g,f,h,j,o,l,x,eZ,mk,k,<-m,p,<-i];refine⟨r.trans n λ _ q=>q.elim,.inr ⟨⟨by omega,by omega,by omega,by omega⟩,_,sv,rfl,⟨t,by rw[i,xx];omega,⟨H.au,?_,?_,?_⟩,by omega,by show a<=8;omega,by show d<=4;omega,⟨ya _,by show(0:Int)<=1000000;decide⟩⟩,by omega,by omega⟩⟩
 .show sv=.slice H.au 0 (List.replicate (a*d) En.zero).length (List.replicate (a*d) En.zero).length
  rw[zr];exact e
 .rw [i,xx];omega
 .rw [n.ah _ (by omega) id,m,xf];rfl
end Go.Am
