import Derived.Test.YtpnpgihabgglcaaGreatDoorAmBZd
import Derived.Test.YtpnpgihabgglcaaGreatDoorAmBZf
import Derived.Test.YtpnpgihabgglcaaGreatDoorAmBZe
set_option linter.defProp false
set_option linter.unusedVariables false
set_option linter.unusedSimpArgs false
set_option linter.unusedSectionVars false
set_option maxRecDepth 100000
open Nat renaming reduceEqDiff→bc
namespace Go.Am
def gN(x:Nat):List AV:=[.int .i64 (x:Int)]
def Cg(x:Nat):(gN x).length=1:=rfl
def Nq(l:List Nat):l.flatMap gN=l.map λ(x:Nat)=>AV.int .i64 (x:Int):=by
 induction l with
 |nil=>rfl
 |cons a l ih=>rw[js,ih];rfl
def ur(l:List Nat):(l.flatMap gN).length=l.length:=by rw[Nq,xm]
structure lX(e:Nat)(H0 H:ar)(v:AV)(xs:List Nat):Prop where
 own:(v=.nils/\xs=[]) \/ ∃b m rest,v=.gslice b 0 m 1 0 xs.length/\b<H.au/\H0.au<=b/\m=xs.length+rest.length/\H.get b=some (.grown m 1 (xs.flatMap gN++rest) e (0,0))
 fr:Fr Em H0 H
section
variable{e:Nat}{H0 H:ar}{v:AV}{xs:List Nat}
def lX.nil(e:Nat)(H:ar):lX e H H .nils []:=⟨.inl ⟨rfl,rfl⟩,Fr.refl H⟩
def lX.fresh(h:lX e H0 H v xs):∀b,aW v b->H0.au<=b/\b<H.au:=by
 rintro b ⟨a,rfl⟩;rcases h.own with⟨rfl,_⟩|⟨b,m,rest,rfl,c,d,_⟩
 .exact (a rfl).elim
 .exact ⟨d,c⟩
def lX.sl(h:lX e H0 H v xs):dU gN 1 H v xs:=by
 rcases h.own with⟨rfl,rfl⟩|⟨b,m,rest,rfl,a,d,f,c⟩
 .exact ⟨rfl,rfl⟩
 .refine ⟨by rw[ur,IY],rfl,rfl,by omega,.inr ⟨a,_,XW c,?_⟩⟩;rw[u9,qr (by rw[qv,ur];omega),wv,yi,IY,j0 (by rw[ur];exact qg _),zg (by rw[ur];exact qg _)]
def lX.uv{H':ar}{W:Nat->Prop}(h:lX e H0 H v xs)(f:Fr W H H')(c:Fr Em H0 H')(hw:∀b,aW v b -> ¬W b):lX e H0 H' v xs:=by
 refine⟨?_,c⟩;rcases h.own with q|⟨b,m,rest,rfl,a,d,g,i⟩
 .exact .inl q
 .exact .inr ⟨b,m,rest,rfl,qj a f.au,d,g,by rw[f.ah b a (hw b ⟨by simp,rfl⟩)];exact i⟩
def lX.em{H':ar}(h:lX e H0 H v xs)(f:Fr Em H H'):lX e H0 H' v xs:=h.uv f (h.fr.em f) λ _ _ q=>q
def lX.cut(h:lX e H0 H v xs){k:Nat}(hk:k<=xs.length){z:Int}(i:z=k)(kk:IntKind) :
 ∃g,Op.aL 1 [none,some 0,none] [v,.int kk z]=some g/\lX e H0 H g (xs.take k) /\ ∀b,aW g b->aW v b:=by
 rcases h.own with⟨rfl,rfl⟩|⟨b,m,rest,rfl,l,o,q,p⟩
 .have:k=0:=by simpa using hk
  subst this;refine⟨.nils,?_,⟨.inl ⟨rfl,rfl⟩,h.fr⟩,λ b hb=>hb⟩;have c:bound none 0 0=some 0:=rfl;simp[Op.aL,arg,lS,eO,c,wW i (qg 0)]
 .have j:∀n,Nat.beq n n=true:=λ n=>by simp
  have a:∀d m,bound none d m=some d:=λ _ _=>rfl;have f:=ve (show k<=m-0 by omega);refine⟨.gslice b (0+0) m 1 (cond (Nat.beq 0 0) 0 (0*1)) (k-0),by simp only[Op.aL,arg,lS,jp,qm,eO,a,wW i (show k<=m-0 by omega),j,f,ve (xy m),jo,xq],⟨.inr ⟨b,m,(xs.drop k).flatMap gN++rest,?_,l,o,?_,?_⟩,h.fr⟩,λ b hb=>⟨by simp,hb.2⟩⟩
  .rw [j9,Nat.min_eq_left hk];rfl
  .rw [j9,qv,ur,ya];omega
  .rw [p,<-zm,<-kz,vg]
def lX.push(h:lX e H0 H v xs){x:Nat}{zero:List AV}{bytes:Nat}(I:zero.length=1)(E:(xs.length+1)*bytes<=140737488355328)(u:xs.length+1<=140737488355328){K:bH->(Nat->AV)->Bool->AV->ar->Prop}{m:Bool}
 (hk:∀A H',lX e H0 H' A (xs ++ [x])->Fr (aW v) H H'->(∀b,aW A b->aW v b\/H.au<=b)->K (.row [.int .i64 (x:Int)] e (0,0) true) (Op.sliceTo 1 1) m A H') :
 iW m (Op.buildSlice e 1 zero [(0,1)] [.int .i64 (x:Int)]) λ g o mk=>iW g (Op.append e 1 bytes [v,mk H.au] (H.alloc o)) (K o mk):=by
 have hb:Op.buildSlice e 1 zero [(0,1)] [.int .i64 (x:Int)]=some (.row [.int .i64 (x:Int)] e (0,0) true,Op.sliceTo 1 1):=XA e 1 zero (.int .i64 (x:Int)) I rfl;rw[hb];have f:Fr Em H (H.alloc (.row [.int .i64 (x:Int)] e (0,0) true)):=(Fr.refl H).alloc _;have k:Sl (H.alloc (.row [.int .i64 (x:Int)] e (0,0) true)) 1 (Op.sliceTo 1 1 H.au) 1 [.int .i64 (x:Int)]:=Al rfl;have B:∀n,Nat.beq n n=true:=λ n=>by simp
 have ha:aJ [AV.int .i64 (x:Int)]=true:=rfl;have j:Nat.blt 0 1=true:=rfl;have l:Nat.beq 1 0=false:=rfl;have d:=Rk E u;refine iW.intro rfl ?_;rcases h.own with⟨rfl,rfl⟩|⟨b,i,rest,rfl,J,y,z,L⟩
 .have d:fits 1 bytes=true:=by simpa using d
  refine iW.intro (a:=.gslice (H.au+1) 0 1 1 0 1) (b:=(H.alloc (.row [.int .i64 (x:Int)] e (0,0) true)).alloc (.grown 1 1 [.int .i64 (x:Int)] e (0,0))) ?_ (hk _ _ ⟨.inr ⟨H.au+1,1,[],rfl,?_,?_,rfl,?_⟩,?_⟩ ((f.alloc _).mono λ _ _ q=>q.elim) λ b hb=>.inr ?_)
  .simp only[Op.append,k.fj,k.first,qm,ha,xq,cV,l,zj,d,j,jo,di,xx]
  .rw [xx,xx];omega
  .have:=h.fr.au;omega
  .exact xf ..
  .exact (h.fr.em f).alloc _
  .rw [hb.2];show H.au<=H.au+1;omega
 .have p:(H.alloc (.row [.int .i64 (x:Int)] e (0,0) true)).get b=some (.grown i 1 (xs.flatMap gN++rest) e (0,0)):=by rw[wy J];exact L
  cases rest with
  |nil =>
   have hm:i=xs.length:=by simpa using z
   subst hm;have s:Nat.ble (0+xs.length+1) xs.length=false:=by cases F:Nat.ble (0+xs.length+1) xs.length with|false=>rfl|true=>rw[rX]at F;omega
   have t:=ve (show 0+xs.length<=xs.length by omega);have C:=ve (xy (xs.length*1));refine iW.intro (a:=.gslice (H.au+1) 0 (xs.length+1) 1 0 (xs.length+1)) (b:=((H.alloc (.row [.int .i64 (x:Int)] e (0,0) true)).kill b).alloc (.grown (xs.length+1) 1 (xs.flatMap gN ++ [.int .i64 (x:Int)]) e (0,0))) ?_ (hk _ _ ⟨.inr ⟨H.au+1,xs.length+1,[],?_,?_,?_,?_,?_⟩,?_⟩ ?_ λ b hb=>.inr ?_)
   .simp only[Op.append,k.fj,k.first,qm,ha,xq,cV,zj,B,t,j,jo,s,d,p,C,di,GH,xx,oE,zf,Nat.beq]
   .rw [qv];rfl
   .rw [xx,GH,xx];omega
   .have:=h.fr.au;omega
   .rw [qv];rfl
   .rw [zf,kz];have:=xf ((H.alloc (.row [.int .i64 (x:Int)] e (0,0) true)).kill b) (.grown (xs.length+1) 1 (xs.flatMap gN ++ [.int .i64 (x:Int)]) e (0,0));rw[GH,xx]at this;exact this
   .exact ((h.fr.em f).kill (.inr y)).alloc _
   .exact (Fr.kill (W:=aW (AV.gslice b 0 xs.length 1 0 xs.length)) (f.mono λ _ _ q=>q.elim) (.inl ⟨by simp,rfl⟩)).alloc _
   .rw [hb.2];show H.au<=H.au+1;omega
  |cons r rest =>
   have s:=ve (show 0+xs.length+1<=i by simp at z;omega);have t:=ve (show 0+xs.length<=i by omega);have w:(H.alloc (.row [.int .i64 (x:Int)] e (0,0) true)).store b ((0+xs.length)*1) [.int .i64 (x:Int)]=some ((H.alloc (.row [.int .i64 (x:Int)] e (0,0) true)).set b (.grown i 1 ((xs ++ [x]).flatMap gN++rest) e (0,0))):=by
    have G:dY (0,0) ((0+xs.length)*1) (cP [AV.int .i64 (x:Int)])=true:=by simp[dY]
    simp only[ar.store,ha,xq,p,G,Eg];rw[qr (by rw[qv,ur];simp),qm];congr 4;rw[j4,IY,j0 (by rw[ur];exact qg _),zg (by rw[ur];exact qg _),kz]
    .rfl
    .rw [j4,IY,show[AV.int .i64 (x:Int)].length=1 from rfl,AQ,jf (by rw[ur];omega),ur];simp
   refine iW.intro (a:=.gslice b 0 i 1 0 (xs.length+1)) (b:=(H.alloc (.row [.int .i64 (x:Int)] e (0,0) true)).set b (.grown i 1 ((xs ++ [x]).flatMap gN++rest) e (0,0))) ?_ (hk _ _ ⟨.inr ⟨b,i,rest,?_,?_,y,?_,?_⟩,?_⟩ ?_ λ c D=>.inl ⟨by simp,D.2⟩)
   .simp only[Op.append,k.fj,k.first,qm,ha,xq,cV,l,zj,B,t,j,jo,s,w]
   .rw [qv];rfl
   .rw [sT,xx];omega
   .rw [qv];simp at z⊢;omega
   .exact xc ..
   .exact (h.fr.em f).set (.inr y) _
   .exact Fr.set (W:=aW (AV.gslice b 0 i 1 0 xs.length)) (f.mono λ _ _ q=>q.elim) (.inl ⟨by simp,rfl⟩) _
end
end Go.Am
namespace Go.Am
def Jj{len size b o:Nat}{k:IntKind}{j:Int}{i:Nat}(c:j=i)(a:i<len):Op.aP len size [.ptr b o,.int k j]=some (.ptr b (o+i*size)):=by
 simp only[Op.aP,Ke c a,qm]
def N6{k:IntKind}{a:Nat}{b:Int}(hb:0<b):Op.bin .rem [.int k (a:Int),.int k b]=some (.int k ((a % b.toNat:Nat):Int)):=by
 rw[tz k _ _ (by omega),SM (by omega)];congr 2;rw[Int.natCast_emod];congr 1;omega
namespace Lang
def ints(l:List Nat):List Int:=l.map λ(n:Nat)=>(n:Int)
end Lang
end Go.Am
namespace Go.Am
def OC(k k':IntKind)(a:Int)(n:Nat):Op.bin .shr [.int k a,.int k' n]=some (.int k (a.fdiv (2 ^ (min n k.bits)))):=by
 have e:zE (n:Int) 0=false:=by rw[Nb];simp
 simp only[Op.bin,mV,dT,xq,sO,e,zj,Fv]
def Ob(k k':IntKind)(a:Int)(n:Nat):Op.bin .shl [.int k a,.int k' n]=some (.int k (aj k (a*2 ^ (min n k.bits)))):=by
 have e:zE (n:Int) 0=false:=by rw[Nb];simp
 simp only[Op.bin,mV,dT,xq,sO,e,zj,Fv]
end Go.Am
namespace Go.Am
namespace Lang
structure gP where
 op:Int
 a:Int
 b:Int
 c:Int
 zH:Int
def EL(o:Nat)(x y:Int):Int :=
 if o=4 then aj .u64 (x+y)else if o=5 then aj .u64 (x-y)else if o=6 then aj .u64 (x*y)
 else if o=7 then aj .u64 ((BitVec.ofInt 64 x &&& BitVec.ofInt 64 y).toNat)else if o=8 then aj .u64 ((BitVec.ofInt 64 x ^^^ BitVec.ofInt 64 y).toNat)
 else if o=9 then aj .u64 (x*2 ^ (y % 64).toNat)else aj .u64 (x / 2 ^ (y % 64).toNat)
structure mI where
 kind:Int
 au:Int
 oA:Int
 value:Int
 addr:Int
def gZ:mI:=⟨0,0,0,0,0⟩
def oQ(op:Nat):List UInt8 :=
 if op=2 then[65,73]else if op=3 then[65,66]else if 4<=op/\op<=10 then[65,66,67]
 else if op=11\/op=12\/op=14\/op=15\/op=16 then[65,66,73]else if op=13 then[73]else[]
def gP.mn(i:gP):Prop:=1<=i.op/\i.op<=18/\(65∈oQ i.op.toNat->0<=i.a/\i.a<8)/\(66∈oQ i.op.toNat->0<=i.b/\i.b<8)/\(67∈oQ i.op.toNat->0<=i.c/\i.c<8)
instance(i:gP):Decidable i.mn:=inferInstanceAs (Decidable (_/\_))
def pz(n:Int):Nat:=(BitVec.ofInt 64 n &&& 7#64).toNat
def rg(rs:List Int)(n:Int):Int:=rs.getD (pz n) 0
def mN(i:gP)(pc:Int)(q:Bool):mI:=if q=true then(if i.zH<0\/1024<i.zH then gZ else⟨2,i.zH,0,0,0⟩)else⟨2,pc+1,0,0,0⟩
def gP.fJ(i:gP)(rs:List Int)(pc:Int):mI :=
 if¬i.mn\/pc<0\/1024<=pc then gZ
 else if i.op=1 then⟨7,pc+1,0,0,0⟩
 else if i.op=2 then⟨1,pc+1,i.a,aj .u64 i.zH,0⟩
 else if i.op=3 then⟨1,pc+1,i.a,rg rs i.b,0⟩
 else if i.op<=10 then⟨1,pc+1,i.a,EL i.op.toNat (rg rs i.b) (rg rs i.c),0⟩
 else if i.op=11 then⟨3,pc+1,i.a,0,aj .u64 (rg rs i.b+aj .u64 i.zH)⟩
 else if i.op=12 then⟨4,pc+1,0,rg rs i.a,aj .u64 (rg rs i.b+aj .u64 i.zH)⟩
 else if i.op=13 then mN i pc true
 else if i.op=14 then mN i pc (decide (rg rs i.a=rg rs i.b))
 else if i.op=15 then mN i pc (decide (rg rs i.a≠rg rs i.b))
 else if i.op=16 then mN i pc (decide (rg rs i.a<rg rs i.b))
 else if i.op=17 then⟨5,pc+1,0,0,0⟩
 else⟨6,pc+1,0,0,0⟩
end Lang
end Go.Am
namespace Go.Am
def ua(AP:ak)(g:Nat)(pre cap:List AV)(N O:Nat->Prop)(H0:ar)(xs:List (List AV)):Prop :=
 ∀(L:Nat)(R:Nat->(Nat->Prop)->ar->Prop)(S:(Nat->Prop)->ar->Prop)(W0:Nat->Prop)(H:ar),
  H0.au<=H.au->(∀b,N b\/O b->b<H0.au/\H.get b=H0.get b /\ ¬W0 b)->R 0 W0 H->(∀b,W0 b->b<H.au) ->
  (∀i W H H',R i W H->(∀b,W b->H'.get b=H.get b)->H.au<=H'.au->R i W H')->(∀W H H',S W H->(∀b,W b->H'.get b=H.get b)->H.au<=H'.au->S W H') ->
  (∀(i:Nat)x,xs[i]? = some x -> ∀W H',R i W H'->(∀b,W b->b<H'.au/\(W0 b\/H.au<=b))->Fr (λ b=>W0 b\/O b) H H' ->
   ∃bb H'' W',sm AP L x H' (.ret (.bool bb)) H''/\Fr W H' H''/\(∀b,W' b->b<H''.au/\(W b\/H'.au<=b))/\(bb=true->R (i+1) W' H'')/\(bb=false->S W' H'')) ->
  ∃v H' W',CALL AP g (pre++(.fn (.yield L) [] []::cap)) H (.ret v) H'/\Fr (λ b=>W0 b\/O b) H H'/\(∀b,W' b->b<H'.au/\(W0 b\/H.au<=b))/\(R xs.length W' H'\/S W' H')
section
variable{AP:ak}
def xk3{f:Nat}{fn:b9}{k:Nat}{lp:dZ}(hf:AP.func f=some fn)(hk:nth fn.loops k=some lp){tm:T AV}{aX:List aM}{up:Option aE}{H:ar}{Q:cB}
 {g:Nat} {pre cap:List AV} {N O:Nat->Prop} {H0:ar} {xs:List (List AV)} (nD:ua AP g pre cap N O H0 xs)
 (P:Nat->(Nat->Prop)->ar->Prop) (M:aU->(Nat->Prop)->ar->Prop) (n:Nat->Prop)
 (hn:H0.au<=H.au) (hN:∀b,N b\/O b->b<H0.au/\H.get b=H0.get b /\ ¬n b) (B:∀b,n b->b<H.au) (h0:P 0 n H)
 (loc:∀i W H H',P i W H->(∀b,W b->H'.get b=H.get b)->H.au<=H'.au->P i W H') (C:∀e W H H',M e W H->(∀b,W b->H'.get b=H.get b)->H.au<=H'.au->M e W H')
 (S:∀(L d i:Nat)x,xs[i]? = some x->H.au<=L -> ∀W H1,P i W H1->(∀b,W b->b<H1.au/\(n b\/H.au<=b))->Fr (λ b=>n b\/O b) H H1 -> ¬W L->L<H1.au->H1.get L=some (.loop .ready none f k tm d) ->
  ∃X,KX tm lp.params x=some X/\WP AP ⟨some L,f⟩ lp.assign ⟨X,[],none,H1⟩ λ e cJ=>e=.normal/\cJ.H.get L=some (.loop .ready none f k tm d) /\
   WP AP ⟨some L,f⟩ lp.body ⟨cJ.tm,cJ.aX,cJ.up,cJ.H.set L (.loop .busy none f k tm d)⟩ λ u a=>a.aX=[]/\a.H.get L=some (.loop .busy none f k tm d) /\
    ∃W':Nat->Prop,(∀b,W' b->b<a.H.au/\(W b\/H1.au<=b))/\Fr (λ b=>W b\/b=L) H1 a.H/\(u=.normal/\P (i+1) W' a.H\/gn u/\M u W' a.H))
 (hend:∀d W' H',H.au<=d->d<H'.au->H'.get d=some (.deferred (some []))->Fr (λ b=>n b\/O b) H H'->(∀b,W' b->b<H'.au/\(n b\/H.au<=b)/\b≠d)->P xs.length W' H'->Q .normal ⟨tm,.iY d::aX,up,H'⟩)
 (U:∀e d W' H',gn e->H.au<=d->d<H'.au->H'.get d=some (.deferred (some []))->Fr (λ b=>n b\/O b) H H'->(∀b,W' b->b<H'.au/\(n b\/H.au<=b)/\b≠d)->M e W' H'->Q e ⟨tm,.iY d::aX,up,H'⟩) :
 IG AP ⟨none,f⟩ k ⟨tm,aX,up,H⟩ Q (.fn (.func g) pre cap):=by
 let d:=H.au
 let L:=H.au+1
 let Hd:=H.alloc (.deferred (some []))
 let HL:=Hd.alloc (.loop .ready none f k tm d)
 have c:HL.au=H.au+2:=rfl
 have hgL:HL.get L=some (.loop .ready none f k tm d):=xf Hd _;have hgd:HL.get d=some (.deferred (some [])):=by rw[show HL.get d=Hd.get d from wy (by show H.au<H.au+1;omega) _];exact xf H _
 have hfr0:Fr Em H HL:=((Fr.refl H).alloc _).alloc _;have hold:∀b,b<H.au->HL.get b=H.get b:=λ b hb=>hfr0.ah b hb (λ q=>q)
 obtain⟨v,H',W',hc,E,D,hres⟩:=nD L
  (λ i W H'=>∃V:Nat->Prop,(∀b,V b->W b)/\W L /\ ¬V L /\ ¬W d/\(∀b,W b->V b\/b=L)/\P i V H'/\H'.get L=some (.loop .ready none f k tm d)/\L<H'.au)
  (λ W H'=>∃(V:Nat->Prop)(e:aU)(j:gU),(∀b,V b->W b)/\W L /\ ¬V L /\ ¬W d/\(∀b,W b->V b\/b=L)/\gn e/\jV e=some j/\M e V H'/\H'.get L=some (.loop .done (some j) f k tm d)/\L<H'.au)
  (λ b=>n b\/b=L) HL (by rw[c];omega)
  (λ b hb=>by
   obtain⟨h1,h2,h3⟩:=hN b hb;exact⟨h1,by rw[hold b (by omega)];exact h2,λ q=>q.elim h3 λ q=>by have:L=H.au+1:=rfl;omega⟩)
  ⟨n,λ b hb=>.inl hb,.inr rfl,λ q=>by have:=B _ q;have:L=H.au+1:=rfl;omega,λ q=>q.elim (λ q=>by have:=B _ q;have:d=H.au:=rfl;omega) λ q=>by have:d=H.au:=rfl;have:L=H.au+1:=rfl;omega,
   λ b hb=>hb,loc 0 n H HL h0 (λ b hb=>hold b (B b hb)) (by rw[c];omega),hgL,by rw[c];show H.au+1<H.au+2;omega⟩
  (λ b hb=>hb.elim (λ q=>by have:=B b q;rw[c];omega) λ q=>by rw[c,q];show H.au+1<H.au+2;omega)
  (λ i W H1 t⟨V,v1,v2,y,v4,Y,v6,z,G⟩hs hle=>⟨V,v1,v2,y,v4,Y,loc i V H1 t v6 (λ b hb=>hs b (v1 b hb)) hle,by rw[hs L v2];exact z,qj G hle⟩)
  (λ W H1 t⟨V,e,j,v1,v2,y,v4,Y,v6,z,G,v9,v10⟩hs hle=>⟨V,e,j,v1,v2,y,v4,Y,v6,z,C e V H1 t G (λ b hb=>hs b (v1 b hb)) hle,by rw[hs L v2];exact v9,qj v10 hle⟩)
  (λ i x hx W H1⟨V,v1,v2,y,v4,Y,v6,z,G⟩hb I=>by
   have hLn0:L=H.au+1:=rfl
   have hfr1:Fr (λ b=>n b\/O b) H H1:=⟨xv (by rw[c];omega) I.au,λ b hb hw=>by rw[I.ah b (by rw[c];omega) (λ q=>q.elim (λ q=>q.elim (λ q=>hw (.inl q)) λ q=>by omega) λ q=>hw (.inr q)),hold b hb]⟩
   have hbV:∀b,V b->b<H1.au/\(n b\/H.au<=b):=λ b q=>⟨(hb b (v1 b q)).1,(hb b (v1 b q)).2.elim (λ r=>r.elim .inl λ r=>by subst r;exact(y q).elim) λ r=>.inr (by rw[c]at r;omega)⟩
   obtain⟨X,hbp,hw⟩:=S L d i x hx (by show H.au<=H.au+1;omega) V H1 v6 hbV hfr1 y G z;obtain⟨e,t,hr,bb,rfl,l,k1,k2,k3,k4⟩:=Zx (Q:=λ e t=>∃bb,e=.ret (.bool bb) /\ ∃l:Nat->Prop,Fr W H1 t/\(∀b,l b->b<t.au/\(W b\/H1.au<=b)) /\
    (bb=true -> ∃V:Nat->Prop,(∀b,V b->l b)/\l L /\ ¬V L /\ ¬l d/\(∀b,l b->V b\/b=L)/\P (i+1) V t/\t.get L=some (.loop .ready none f k tm d)/\L<t.au) /\
    (bb=false -> ∃(V:Nat->Prop)(e:aU)(j:gU),(∀b,V b->l b)/\l L /\ ¬V L /\ ¬l d/\(∀b,l b->V b\/b=L)/\gn e/\jV e=some j/\M e V t/\t.get L=some (.loop .done (some j) f k tm d)/\L<t.au)) z hf hk hbp
    (pL hw λ e cJ⟨he,hgl,hw2⟩=>by
     subst he;show bM aG (beginRound cJ.H L) _;have:beginRound cJ.H L=some (cJ.H.set L (.loop .busy none f k tm d)):=by unfold beginRound;rw[hgl]
     rw[this];refine pL hw2 λ u a⟨hd2,hg2,W',w1,w2,w3⟩=>⟨hd2,?_⟩
     have R:L<a.H.au:=qj G w2.au
     have hd1:d<H1.au:=by have:d=H.au:=rfl;have:L=H.au+1:=rfl;omega
     have fin:∀s p,Fr W H1 (a.H.set L (.loop s p f k tm d)):=λ s p=>⟨w2.au,λ b hb hw=>by
      rw[ar.aI,qo (by rintro rfl;exact hw v2)];exact w2.ah b hb λ q=>q.elim (λ q=>hw (v1 b q)) λ q=>hw (by rw[q];exact v2)⟩
     have hW'L:∀b,(W' b/\b≠L)->(a.H.set L (.loop .ready none f k tm d)).get b=a.H.get b:=λ b hb=>by rw[ar.aI,qo (λ q=>hb.2 q.symm)]
     have F:¬W' L:=λ q=>by
      rcases(w1 L q).2 with q|q
      .exact y q
      .omega
     have hnd:¬W' d:=λ q=>by
      rcases(w1 d q).2 with q|q
      .exact v4 (v1 d q)
      .omega
     have w:d≠L:=by show H.au≠H.au+1;omega
     have bounds:∀b,(W' b\/b=L)->b<a.H.au/\(W b\/H1.au<=b):=λ b hb=>hb.elim (λ q=>⟨(w1 b q).1,(w1 b q).2.imp (v1 b) id⟩) λ q=>by subst q;exact⟨R,.inl v2⟩
     rcases w3 with⟨rfl,w3⟩|⟨hj,w3⟩
     .show bM aG (cK a.H L (cond true .ready .done) none) _;have:cK a.H L .ready none=some (a.H.set L (.loop .ready none f k tm d)):=by unfold cK;rw[hg2]
      rw[xq,this];refine⟨true,rfl,λ b=>W' b\/b=L,fin _ _,bounds,λ _=>⟨W',λ b hb=>.inl hb,.inr rfl,F,λ q=>q.elim hnd w,λ b hb=>hb,loc _ _ _ _ w3 (λ b hb=>by rw[ar.aI,qo (by rintro rfl;exact F hb)]) (qg _),xc _ _ _,R⟩,λ h=>by cases h⟩
     .obtain ⟨j,hj2⟩:∃j,jV u=some j:=by cases u<;>first|exact hj.elim|exact⟨_,rfl⟩
      have hnn:xX u=false:=by cases u<;>first|exact hj.elim|rfl
      have m:∀(A:Prop),(bM aG (cK a.H L (cond (xX u) .ready .done) (jV u)) λ H=>∃bb,(bG.ret (.bool (xX u))=.ret (.bool bb)) /\ ∃l:Nat->Prop,Fr W H1 H/\(∀b,l b->b<H.au/\(W b\/H1.au<=b)) /\
       (bb=true -> ∃V:Nat->Prop,(∀b,V b->l b)/\l L /\ ¬V L /\ ¬l d/\(∀b,l b->V b\/b=L)/\P (i+1) V H/\H.get L=some (.loop .ready none f k tm d)/\L<H.au) /\
       (bb=false -> ∃(V:Nat->Prop)(e:aU)(j:gU),(∀b,V b->l b)/\l L /\ ¬V L /\ ¬l d/\(∀b,l b->V b\/b=L)/\gn e/\jV e=some j/\M e V H/\H.get L=some (.loop .done (some j) f k tm d)/\L<H.au)):=λ _=>by
       have:cK a.H L .done (some j)=some (a.H.set L (.loop .done (some j) f k tm d)):=by unfold cK;rw[hg2]
       rw[hnn,hj2,zj,this];refine⟨false,rfl,λ b=>W' b\/b=L,fin _ _,bounds,λ h=>(by cases h),λ _=>⟨W',u,j,λ b hb=>.inl hb,.inr rfl,F,λ q=>q.elim hnd w,λ b hb=>hb,hj,hj2,C _ _ _ _ w3 (λ b hb=>by rw[ar.aI,qo (by rintro rfl;exact F hb)]) (qg _),xc _ _ _,R⟩⟩
      cases u with
      |normal=>exact hj.elim
      |panic _=>exact hj.elim
      |exit _=>exact m True
      |goto _=>exact m True
      |ret=>exact m True)
   exact⟨bb,t,l,hr,k1,k2,k3,k4⟩)
 have w:d≠L:=by show H.au≠H.au+1;omega
 have hdW:¬((n d\/d=L)\/O d):=λ q=>q.elim (λ q=>q.elim (λ q=>by have:=B _ q;have:d=H.au:=rfl;omega) w) λ q=>by have:=(hN d (.inr q)).1;have:d=H.au:=rfl;omega
 have J:H'.get d=some (.deferred (some [])):=by rw[E.ah d (by rw[c];show H.au<H.au+2;omega) hdW];exact hgd
 have Z:d<H'.au:=qj (by rw[c];show H.au<H.au+2;omega) E.au
 have K:∀(o:bH),Fr (λ b=>n b\/O b) H (H'.set L o):=λ o=>⟨xv (by rw[c];omega) E.au,λ b hb hw=>by
  have:L=H.au+1:=rfl
  rw[ar.aI,qo (by omega),E.ah b (by rw[c];omega) (λ q=>q.elim (λ q=>q.elim (λ q=>hw (.inl q)) λ q=>by omega) λ q=>hw (.inr q)),hold b hb]⟩
 refine⟨.ret v,H',hc,?_⟩;rcases hres with⟨V,v1,v2,y,v4,Y,v6,z,G⟩|⟨V,e,j,v1,v2,y,v4,Y,v6,z,G,v9,v10⟩
 .refine ⟨.ready,none,f,k,tm,d,z,by simp,?_⟩;refine hend d V _ (qg _) Z (by rw[ar.aI,qo (λ q=>w q.symm)];exact J) (K _) (λ b hb=>⟨(D b (v1 b hb)).1,?_,λ q=>v4 (by rw[<-q];exact v1 b hb)⟩) (loc _ _ _ _ v6 (λ b hb=>by rw[ar.aI,qo (by rintro rfl;exact y hb)]) (qg _));rcases(D b (v1 b hb)).2 with q|q
  .exact q.imp id λ q=>by subst q;exact(y hb).elim
  .rw [c]at q;exact .inr (by omega)
 .refine ⟨.done,some j,f,k,tm,d,v9,by simp,?_⟩;have he:qF (some j)=e:=by cases e<;>first|exact v6.elim|(injection z with z;subst z;rfl)
  rw[he];refine U e d V _ v6 (qg _) Z (by rw[ar.aI,qo (λ q=>w q.symm)];exact J) (K _) (λ b hb=>⟨(D b (v1 b hb)).1,?_,λ q=>v4 (by rw[<-q];exact v1 b hb)⟩) (C _ _ _ _ G (λ b hb=>by rw[ar.aI,qo (by rintro rfl;exact y hb)]) (qg _));rcases(D b (v1 b hb)).2 with q|q
  .exact q.imp id λ q=>by subst q;exact(y hb).elim
  .rw [c]at q;exact .inr (by omega)
def wG:List Nat->List AV->Env->Option Env
 |[],[],E=>some E
 |t::ts,v::vs,E=>wG ts vs ((t,v)::E)
 |_,_,_=>none
def Wd(M:ak)(ctx:Ctx)(b:Kp×ai)(L:Nat)(lr lb:bH)(Q:aF):aF:=λ e E D H=>match e with
 | .normal=>H.get L=some lr/\W M ctx b true Q E D (H.set L lb)
 |_=>False
def Fb(M:ak)(ctx:Ctx)(b:Kp×ai)(L:Nat)(lr lb:bH)(Q:aF)(E:Env)(D:List aM)(H:ar):Wd M ctx b L lr lb Q .normal E D H=(H.get L=some lr/\W M ctx b true Q E D (H.set L lb)):=propext j5
def PL(P:(Nat->Prop)->ar->Prop)(PS:aU->(Nat->Prop)->ar->Prop)(L:Nat)(lb:bH)(W:Nat->Prop)(H1:ar):aF:=λ e _ D H=>D=[]/\H.get L=some lb /\
 ∃W':Nat->Prop,(∀b,W' b->b<H.au/\(W b\/H1.au<=b))/\Fr (λ b=>W b\/b=L) H1 H/\(e=.normal/\P W' H\/gn e/\PS e W' H)
def fP.cons{ks:List Nat}{E:Env}{tm:T AV}(h:fP ks E tm){t:Nat}(v:AV)(c:bD t ks=true):fP ks ((t,v)::E) (tm.set t v):=λ u x hu=>by
 rw[uO]at hu;split at hu
 .rename_i e;subst e;injection hu with hu;subst hu
  exact⟨by rw[T.aI,qr rfl],c⟩
 .rename_i e;obtain⟨a,b⟩:=h u x hu;exact⟨by rw[T.aI,qo e,a],b⟩
def We{ks:List Nat}:∀{ts:List Nat}{vs:List AV}{E b:Env}{tm:T AV},fP ks E tm->(∀t∈ts,bD t ks=true)->wG ts vs E=some b -> ∃a,KX tm ts vs=some a/\fP ks b a
 |[],[],E,b,tm,h,ht,hb=>by injection hb with hb;subst hb;exact⟨tm,rfl,h⟩
 |[],_::_,_,_,_,_,_,hb=>nomatch hb
 |_::_,[],_,_,_,_,_,hb=>nomatch hb
 |t::ts,v::vs,E,b,tm,h,ht,hb=>We (ts:=ts) (vs:=vs) (h.cons v (ht t (I1 ..))) (λ u hu=>ht u (vw _ hu)) hb
def jC.iter{f:Nat}{fn:b9}{k:Nat}{lp:dZ}(hf:AP.func f=some fn)(hk:nth fn.loops k=some lp){ks:List Nat}{ts:List Nat}(hp:lp.params=ts)(R:∀t∈ts,bD t ks=true){pa pb:Kp×ai}(ha:pa.1.ah=ks/\pa.2=lp.assign)(hb:pb.1.ah=ks/\pb.2=lp.body)
 {E:Env} {D:List aM} {H:ar} {Q:aF} {g:Nat} {pre cap:List AV} {N O:Nat->Prop} {H0:ar} {xs:List (List AV)} (nD:ua AP g pre cap N O H0 xs)
 (P:Nat->(Nat->Prop)->ar->Prop) (j:aU->(Nat->Prop)->ar->Prop) (a:Nat->Prop)
 (hn:H0.au<=H.au) (hN:∀b,N b\/O b->b<H0.au/\H.get b=H0.get b /\ ¬a b) (C:∀b,a b->b<H.au) (p:P 0 a H)
 (loc:∀i W H H',P i W H->(∀b,W b->H'.get b=H.get b)->H.au<=H'.au->P i W H') (n:∀e W H H',j e W H->(∀b,W b->H'.get b=H.get b)->H.au<=H'.au->j e W H')
 (c:∀(L i:Nat)(lr lb:bH)x,xs[i]? = some x->H.au<=L -> ∀W' H1,P i W' H1->(∀b,W' b->b<H1.au/\(a b\/H.au<=b))->Fr (λ b=>a b\/O b) H H1 -> ¬W' L->L<H1.au->H1.get L=some lr ->
  ∃o,wG ts x E=some o/\W AP ⟨some L,f⟩ pa true (Wd AP ⟨some L,f⟩ pb L lr lb (PL (P (i+1)) j L lb W' H1)) o [] H1)
 (l:∀d W' H',H.au<=d->d<H'.au->H'.get d=some (.deferred (some []))->Fr (λ b=>a b\/O b) H H'->(∀b,W' b->b<H'.au/\(a b\/H.au<=b)/\b≠d)->P xs.length W' H'->Q .normal E (.iY d::D) H')
 (h:∀e d W' H',gn e->H.au<=d->d<H'.au->H'.get d=some (.deferred (some []))->Fr (λ b=>a b\/O b) H H'->(∀b,W' b->b<H'.au/\(a b\/H.au<=b)/\b≠d)->j e W' H'->Q e E (.iY d::D) H') :
 jC AP ks ⟨none,f⟩ k E D H Q (.fn (.func g) pre cap):=by
 intro tm up he;refine xk3 hf hk nD P j a hn hN C p loc n ?_ (λ d W' H' q r s u w y=>⟨rfl,rfl,l d W' H' q r s u w y⟩) (λ e d W' H' p q r s u w y=>⟨rfl,rfl,h e d W' H' p q r s u w y⟩);intro L d i x hx hL W' H1 hP hW I M B K;obtain⟨o,A,hw⟩:=c L i (.loop .ready none f k tm d) (.loop .busy none f k tm d) x hx hL W' H1 hP hW I M B K;obtain⟨T,F,G⟩:=We he R A;refine⟨T,by rw[hp];exact F,?_⟩;rw[kS]at hw;have:=W3.wp _ _ (qg _) (up:=none) hw (by rw[ha.1];exact G);rw[ha.2]at this;refine pL this λ e cJ⟨S,X,z,U⟩=>?_;cases e with
 |normal =>
  obtain⟨hg,m⟩:=U;refine⟨rfl,hg,?_⟩;rw[kS]at m;have:=W3.wp _ _ (qg _) (up:=none) m (show fP pb.1.ah X cJ.tm by rw[hb.1,<-ha.1];exact z);rw[hb.2]at this;rw[S];refine pL this λ e2 st2⟨V,E2,Z,hd,J,Y,k1,k2,k3⟩=>⟨hd,J,Y,k1,k2,k3⟩
 |_=>exact U.elim
def JW(rs:List dX)(Q:bG->ar->Prop)(E:Env)(d:Nat)(H:ar):eY AP rs Q .ret E [.iY d] H=(H.get d=some (.deferred (some []))/\iX E (H.set d (.deferred none)) rs λ l=>Q (.ret (iT l)) (H.set d (.deferred none))):=propext j5
end
end Go.Am
namespace Go.Am
def tD(AP:ak)(g:Nat)(pre cap:List AV)(N O:Nat->Prop)(I:ar->Prop)(H0:ar)(xs:List (List AV)):Prop :=
 ∀(L:Nat)(R:Nat->(Nat->Prop)->ar->Prop)(S:(Nat->Prop)->ar->Prop)(W0:Nat->Prop)(H:ar),
  H0.au<=H.au->(∀b,N b\/O b->b<H0.au/\H.get b=H0.get b /\ ¬W0 b)->R 0 W0 H->(∀b,W0 b->b<H.au) ->
  (∀i W H H',R i W H->(∀b,W b->H'.get b=H.get b)->H.au<=H'.au->R i W H')->(∀W H H',S W H->(∀b,W b->H'.get b=H.get b)->H.au<=H'.au->S W H') ->
  (∀i W H',R i W H'->I H') ->
  (∀(i:Nat)x,xs[i]? = some x -> ∀W H',R i W H'->(∀b,W b->b<H'.au/\(W0 b\/H.au<=b))->Fr (λ b=>W0 b\/O b) H H' ->
   ∃bb H'' W',sm AP L x H' (.ret (.bool bb)) H''/\Fr W H' H''/\(∀b,W' b->b<H''.au/\(W b\/H'.au<=b))/\(bb=true->R (i+1) W' H'')/\(bb=false->S W' H'')) ->
  ∃v H' W',CALL AP g (pre++(.fn (.yield L) [] []::cap)) H (.ret v) H'/\Fr (λ b=>W0 b\/O b) H H'/\(∀b,W' b->b<H'.au/\(W0 b\/H.au<=b))/\(R xs.length W' H'\/S W' H')
section
variable{AP:ak}
def xk2{f:Nat}{fn:b9}{k:Nat}{lp:dZ}(hf:AP.func f=some fn)(hk:nth fn.loops k=some lp){tm:T AV}{aX:List aM}{up:Option aE}{H:ar}{Q:cB}
 {g:Nat} {pre cap:List AV} {N O:Nat->Prop} {I:ar->Prop} {H0:ar} {xs:List (List AV)} (nD:tD AP g pre cap N O I H0 xs)
 (P:Nat->(Nat->Prop)->ar->Prop) (R:aU->(Nat->Prop)->ar->Prop) (n:Nat->Prop)
 (hn:H0.au<=H.au) (hN:∀b,N b\/O b->b<H0.au/\H.get b=H0.get b /\ ¬n b) (B:∀b,n b->b<H.au) (h0:P 0 n H)
 (loc:∀i W H H',P i W H->(∀b,W b->H'.get b=H.get b)->H.au<=H'.au->P i W H') (C:∀e W H H',R e W H->(∀b,W b->H'.get b=H.get b)->H.au<=H'.au->R e W H') (hI:∀i W H,P i W H->I H)
 (U:∀(L d i:Nat)x,xs[i]? = some x->H.au<=L -> ∀W H1,P i W H1->(∀b,W b->b<H1.au/\(n b\/H.au<=b))->Fr (λ b=>n b\/O b) H H1 -> ¬W L->L<H1.au->H1.get L=some (.loop .ready none f k tm d) ->
  ∃Y,KX tm lp.params x=some Y/\WP AP ⟨some L,f⟩ lp.assign ⟨Y,[],none,H1⟩ λ e cJ=>e=.normal/\cJ.H.get L=some (.loop .ready none f k tm d) /\
   WP AP ⟨some L,f⟩ lp.body ⟨cJ.tm,cJ.aX,cJ.up,cJ.H.set L (.loop .busy none f k tm d)⟩ λ w a=>a.aX=[]/\a.H.get L=some (.loop .busy none f k tm d) /\
    ∃W':Nat->Prop,(∀b,W' b->b<a.H.au/\(W b\/H1.au<=b))/\Fr (λ b=>W b\/b=L) H1 a.H/\(w=.normal/\P (i+1) W' a.H\/gn w/\R w W' a.H))
 (hend:∀d W' H',H.au<=d->d<H'.au->H'.get d=some (.deferred (some []))->Fr (λ b=>n b\/O b) H H'->(∀b,W' b->b<H'.au/\(n b\/H.au<=b)/\b≠d)->P xs.length W' H'->Q .normal ⟨tm,.iY d::aX,up,H'⟩)
 (X:∀e d W' H',gn e->H.au<=d->d<H'.au->H'.get d=some (.deferred (some []))->Fr (λ b=>n b\/O b) H H'->(∀b,W' b->b<H'.au/\(n b\/H.au<=b)/\b≠d)->R e W' H'->Q e ⟨tm,.iY d::aX,up,H'⟩) :
 IG AP ⟨none,f⟩ k ⟨tm,aX,up,H⟩ Q (.fn (.func g) pre cap):=by
 let d:=H.au
 let L:=H.au+1
 let Hd:=H.alloc (.deferred (some []))
 let HL:=Hd.alloc (.loop .ready none f k tm d)
 have c:HL.au=H.au+2:=rfl
 have hgL:HL.get L=some (.loop .ready none f k tm d):=xf Hd _;have hgd:HL.get d=some (.deferred (some [])):=by rw[show HL.get d=Hd.get d from wy (by show H.au<H.au+1;omega) _];exact xf H _
 have hfr0:Fr Em H HL:=((Fr.refl H).alloc _).alloc _;have hold:∀b,b<H.au->HL.get b=H.get b:=λ b hb=>hfr0.ah b hb (λ q=>q)
 obtain⟨v,H',W',hc,F,E,hres⟩:=nD L
  (λ i W H'=>∃V:Nat->Prop,(∀b,V b->W b)/\W L /\ ¬V L /\ ¬W d/\(∀b,W b->V b\/b=L)/\P i V H'/\H'.get L=some (.loop .ready none f k tm d)/\L<H'.au)
  (λ W H'=>∃(V:Nat->Prop)(e:aU)(j:gU),(∀b,V b->W b)/\W L /\ ¬V L /\ ¬W d/\(∀b,W b->V b\/b=L)/\gn e/\jV e=some j/\R e V H'/\H'.get L=some (.loop .done (some j) f k tm d)/\L<H'.au)
  (λ b=>n b\/b=L) HL (by rw[c];omega)
  (λ b hb=>by
   obtain⟨h1,h2,h3⟩:=hN b hb;exact⟨h1,by rw[hold b (by omega)];exact h2,λ q=>q.elim h3 λ q=>by have:L=H.au+1:=rfl;omega⟩)
  ⟨n,λ b hb=>.inl hb,.inr rfl,λ q=>by have:=B _ q;have:L=H.au+1:=rfl;omega,λ q=>q.elim (λ q=>by have:=B _ q;have:d=H.au:=rfl;omega) λ q=>by have:d=H.au:=rfl;have:L=H.au+1:=rfl;omega,
   λ b hb=>hb,loc 0 n H HL h0 (λ b hb=>hold b (B b hb)) (by rw[c];omega),hgL,by rw[c];show H.au+1<H.au+2;omega⟩
  (λ b hb=>hb.elim (λ q=>by have:=B b q;rw[c];omega) λ q=>by rw[c,q];show H.au+1<H.au+2;omega)
  (λ i W H1 t⟨V,v1,v2,u,v4,Z,v6,z,D⟩hs hle=>⟨V,v1,v2,u,v4,Z,loc i V H1 t v6 (λ b hb=>hs b (v1 b hb)) hle,by rw[hs L v2];exact z,qj D hle⟩)
  (λ W H1 t⟨V,e,j,v1,v2,u,v4,Z,v6,z,D,v9,v10⟩hs hle=>⟨V,e,j,v1,v2,u,v4,Z,v6,z,C e V H1 t D (λ b hb=>hs b (v1 b hb)) hle,by rw[hs L v2];exact v9,qj v10 hle⟩)
  (λ i W H1⟨V,v1,v2,u,v4,Z,v6,z,D⟩=>hI i V H1 v6)
  (λ i x hx W H1⟨V,v1,v2,u,v4,Z,v6,z,D⟩hb J=>by
   have hLn0:L=H.au+1:=rfl
   have hfr1:Fr (λ b=>n b\/O b) H H1:=⟨xv (by rw[c];omega) J.au,λ b hb hw=>by rw[J.ah b (by rw[c];omega) (λ q=>q.elim (λ q=>q.elim (λ q=>hw (.inl q)) λ q=>by omega) λ q=>hw (.inr q)),hold b hb]⟩
   have hbV:∀b,V b->b<H1.au/\(n b\/H.au<=b):=λ b q=>⟨(hb b (v1 b q)).1,(hb b (v1 b q)).2.elim (λ r=>r.elim .inl λ r=>by subst r;exact(u q).elim) λ r=>.inr (by rw[c]at r;omega)⟩
   obtain⟨Y,hbp,hw⟩:=U L d i x hx (by show H.au<=H.au+1;omega) V H1 v6 hbV hfr1 u D z;obtain⟨e,t,hr,bb,rfl,l,k1,k2,k3,k4⟩:=Zx (Q:=λ e t=>∃bb,e=.ret (.bool bb) /\ ∃l:Nat->Prop,Fr W H1 t/\(∀b,l b->b<t.au/\(W b\/H1.au<=b)) /\
    (bb=true -> ∃V:Nat->Prop,(∀b,V b->l b)/\l L /\ ¬V L /\ ¬l d/\(∀b,l b->V b\/b=L)/\P (i+1) V t/\t.get L=some (.loop .ready none f k tm d)/\L<t.au) /\
    (bb=false -> ∃(V:Nat->Prop)(e:aU)(j:gU),(∀b,V b->l b)/\l L /\ ¬V L /\ ¬l d/\(∀b,l b->V b\/b=L)/\gn e/\jV e=some j/\R e V t/\t.get L=some (.loop .done (some j) f k tm d)/\L<t.au)) z hf hk hbp
    (pL hw λ e cJ⟨he,hgl,hw2⟩=>by
     subst he;show bM aG (beginRound cJ.H L) _;have:beginRound cJ.H L=some (cJ.H.set L (.loop .busy none f k tm d)):=by unfold beginRound;rw[hgl]
     rw[this];refine pL hw2 λ w a⟨hd2,hg2,W',w1,w2,w3⟩=>⟨hd2,?_⟩
     have S:L<a.H.au:=qj D w2.au
     have hd1:d<H1.au:=by have:d=H.au:=rfl;have:L=H.au+1:=rfl;omega
     have fin:∀s p,Fr W H1 (a.H.set L (.loop s p f k tm d)):=λ s p=>⟨w2.au,λ b hb hw=>by
      rw[ar.aI,qo (by rintro rfl;exact hw v2)];exact w2.ah b hb λ q=>q.elim (λ q=>hw (v1 b q)) λ q=>hw (by rw[q];exact v2)⟩
     have hW'L:∀b,(W' b/\b≠L)->(a.H.set L (.loop .ready none f k tm d)).get b=a.H.get b:=λ b hb=>by rw[ar.aI,qo (λ q=>hb.2 q.symm)]
     have G:¬W' L:=λ q=>by
      rcases(w1 L q).2 with q|q
      .exact u q
      .omega
     have hnd:¬W' d:=λ q=>by
      rcases(w1 d q).2 with q|q
      .exact v4 (v1 d q)
      .omega
     have y:d≠L:=by show H.au≠H.au+1;omega
     have bounds:∀b,(W' b\/b=L)->b<a.H.au/\(W b\/H1.au<=b):=λ b hb=>hb.elim (λ q=>⟨(w1 b q).1,(w1 b q).2.imp (v1 b) id⟩) λ q=>by subst q;exact⟨S,.inl v2⟩
     rcases w3 with⟨rfl,w3⟩|⟨hj,w3⟩
     .show bM aG (cK a.H L (cond true .ready .done) none) _;have:cK a.H L .ready none=some (a.H.set L (.loop .ready none f k tm d)):=by unfold cK;rw[hg2]
      rw[xq,this];refine⟨true,rfl,λ b=>W' b\/b=L,fin _ _,bounds,λ _=>⟨W',λ b hb=>.inl hb,.inr rfl,G,λ q=>q.elim hnd y,λ b hb=>hb,loc _ _ _ _ w3 (λ b hb=>by rw[ar.aI,qo (by rintro rfl;exact G hb)]) (qg _),xc _ _ _,S⟩,λ h=>by cases h⟩
     .obtain ⟨j,hj2⟩:∃j,jV w=some j:=by cases w<;>first|exact hj.elim|exact⟨_,rfl⟩
      have hnn:xX w=false:=by cases w<;>first|exact hj.elim|rfl
      have m:∀(A:Prop),(bM aG (cK a.H L (cond (xX w) .ready .done) (jV w)) λ H=>∃bb,(bG.ret (.bool (xX w))=.ret (.bool bb)) /\ ∃l:Nat->Prop,Fr W H1 H/\(∀b,l b->b<H.au/\(W b\/H1.au<=b)) /\
       (bb=true -> ∃V:Nat->Prop,(∀b,V b->l b)/\l L /\ ¬V L /\ ¬l d/\(∀b,l b->V b\/b=L)/\P (i+1) V H/\H.get L=some (.loop .ready none f k tm d)/\L<H.au) /\
       (bb=false -> ∃(V:Nat->Prop)(e:aU)(j:gU),(∀b,V b->l b)/\l L /\ ¬V L /\ ¬l d/\(∀b,l b->V b\/b=L)/\gn e/\jV e=some j/\R e V H/\H.get L=some (.loop .done (some j) f k tm d)/\L<H.au)):=λ _=>by
       have:cK a.H L .done (some j)=some (a.H.set L (.loop .done (some j) f k tm d)):=by unfold cK;rw[hg2]
       rw[hnn,hj2,zj,this];refine⟨false,rfl,λ b=>W' b\/b=L,fin _ _,bounds,λ h=>(by cases h),λ _=>⟨W',w,j,λ b hb=>.inl hb,.inr rfl,G,λ q=>q.elim hnd y,λ b hb=>hb,hj,hj2,C _ _ _ _ w3 (λ b hb=>by rw[ar.aI,qo (by rintro rfl;exact G hb)]) (qg _),xc _ _ _,S⟩⟩
      cases w with
      |normal=>exact hj.elim
      |panic _=>exact hj.elim
      |exit _=>exact m True
      |goto _=>exact m True
      |ret=>exact m True)
   exact⟨bb,t,l,hr,k1,k2,k3,k4⟩)
 have y:d≠L:=by show H.au≠H.au+1;omega
 have hdW:¬((n d\/d=L)\/O d):=λ q=>q.elim (λ q=>q.elim (λ q=>by have:=B _ q;have:d=H.au:=rfl;omega) y) λ q=>by have:=(hN d (.inr q)).1;have:d=H.au:=rfl;omega
 have K:H'.get d=some (.deferred (some [])):=by rw[F.ah d (by rw[c];show H.au<H.au+2;omega) hdW];exact hgd
 have hd':d<H'.au:=qj (by rw[c];show H.au<H.au+2;omega) F.au
 have M:∀(o:bH),Fr (λ b=>n b\/O b) H (H'.set L o):=λ o=>⟨xv (by rw[c];omega) F.au,λ b hb hw=>by
  have:L=H.au+1:=rfl
  rw[ar.aI,qo (by omega),F.ah b (by rw[c];omega) (λ q=>q.elim (λ q=>q.elim (λ q=>hw (.inl q)) λ q=>by omega) λ q=>hw (.inr q)),hold b hb]⟩
 refine⟨.ret v,H',hc,?_⟩;rcases hres with⟨V,v1,v2,u,v4,Z,v6,z,D⟩|⟨V,e,j,v1,v2,u,v4,Z,v6,z,D,v9,v10⟩
 .refine ⟨.ready,none,f,k,tm,d,z,by simp,?_⟩;refine hend d V _ (qg _) hd' (by rw[ar.aI,qo (λ q=>y q.symm)];exact K) (M _) (λ b hb=>⟨(E b (v1 b hb)).1,?_,λ q=>v4 (by rw[<-q];exact v1 b hb)⟩) (loc _ _ _ _ v6 (λ b hb=>by rw[ar.aI,qo (by rintro rfl;exact u hb)]) (qg _));rcases(E b (v1 b hb)).2 with q|q
  .exact q.imp id λ q=>by subst q;exact(u hb).elim
  .rw [c]at q;exact .inr (by omega)
 .refine ⟨.done,some j,f,k,tm,d,v9,by simp,?_⟩;have he:qF (some j)=e:=by cases e<;>first|exact v6.elim|(injection z with z;subst z;rfl)
  rw[he];refine X e d V _ v6 (qg _) hd' (by rw[ar.aI,qo (λ q=>y q.symm)];exact K) (M _) (λ b hb=>⟨(E b (v1 b hb)).1,?_,λ q=>v4 (by rw[<-q];exact v1 b hb)⟩) (C _ _ _ _ D (λ b hb=>by rw[ar.aI,qo (by rintro rfl;exact u hb)]) (qg _));rcases(E b (v1 b hb)).2 with q|q
  .exact q.imp id λ q=>by subst q;exact(u hb).elim
  .rw [c]at q;exact .inr (by omega)
def jC.tt{f:Nat}{fn:b9}{k:Nat}{lp:dZ}(hf:AP.func f=some fn)(hk:nth fn.loops k=some lp){ks:List Nat}{ts:List Nat}(hp:lp.params=ts)(S:∀t∈ts,bD t ks=true){pa pb:Kp×ai}(ha:pa.1.ah=ks/\pa.2=lp.assign)(hb:pb.1.ah=ks/\pb.2=lp.body)
 {E:Env} {D:List aM} {H:ar} {Q:aF} {g:Nat} {pre cap:List AV} {N O:Nat->Prop} {I:ar->Prop} {H0:ar} {xs:List (List AV)} (nD:tD AP g pre cap N O I H0 xs)
 (P:Nat->(Nat->Prop)->ar->Prop) (j:aU->(Nat->Prop)->ar->Prop) (a:Nat->Prop)
 (hn:H0.au<=H.au) (hN:∀b,N b\/O b->b<H0.au/\H.get b=H0.get b /\ ¬a b) (C:∀b,a b->b<H.au) (p:P 0 a H)
 (loc:∀i W H H',P i W H->(∀b,W b->H'.get b=H.get b)->H.au<=H'.au->P i W H') (n:∀e W H H',j e W H->(∀b,W b->H'.get b=H.get b)->H.au<=H'.au->j e W H') (hI:∀i W H,P i W H->I H)
 (c:∀(L i:Nat)(lr lb:bH)x,xs[i]? = some x->H.au<=L -> ∀W' H1,P i W' H1->(∀b,W' b->b<H1.au/\(a b\/H.au<=b))->Fr (λ b=>a b\/O b) H H1 -> ¬W' L->L<H1.au->H1.get L=some lr ->
  ∃o,wG ts x E=some o/\W AP ⟨some L,f⟩ pa true (Wd AP ⟨some L,f⟩ pb L lr lb (PL (P (i+1)) j L lb W' H1)) o [] H1)
 (l:∀d W' H',H.au<=d->d<H'.au->H'.get d=some (.deferred (some []))->Fr (λ b=>a b\/O b) H H'->(∀b,W' b->b<H'.au/\(a b\/H.au<=b)/\b≠d)->P xs.length W' H'->Q .normal E (.iY d::D) H')
 (h:∀e d W' H',gn e->H.au<=d->d<H'.au->H'.get d=some (.deferred (some []))->Fr (λ b=>a b\/O b) H H'->(∀b,W' b->b<H'.au/\(a b\/H.au<=b)/\b≠d)->j e W' H'->Q e E (.iY d::D) H') :
 jC AP ks ⟨none,f⟩ k E D H Q (.fn (.func g) pre cap):=by
 intro tm up he;refine xk2 hf hk nD P j a hn hN C p loc n hI ?_ (λ d W' H' q r s u w y=>⟨rfl,rfl,l d W' H' q r s u w y⟩) (λ e d W' H' p q r s u w y=>⟨rfl,rfl,h e d W' H' p q r s u w y⟩);intro L d i x hx hL W' H1 hP hW J R B M;obtain⟨o,A,hw⟩:=c L i (.loop .ready none f k tm d) (.loop .busy none f k tm d) x hx hL W' H1 hP hW J R B M;obtain⟨U,F,G⟩:=We he S A;refine⟨U,by rw[hp];exact F,?_⟩;rw[kS]at hw;have:=W3.wp _ _ (qg _) (up:=none) hw (by rw[ha.1];exact G);rw[ha.2]at this;refine pL this λ e cJ⟨T,Y,z,V⟩=>?_;cases e with
 |normal =>
  obtain⟨hg,m⟩:=V;refine⟨rfl,hg,?_⟩;rw[kS]at m;have:=W3.wp _ _ (qg _) (up:=none) m (show fP pb.1.ah Y cJ.tm by rw[hb.1,<-ha.1];exact z);rw[hb.2]at this;rw[T];refine pL this λ e2 st2⟨X,E2,hE2,hd,K,Z,k1,k2,k3⟩=>⟨hd,K,Z,k1,k2,k3⟩
 |_=>exact V.elim
end
end Go.Am
namespace Go.Am
def xa6{α:Type}{L E:List α}{p size:Nat}(c:E.length=size)(hp:p+size<=L.length)(h:∀r,r<size->L[p+r]? = E[r]?):L=L.take p++(E++L.drop (p+size)):=by
 have a:(L.drop p).take size=E:=by
  refine jy λ r=>?_;rcases xr r size with q|q
  .rw [yj,qr q,yr,h r q]
  .rw [zz (by rw[j9];omega),zz (by omega)]
 have b:L.drop p=E++L.drop (p+size):=by
  rw[<-a,<-IH,vg]
 rw[<-b,vg]
def Aa{α:Type}{L E cs:List α}{p size j n:Nat}(g:E.length=size)(i:cs.length=n)(k:j+n<=size)(hp:p+size<=L.length)(h:∀r,r<size->L[p+r]? = E[r]?) :
 L.take (p+j)++cs++L.drop (p+j+n)=L.take p++((E.take j++cs++E.drop (j+n))++L.drop (p+size)):=by
 obtain⟨A,a⟩:∃A,A=L.take p:=⟨_,rfl⟩
 obtain⟨B,c⟩:∃B,B=L.drop (p+size):=⟨_,rfl⟩
 have hl:A.length=p:=by rw[a,j9];omega
 have b:=xa6 g hp h;rw[<-a,<-c]at b;rw[<-a,<-c];have d:L.take (p+j)=A++E.take j:=by
  rw[b,LZ,hl,zg (by omega),yt,j0 (by omega)]
 have f:L.drop (p+j+n)=E.drop (j+n)++B:=by
  rw[b,AQ,hl,jf (by omega),zx,show p+j+n-p=j+n by omega,yq (by omega)]
 rw[d,f];simp
section
variable{α:Type}{enc:α->List AV}{size:Nat}{H:ar}{v:AV}{xs:List α}
def xjp(hs:∀x,(enc x).length=size){i:Nat}{x y:α}(a:xs[i]? = some x){j n:Nat}{cs:List AV}(b:cs.length=n)(d:j+n<=size)(f:enc y=(enc x).take j++cs++(enc x).drop (j+n)) :
 (xs.flatMap enc).take (i*size+j)++cs++(xs.flatMap enc).drop (i*size+j+n)=(xs.set i y).flatMap enc:=by
 have c:=EE a;have hb:(i+1)*size<=xs.length*size:=jz _ c;rw[uU]at hb;have hl:=Dg hs xs;rw[Aa (E:=enc x) (size:=size) (hs x) b d (by omega) (λ r hr=>IK hs xs a hr),<-f,PB hs xs a];simp[zm]
def gE.F0{e:Nat}(hs:∀x,(enc x).length=size)(h:gE enc e size H v xs){i:Nat}{x y:α}(d:xs[i]? = some x){j n:Nat}{u:AV}(hu:u.cells.length=n)(ho:aJ u.cells=true)(l:j+n<=size)(m:enc y=(enc x).take j++u.cells++(enc x).drop (j+n)) :
 ∃H',Op.store n [.ptr (aH v) (cF size v i+j),u] H=some (.undef,H')/\gE enc e size H' v (xs.set i y)/\Fr (On (aH v)) H H':=by
 obtain⟨b,rfl,f,g⟩:=h;have k:=EE d;have hl:=Dg hs xs;have hb:(i+1)*size<=xs.length*size:=jz _ k;rw[uU]at hb;have c:=ug g (o:=i*size+j) (n:=n) (v:=u) hu (by omega) ho;have a:cF size (AV.slice b 0 xs.length xs.length) i=i*size:=by simp[cF]
 rw[a];refine⟨_,c,⟨b,?_,f,?_⟩,(Fr.refl H).set (W:=On b) (.inl rfl) _⟩
 .rw [xg]
 .rw [xc,xjp hs d hu l m]
def gE.NG{e:Nat}(hs:∀x,(enc x).length=size)(ho:∀x,aJ (enc x)=true)(h:gE enc e size H v xs){i:Nat}{x:α}(a:xs[i]? = some x)(y:α) :
 ∃H',Op.store size [.ptr (aH v) (cF size v i),.agg (enc y)] H=some (.undef,H')/\gE enc e size H' v (xs.set i y)/\Fr (On (aH v)) H H':=by
 have:=h.F0 hs a (y:=y) (j:=0) (n:=size) (u:=.agg (enc y)) (by rw[zw];exact hs y) (by rw[zw];exact ho y) (by omega) (by
  rw[zw,yu,zx,jf (by rw[hs];omega),zf])
 rw[vh]at this;exact this
end
end Go.Am
namespace Go.Am
open Go.Proofs Ca
variable{M:ak}[MK M]
abbrev uW(x:Int):AV:=.int .u64 x
def aB(e:En):List AV:=.int .i64 e.line::.int .i64 e.st::.bool e.r::.bool e.w::(e.d.l.map uW++(e.o.l.map uW ++ [.int .i64 e.u]))
def jm(e:En):(aB e).length=21:=by simp[aB,e.d.h,e.o.h]
def xY(e:En):aJ (aB e)=true:=by
 rw[yn];unfold aB;simp[av]
def Ma{H:ar}{s e:Nat}{a:AV}(h:H.get s=some (OR [a] e)){u:AV}(hu:av u=true):Op.store 1 [.ptr s 0,u] H=some (.undef,H.set s (OR [u] e)):=by
 have d:u.cells=[u]:=by cases u<;>first|rfl|cases hu
 have:=ug h (o:=0) (n:=1) (v:=u) (by rw[d];rfl) (by simp) (by rw[d,yn];simpa using hu);rw[this,d];rfl
def Ny(b:ai)(Q:aF)(E:Env)(D:List aM)(H:ar):jN b Q .normal E D H=Q .normal E D H:=rfl
def BQ(b:ai)(Q:aF)(E:Env)(D:List aM)(H:ar):jN b Q .ret E D H=Q .ret E D H:=rfl
def Es(c:Ca)(sv:AV):List AV:=[.int .i64 (c.fD:Int),.int .i64 (c.ways:Int),sv,.int .i64 c.us]
abbrev eA(sv:AV)(i:Nat):AV:=.ptr (aH sv) (cF 21 sv i)
structure dS(H:ar)(b:Nat)(sv:AV)(c:Ca):Prop where
 row:H.get b=some (OR (Es c sv) W7)
 lt:b<H.au
 sl:gE aB xl 21 H sv c.sl
 ne:aH sv≠b
 s8:c.fD<=8
 w4:c.ways<=4
 us:0<=c.us/\c.us<=1000000
def dS.em{H H':ar}{b:Nat}{sv:AV}{c:Ca}(h:dS H b sv c)(f:Fr Em H H'):dS H' b sv c:=⟨by rw[f.ah _ h.lt id];exact h.row,qj h.lt f.au,h.sl.fr f id,h.ne,h.s8,h.w4,h.us⟩
def dS.fr{H H':ar}{W:Nat->Prop}{b:Nat}{sv:AV}{c:Ca}(h:dS H b sv c)(f:Fr W H H')(a:¬W b)(d:¬W (aH sv)):dS H' b sv c:=⟨by rw[f.ah _ h.lt a];exact h.row,qj h.lt f.au,h.sl.fr f d,h.ne,h.s8,h.w4,h.us⟩
def dS.ix{H:ar}{b:Nat}{sv:AV}{c:Ca}(h:dS H b sv c){i:Nat}(a:i<c.sl.length):Op.aO 21 [sv,.int .i64 (i:Int)]=some (eA sv i):=(h.sl.sl jm).idx (EG a) rfl .i64
def dS.ld{H:ar}{b:Nat}{sv:AV}{c:Ca}(h:dS H b sv c){i:Nat}(a:i<c.sl.length){k:Nat}(hk:k<21):Op.ae [.ptr (aH sv) (cF 21 sv i+k)] H=(aB (c.en i))[k]?:=(h.sl.sl jm).ae jm (EG a) hk
def dS.vX{H:ar}{b:Nat}{sv:AV}{c:Ca}(h:dS H b sv c){i:Nat}(a:i<c.sl.length):Op.ae [.ptr (aH sv) (cF 21 sv i)] H=some (.int .i64 (c.en i).line):=(h.sl.sl jm).kP jm (EG a) (by decide)
def yv(b o:Nat)(H:ar):Op.eq .ptr false [.ptr b o,.nilp] H=some (.bool false):=rfl
def kU(b o:Nat)(H:ar):Op.eq .ptr true [.ptr b o,.nilp] H=some (.bool true):=rfl
def O9(H:ar):Op.eq .ptr false [.nilp,.nilp] H=some (.bool true):=rfl
def t9(H:ar):Op.eq .ptr true [.nilp,.nilp] H=some (.bool false):=rfl
def M0(R:Nat->(Nat->Prop)->ar->Prop)(S:(Nat->Prop)->ar->Prop)(W0 O:Nat->Prop)(H:ar)(n:Nat)(v:AV)(H':ar):Prop:=∃W':Nat->Prop,Fr (λ b=>W0 b\/O b) H H'/\(∀b,W' b->b<H'.au/\(W0 b\/H.au<=b))/\(R n W' H'\/S W' H')
def pq(c:Ca)(sv:AV)(line:Int):List (List AV):=if line<0 then[]else(List.range c.ways).map λ k=>[eA sv (c.fr line+k)]
structure M5(R:Nat->(Nat->Prop)->ar->Prop)(W0:Nat->Prop)(H1 Hx:ar)(i:Nat)(V:Nat->Prop):Prop where
 hR:R i V Hx
 hV:∀b,V b->b<Hx.au/\(W0 b\/H1.au<=b)
 fr:Fr W0 H1 Hx
def xbt{H0:ar}{p q b:Nat}{sv:AV}{c:Ca}{lines line:Int}(g:dS H0 b sv c)(e:CI lines c)(hp:H0.get p=some (OR [.ptr b 0] C5))(hq:H0.get q=some (OR [.int .i64 line] cN))(hpl:p<H0.au)(hql:q<H0.au) :
 ua M Jl [] [.ptr p 0,.ptr q 0] (λ x=>x=p\/x=q\/x=b) (λ _=>False) H0 (pq c sv line):=by
 intro Y R S d H1 hnx A m r loc O step;obtain⟨p1,p2,p3⟩:=A p (.inl (.inl rfl));obtain⟨Q,F,G⟩:=A q (.inl (.inr (.inl rfl)));obtain⟨b1,T,U⟩:=A b (.inl (.inr (.inr rfl)))
 suffices h:zd M Jl [.fn (.yield Y) [] [],.ptr p 0,.ptr q 0] H1 (M0 R S d (λ _=>False) H1 (pq c sv line).length)by
  obtain⟨v,H',g,W',Q,F,G⟩:=h.elim;exact⟨v,H',W',g,Q,F,G⟩
 refine qyu ?_;obtain⟨w0,w6,u,I,J⟩:=qyv M ⟨none,Jl⟩;have lp:∀{a:ar},Fr d H1 a->Op.ae [.ptr p 0] a=some (.ptr b 0):=λ f=>by rw[x9 (qy (by rw[f.ah _ (by omega) p3,p2];exact hp))];rfl
 have P:∀{a:ar},Fr d H1 a->Op.ae [.ptr q 0] a=some (.int .i64 line):=λ f=>by rw[x9 (qy (by rw[f.ah _ (by omega) G,F];exact hq))];rfl
 have lb:∀{a:ar}(k:Nat),Fr d H1 a->Op.ae [.ptr b k] a=(Es c sv)[k]?:=λ k f=>x9 (qy (by rw[f.ah _ (by omega) U,T];exact g.row)) k;have j:=Fr.refl (W:=d) H1
 by_cases hl:line<0
 .simp only[aa,bc,w0,lp j,yv,P j,hl];exact⟨d,Fr.refl _,λ b hb=>⟨r b hb,.inl hb⟩,.inl (by unfold pq;rw[qr hl];exact m)⟩
 have D:(pq c sv line)=(List.range c.ways).map λ k=>[eA sv (c.fr line+k)]:=by unfold pq;rw[qo hl]
 rw[D]at step⊢;rw[xm,j6];have l0:Op.ae [.ptr b 0] H1=some (.int .i64 (c.fD:Int)):=lb 0 j;have l1:Op.ae [.ptr b 1] H1=some (.int .i64 (c.ways:Int)):=lb 1 j;have rm:Op.bin .rem [.int .i64 line,.int .i64 (c.fD:Int)]=some (.int .i64 ((line.toNat % c.fD:Nat):Int)):=by
  have:=e.s0;obtain⟨n,rfl⟩:=z4 (I2.1 hl);rw[tz .i64 _ _ (by omega)];rfl
 have N:line.toNat % c.fD<c.fD:=Nat.mod_lt _ e.s0;have h8:=g.s8;have X:=g.w4;have B:(line.toNat % c.fD)*c.ways<=7*4:=Nat.mul_le_mul (by omega) X;have wm:aj .i64 (((line.toNat % c.fD:Nat):Int)*(c.ways:Int))=((c.fr line:Nat):Int):=by
  rw[<-Int.natCast_mul];exact jw (by omega) (by omega)
 have L:c.fr line<=28:=B;simp only[aa,bc,w0,lp j,yv,qn,P j,hl,w6,l0,l1,rm,wm];refine dg.intro (λ n E a=>∃(i:Nat)(V:Nat->Prop),E=[(27,.int .i64 (i:Int)),(26,.int .i64 (c.ways:Int)),(4,.int .i64 ((c.fr line:Nat):Int)),(0,.fn (.yield Y) [] []),(1,.ptr p 0)]/\n=c.ways-i/\i<=c.ways/\M5 R d H1 a i V) ?_ ?_
 .exact ⟨_,_,⟨0,d,rfl,rfl,xy _,⟨m,λ b hb=>⟨r b hb,.inl hb⟩,Fr.refl _⟩⟩,by simp only[aa,bc]⟩
 rintro n E a ⟨i,V,rfl,rfl,hi,hI⟩;rcases xr i c.ways with t|hge
 .have z:(i:Int)<(c.ways:Int):=by omega
  have l2:Op.ae [.ptr b 2] a=some sv:=lb 2 hI.fr;have wi:aj .i64 (((c.fr line:Nat):Int)+(i:Int))=((c.fr line+i:Nat):Int):=by rw[jw (by omega) (by omega)];omega
  have ix:=g.ix (e.kY line t);obtain⟨bb,K,y,hr,Z,s,ht,hs⟩:=step i [eA sv (c.fr line+i)] (by rw[xj,yk t];rfl) V a hI.hR hI.hV (hI.fr.mono λ _ _ q=>.inl q);have l:Fr d H1 K:=hI.fr.trans Z λ b q=>(hI.hV b q).2;have o:∀b,y b->b<K.au/\(d b\/H1.au<=b):=λ b q=>⟨(s b q).1,(s b q).2.elim (λ w=>(hI.hV b w).2) λ w=>.inr (xv hI.fr.au w)⟩
  have wj:aj .i64 ((i:Int)+1)=((i+1:Nat):Int):=by rw[jw (by omega) (by omega)];omega
  simp only[aa,bc,u,z,I,lp hI.fr,qn,l2,wi,ix];refine C3.yE hr ?_;cases bb with
  |true =>
   simp only[aa,bc,J,wj];exact⟨_,_,⟨i+1,y,rfl,rfl,by omega,⟨ht rfl,o,l⟩⟩,by simp only[aa,bc],by omega⟩
  |false =>
   simp only[aa,bc];exact⟨y,l.mono λ _ _ q=>.inl q,o,.inr (hs rfl)⟩
 .have z:¬(i:Int)<(c.ways:Int):=by omega
  have C:i=c.ways:=by omega
  simp only[aa,bc,u,z];exact⟨V,hI.fr.mono λ _ _ q=>.inl q,hI.hV,.inl (by rw[<-C];exact hI.hR)⟩
def YD{H:ar}(b:Nat)(line:Int):zd M qrj [.ptr b 0,.int .i64 line] H λ v H'=>v=.fn (.func Jl) [] [.ptr H.au 0,.ptr (H.au+1) 0]/\H'=(H.alloc (OR [.ptr b 0] C5)).alloc (OR [.int .i64 line] cN):=by
 refine q5o ?_;obtain⟨H1,d,-,n1,-⟩:=bX H (OR [.ptr b 0] C5);have ca:AV.cells (.ptr b 0)=[.ptr b 0]:=rfl;have a:AV.cells (.int .i64 line)=[.int .i64 line]:=rfl;have mk:Op.bC Jl 0 [.ptr H.au 0,.ptr (H.au+1) 0]=some (.fn (.func Jl) [] [.ptr H.au 0,.ptr (H.au+1) 0]):=rfl;simp only[aa,bc,q5p,ca,a,<-d,n1];rfl
structure YL(c:Ca)(line:Int)(t:Nat)(i:Nat)(V:Nat->Prop)(Hx:ar):Prop where
 vt:V t
 g:Hx.get t=some (OR [.nilp] ku)
 lt:t<Hx.au
 no:∀k,k<i->c.nD line k=false
structure AtS(c:Ca)(sv:AV)(line:Int)(t:Nat)(V:Nat->Prop)(Hx:ar):Prop where
 vt:V t
 ex:∃k,k<c.ways/\dq (c.nD line) c.ways=some k/\Hx.get t=some (OR [eA sv (c.fr line+k)] ku)
 lt:t<Hx.au
def vC(c:Ca)(sv:AV)(line:Int):AV:=match c.pos line with
 |none=>.nilp
 |some i=>eA sv i
def WO{H:ar}{b:Nat}{sv:AV}{c:Ca}{lines line:Int}(hc:dS H b sv c)(s:CI lines c):zd M Mh [.ptr b 0,.int .i64 line] H λ v H'=>v=vC c sv line/\Fr Em H H':=by
 refine q8b ?_;obtain⟨w0,wa,U,w2,w7⟩:=vo M ⟨none,Mh⟩;obtain⟨H1,e1,f1,n1,-⟩:=bX H (OR [.int .i64 line] cN);obtain⟨p,Z,I,-,-⟩:=bX H1 (OR [.nilp] ku);have f2:Fr Em H p:=f1.trans I λ _ q=>q.elim;have n2:p.au=H.au+2:=by rw[Z,xx,n1]
 have g1:p.get H.au=some (OR [.int .i64 line] cN):=by rw[I.ah _ (by omega) id,e1,xf]
 have g2:p.get (H.au+1)=some (OR [.nilp] ku):=by rw[Z,<-n1,xf]
 have cl:AV.cells (.int .i64 line)=[.int .i64 line]:=rfl;have l1:Op.ae [.ptr H.au 0] p=some (.int .i64 line):=x9 (qy g1) 0;simp only[aa,bc,w0,cl,<-e1,<-Z,n1,w2,l1];refine C3.q (YD (M:=M) b line) λ v H5⟨hv,R⟩=>?_;obtain⟨X,e3,f23,-,-⟩:=bX p (OR [.ptr b 0] C5);obtain⟨E,e4,J,-,-⟩:=bX X (OR [.int .i64 line] cN);rw[<-e3,<-e4]at R;rw[hv,R];have r:Fr Em p E:=f23.trans J λ _ q=>q.elim;have f4:Fr Em H E:=f2.trans r λ _ q=>q.elim;have n3:X.au=H.au+3:=by rw[e3,xx,n2]
 have n4:E.au=H.au+4:=by rw[e4,xx,n3]
 have g3:E.get p.au=some (OR [.ptr b 0] C5):=by rw[J.ah _ (by omega) id,e3,xf]
 have g4:E.get (p.au+1)=some (OR [.int .i64 line] cN):=by rw[show p.au+1=X.au by omega,e4,xf]
 have L:=hc.em f4;have hlt:=hc.lt;have hsb:aH sv<H.au:=hc.sl.lt
 have kp:∀{j:ar},Fr (λ x=>(x=H.au+1)\/False) E j->dS j b sv c/\Op.ae [.ptr H.au 0] j=some (.int .i64 line):=λ f =>
  ⟨L.fr f (λ q=>q.elim (λ q=>by omega) id) (λ q=>q.elim (λ q=>by omega) id),x9 (qy (by rw[f.ah H.au (by omega) (λ q=>q.elim (λ q=>by omega) id),r.ah _ (by omega) id];exact g1)) 0⟩
 have res:∀{d:Nat}{j:ar}{x:AV},j.get (H.au+1)=some (OR [x] ku)->d≠H.au+1->Op.ae [.ptr (H.au+1) 0] (j.set d (.deferred none))=some x:=λ g hd=>by
  rw[x9 (qy (by rw[yo hd];exact g))];rfl
 refine jC.iter (fn:=S3) (lp:=Pv) (pa:=Ts 0) (pb:=XD 0) q5n Zt.1 Zt.2 (by decide) q3m q3n
  (xbt (M:=M) L s g3 g4 (by omega) (by omega)) (λ i V j=>YL c line (H.au+1) i V j) (λ e V j=>e=.ret/\AtS c sv line (H.au+1) V j) (λ x=>x=H.au+1) (qg _) ?_ ?_ ?_ ?_ ?_ ?_ ?_ ?_
 .rintro x ((q|q|q)|q)
  .exact ⟨by omega,rfl,by omega⟩
  .exact ⟨by omega,rfl,by omega⟩
  .exact ⟨by omega,rfl,by omega⟩
  .exact q.elim
 .exact λ x F=>by omega
 .exact ⟨rfl,by rw[r.ah _ (by omega) id];exact g2,by omega,λ k hk=>by omega⟩
 .exact λ i V Ha Hb h hs hn=>⟨h.vt,by rw[hs _ h.vt];exact h.g,qj h.lt hn,h.no⟩
 .rintro e V Ha Hb ⟨he,h⟩ hs hn;obtain⟨k,k1,S,k3⟩:=h.ex;exact⟨he,h.vt,⟨k,k1,S,by rw[hs _ h.vt];exact k3⟩,qj h.lt hn⟩
 .intro a i lr lb x F hL2 V l m hV N hnL hL6 hgL;unfold pq at F;split at F
  .simp at F
  rename_i hl;rw[xj,xk]at F;obtain⟨y,P,rfl⟩:=F;have w:i<c.ways:=by have:=(qk.1 P).1;rw[j6]at this;exact this
  rw[yk w]at P;injection P with P;subst P
  refine⟨_,rfl,?_⟩;obtain⟨-,wa,U,-⟩:=vo M ⟨some a,Mh⟩;simp only[aa,bc,wa,Fb];refine⟨hgL,?_⟩;have fx:Fr (On a) l (l.set a lb):=(Fr.refl l).set (W:=On a) (.inl rfl) _;have gL:(l.set a lb).get a=some lb:=xc ..;have T:(l.set a lb).au=l.au:=rfl
  obtain⟨hc6,lq6⟩:=kp N;have h7:dS (l.set a lb) b sv c:=hc6.fr fx (λ(q:b=a)=>by omega) (λ(q:aH sv=a)=>by omega);have Q:Op.ae [.ptr H.au 0] (l.set a lb)=some (.int .i64 line):=by
   have hg:(l.set a lb).get H.au=l.get H.au:=by rw[yo (by omega)]
   exact x9 (qy (by rw[hg,N.ah H.au (by omega) (λ q=>q.elim (λ q=>by omega) id),r.ah _ (by omega) id];exact g1)) 0
  have K:a≠H.au+1:=λ q=>hnL (by rw[q];exact m.vt)
  have O:(l.set a lb).get (H.au+1)=some (OR [.nilp] ku):=by rw[yo K];exact m.g
  generalize l.set a lb=H7 at *;have hi:=s.kY line w;obtain⟨e,he⟩:∃e,e=c.en (c.fr line+i):=⟨_,rfl⟩
  have l0:Op.ae [.ptr (aH sv) (cF 21 sv (c.fr line+i))] H7=some (.int .i64 e.line):=by rw[he];exact h7.vX hi
  have l1:Op.ae [.ptr (aH sv) (cF 21 sv (c.fr line+i)+1)] H7=some (.int .i64 e.st):=by rw[he];exact h7.ld hi (k:=1) (by decide)
  have n:c.nD line i=(e.st != 0 && e.line == line):=by rw[he];rfl
  have stay:c.nD line i=false->PL (λ V j=>YL c line (H.au+1) (i+1) V j) (λ e V j=>e=.ret/\AtS c sv line (H.au+1) V j) a lb V l .normal [] [] H7:=λ R =>
   ⟨rfl,gL,V,λ b hb=>⟨by rw[T];exact(hV b hb).1,.inl hb⟩,fx.mono λ x _ q=>.inr q,.inl ⟨rfl,m.vt,O,by rw[T];exact m.lt,λ k hk=>by
    by_cases q:k=i
    .rw [q];exact R
    .exact m.no k (by omega)⟩⟩
  by_cases G:e.st=0
  .simp only[aa,bc,U,qn,l1,xb G];exact stay (by rw[n,G];rfl)
  by_cases z:e.line=line
  .have st:=Ma O (u:=eA sv (c.fr line+i)) rfl;simp only[aa,bc,U,qn,l1,G,l0,Q,xb z,st];refine⟨rfl,?_,V,?_,?_,.inr ⟨trivial,rfl,m.vt,⟨i,w,Mn w (by rw[n];simp[G,z]) m.no,xc ..⟩,?_⟩⟩
   .rw [yo (mS K)];exact gL
   .exact λ b hb=>⟨by show b<H7.au;rw[T];exact(hV b hb).1,.inl hb⟩
   .exact (fx.mono λ x _ q=>.inr q).set (.inl (.inl m.vt)) _
   .show H.au+1<H7.au;rw[T];exact m.lt
  .simp only[aa,bc,U,qn,l1,G,l0,Q,z];exact stay (by rw[n];simp[z])
 .intro d V Y hd1 hd2 C B A m;have st:=Ma m.g (u:=.nilp) rfl;have t:d≠H.au+1:=λ q=>by have:=(A _ m.vt).2.2;omega
  have gd:(Y.set (H.au+1) (OR [.nilp] ku)).get d=some (.deferred (some [])):=by rw[yo (mS t)];exact C
  have rd:=res (d:=d) (xc Y (H.au+1) (OR [.nilp] ku)) t;have o:c.pos line=none:=by
   unfold Ca.pos;split
   .rfl
   .rename_i hl;have D:=m.no;unfold pq at D;rw[qo hl,xm,j6]at D;rw[MF D];rfl
  simp only[aa,bc,w7,st,JW,rd];refine⟨gd,?_,?_⟩
  .unfold vC;rw[o]
  .exact (((f4.trans (W':=λ x=>x=H.au+1\/False) B λ x q=>q.elim (λ q=>.inr (by omega)) False.elim).set (.inr (by omega)) _).set (.inr (by omega)) _)
 .rintro e d V Y hj hd1 hd2 C B A ⟨he,hS⟩;subst he;obtain⟨k,k1,S,k3⟩:=hS.ex;have t:d≠H.au+1:=λ q=>by have:=(A _ hS.vt).2.2;omega
  have rd:=res (d:=d) k3 t;have o:vC c sv line=eA sv (c.fr line+k):=by
   unfold vC Ca.pos
   by_cases hl:line<0
   .exfalso;obtain⟨G,z,-⟩:=LO S;unfold Ca.nD at z;simp only[xt,bne_iff_ne,ne_eq,GW]at z;have:=(s.ok _ (s.kY line k1) z.1).2.1;omega
   .rw [qo hl,S];rfl
  simp only[aa,bc,JW,rd];refine⟨C,o.symm,?_⟩;exact((f4.trans (W':=λ x=>x=H.au+1\/False) B λ x q=>q.elim (λ q=>.inr (by omega)) False.elim).set (.inr (by omega)) _)
end Go.Am
namespace Go.Am
open Go.Proofs Ca
variable{M:ak}[MK M]
def gI{H:ar}{b e n:Nat}{l x:List AV}(h:H.get b=some (OR l e))(hl:l.length=n)(d:x.length=n)(a:aJ x=true):Op.store n [.ptr b 0,.agg x] H=some (.undef,H.set b (OR x e)):=by
 have st:=ug h (o:=0) (n:=n) (v:=.agg x) (by rw[zw];exact d) (by omega) (by rw[zw];exact a);rw[st,zw,yu,zx,jf (by omega),zf]
def fm{H:ar}{b e n:Nat}{l:List AV}(h:H.get b=some (OR l e))(hl:l.length=n):Op.aq n [.ptr b 0] H=some (.agg l):=by
 rw[rD (qy h) (by omega),yi,zg (by omega)]
def pG(l:List AV):Op.build l [] []=some (.agg l):=rfl
def eZ:[AV.int .i64 0,.int .i64 0,.bool false,.bool false,.int .u64 0,.int .u64 0,.int .u64 0,.int .u64 0,.int .u64 0,.int .u64 0,.int .u64 0,.int .u64 0,.int .u64 0,.int .u64 0,.int .u64 0,.int .u64 0,.int .u64 0,.int .u64 0,.int .u64 0,.int .u64 0,.int .i64 0]=aB .zero:=rfl
abbrev dR(d:L8):List AV:=d.l.map uW
def wx(d:L8):(dR d).length=8:=by simp[dR,d.h]
def yI(d:L8):aJ (dR d)=true:=by rw[yn];simp[dR,av]
def lZ:[AV.int .u64 0,.int .u64 0,.int .u64 0,.int .u64 0,.int .u64 0,.int .u64 0,.int .u64 0,.int .u64 0]=dR .zero:=rfl
def mE(b:Nat)(sv:AV):Nat->Prop:=λ x=>x=b\/x=aH sv
section
variable{H:ar}{b:Nat}{sv:AV}{c:Ca}{lines line:Int}
def dS.set(h:dS H b sv c){i:Nat}{e:En}{H':ar}(hs:gE aB xl 21 H' sv (c.sl.set i e))(f:Fr (On (aH sv)) H H'):dS H' b sv (c.set i e) :=
 ⟨by rw[f.ah _ h.lt (λ q:b=aH sv=>h.ne q.symm)];exact h.row,qj h.lt f.au,hs,h.ne,h.s8,h.w4,h.us⟩
def dS.cJ(h:dS H b sv c){i:Nat}(g:i<c.sl.length){j:Nat}(k:j<21){u:AV}(hu:av u=true){e:En}(he:aB e=(aB (c.en i)).set j u):∃H',Op.store 1 [.ptr (aH sv) (cF 21 sv i+j),u] H=some (.undef,H')/\dS H' b sv (c.set i e)/\Fr (On (aH sv)) H H':=by
 obtain⟨H',d,f,a⟩:=h.sl.xU jm (EG g) k hu he;exact⟨H',d,h.set f a,a⟩
def dS.Rj(h:dS H b sv c){i:Nat}(g:i<c.sl.length){j n:Nat}{u:AV}(hu:u.cells.length=n)(ho:aJ u.cells=true)(k:j+n<=21){e:En}(he:aB e=(aB (c.en i)).take j++u.cells++(aB (c.en i)).drop (j+n)):∃H',Op.store n [.ptr (aH sv) (cF 21 sv i+j),u] H=some (.undef,H')/\dS H' b sv (c.set i e)/\Fr (On (aH sv)) H H':=by
 obtain⟨H',d,f,a⟩:=h.sl.F0 jm (EG g) hu ho k he;exact⟨H',d,h.set f a,a⟩
def dS.EU(h:dS H b sv c){i:Nat}(g:i<c.sl.length)(e:En):∃H',Op.store 21 [.ptr (aH sv) (cF 21 sv i),.agg (aB e)] H=some (.undef,H')/\dS H' b sv (c.set i e)/\Fr (On (aH sv)) H H':=by
 obtain⟨H',d,f,a⟩:=h.sl.NG jm xY (EG g) e;exact⟨H',d,h.set f a,a⟩
def dS.stU(h:dS H b sv c){u:Int}(hu:0<=u/\u<=1000000):∃H',Op.store 1 [.ptr b 3,.int .i64 u] H=some (.undef,H')/\dS H' b sv {c with us:=u}/\Fr (On b) H H':=by
 have st:=ug h.row (o:=3) (n:=1) (v:=.int .i64 u) rfl (by simp[Es]) rfl;have e:(Es c sv).take 3++(AV.int .i64 u).cells++(Es c sv).drop (3+1)=Es {c with us:=u} sv:=rfl;rw[e]at st;have f:Fr (On b) H (H.set b (OR (Es {c with us:=u} sv) W7)):=(Fr.refl H).set (W:=On b) (.inl rfl) _;exact⟨_,st,⟨xc ..,h.lt,h.sl.fr f λ(q:aH sv=b)=>h.ne q,h.ne,h.s8,h.w4,hu⟩,f⟩
def dS.Sq(h:dS H b sv c)(k:Nat):Op.ae [.ptr b k] H=(Es c sv)[k]?:=x9 (qy h.row) k
def dS.HJ(h:dS H b sv c){i:Nat}(a:i<c.sl.length):Op.aq 21 [.ptr (aH sv) (cF 21 sv i)] H=some (.agg (aB (c.en i))):=(h.sl.sl jm).aq jm (by decide) (EG a)
def dS.cells(h:dS H b sv c){i:Nat}(a:i<c.sl.length){j n:Nat}(m:j+n<=21):Op.aq n [.ptr (aH sv) (cF 21 sv i+j)] H=some (.agg (((aB (c.en i)).drop j).take n)):=by
 obtain⟨sb,e,l,f⟩:=h.sl;have hb:aH sv=sb:=by rw[e];rfl
 have ho:cF 21 sv i=i*21:=by rw[e];simp[cF]
 have k:(i+1)*21<=c.sl.length*21:=jz _ a;have hl:=Dg jm c.sl;rw[hb,ho,rD (qy f) (by omega)];have hm:=xa6 (L:=c.sl.flatMap aB) (E:=aB (c.en i)) (p:=i*21) (size:=21) (jm _) (by omega) (λ r hr=>IK jm c.sl (EG a) hr);have g:((c.sl.flatMap aB).take (i*21)).length=i*21:=by rw[j9];omega
 have d:(c.sl.flatMap aB).drop (i*21+j)=(aB (c.en i)).drop j++(c.sl.flatMap aB).drop (i*21+21):=by
  conv=>lhs;rw[hm]
  rw[AQ,g,jf (by omega),zx,yt,yq (by rw[jm];omega)]
 rw[d,j0 (by rw[ya,jm];omega)]
def dS.ldD(h:dS H b sv c){i:Nat}(a:i<c.sl.length):Op.aq 8 [.ptr (aH sv) (cF 21 sv i+4)] H=some (.agg (dR (c.en i).d)):=by
 rw[h.cells a (by decide)];have:((aB (c.en i)).drop 4).take 8=dR (c.en i).d:=by
  show((dR (c.en i).d++(dR (c.en i).o ++ [AV.int .i64 (c.en i).u]))).take 8=_;rw[List.take_left' (wx _)]
 rw[this]
def dS.ldO(h:dS H b sv c){i:Nat}(a:i<c.sl.length):Op.aq 8 [.ptr (aH sv) (cF 21 sv i+12)] H=some (.agg (dR (c.en i).o)):=by
 rw[h.cells a (by decide)];have:((aB (c.en i)).drop 12).take 8=dR (c.en i).o:=by
  have e:(aB (c.en i)).drop 12=(dR (c.en i).d++(dR (c.en i).o ++ [AV.int .i64 (c.en i).u])).drop 8:=rfl;rw[e,List.drop_left' (wx _),List.take_left' (wx _)]
 rw[this]
def Gj(c:Ca)(sv:AV)(line st:Int):AV:=match c.kM line st with
 |none=>.tuple [.nilp,.int .i64 20]
 |some i=>.tuple [eA sv i,.int .i64 0]
def Jt(k:dS H b sv c)(e:CI lines c)(line st:Int):zd M UP [.ptr b 0,.int .i64 line,.int .i64 st] H λ v H'=>v=Gj c sv line st/\Fr Em H H':=by
 refine q8c ?_;obtain⟨w0,n,h,a,f⟩:=q8d M ⟨none,UP⟩;simp only[aa,bc,w0,n,yv,h];refine C3.q (WO (M:=M) (line:=line) k e) λ v H1⟨m,d⟩=>?_;rw[m];unfold vC Gj kM;cases hp:c.pos line with
 |none =>
  simp only[aa,bc,a,O9];exact d
 |some i =>
  obtain⟨-,l,-⟩:=e.bt hp;have l1:Op.ae [.ptr (aH sv) (cF 21 sv i+1)] H1=some (.int .i64 (c.en i).st):=(k.em d).ld l (by decide)
  by_cases g:st=0
  .subst g;simp only[aa,bc,a,yv,f];exact d
  by_cases j:(c.en i).st=st
  .simp only[aa,bc,a,yv,g,qn,l1,xb j,f];exact d
  .simp only[aa,bc,a,yv,g,qn,l1,j];exact d
abbrev YI(H:ar)(b:Nat)(sv:AV)(c':Ca)(r:AV):AV->ar->Prop:=λ v H'=>v=r/\dS H' b sv c'/\Fr (mE b sv) H H'
def uv{H1 a:ar}(f:Fr (On (aH sv)) H1 a):Fr (mE b sv) H1 a:=f.mono λ _ _ q=>.inr q
def frB{H1 a:ar}(f:Fr (On b) H1 a):Fr (mE b sv) H1 a:=f.mono λ _ _ q=>.inl q
def ry{H1 a:ar}(f:Fr Em H1 a):Fr (mE b sv) H1 a:=f.mono λ _ _ q=>q.elim
def uH{H1 a d:ar}(f:Fr (mE b sv) H1 a)(g:Fr (mE b sv) a d):Fr (mE b sv) H1 d:=f.trans g λ _ q=>.inl q
def VK(a:dS H b sv c)(hu:c.us+1<=1000000){i:Nat}(n:i<c.sl.length):zd M qrk [.ptr b 0,eA sv i] H λ _ H'=>dS H' b sv (c.use i)/\Fr (mE b sv) H H':=by
 refine q5q ?_;have l3:Op.ae [.ptr b 3] H=some (.int .i64 c.us):=a.Sq 3;have:=a.us;have p:aj .i64 (c.us+1)=c.us+1:=jw (by omega) (by omega);obtain⟨H1,s1,g,h⟩:=a.stU (u:=c.us+1) (by omega);have f:Op.ae [.ptr b 3] H1=some (.int .i64 (c.us+1)):=g.Sq 3;obtain⟨q,s2,l,k⟩:=g.cJ n (j:=20) (by decide) (u:=.int .i64 (c.us+1)) rfl (e:={c.en i with u:=c.us+1}) (by
  show aB {c.en i with u:=c.us+1} = (aB (c.en i)).set 20 _;obtain⟨line,st,r,w,⟨d,m⟩,⟨o,ho⟩,u⟩:=c.en i
  match d,m,o,ho with
  |[d0,d1,d2,d3,d4,d5,d6,d7],_,[o0,o1,o2,o3,o4,o5,o6,o7],_=>rfl)
 simp only[aa,bc,q5r,qn,l3,p,s1,f,s2];exact⟨l,uH (frB h) (uv k)⟩
def su(c:Ca)(line:Int):AV:=match c.find line with
 |none=>.tuple [.agg (aB .zero),.bool false]
 |some e=>.tuple [.agg (aB e),.bool true]
def Sr(k:dS H b sv c)(d:CI lines c)(line:Int):zd M Ua [.ptr b 0,.int .i64 line] H λ v H'=>v=su c line/\Fr Em H H':=by
 refine q3g ?_;obtain⟨w0,w4,f⟩:=q3h M ⟨none,Ua⟩;obtain⟨H1,l,g,n1,m⟩:=bX H (OR (aB .zero) xl);simp only[aa,bc,w0,eZ,<-l];refine C3.q (WO (M:=M) (line:=line) (k.em g) d) λ v e⟨o,h⟩=>?_;rw[o];have j:e.get H.au=some (OR (aB .zero) xl):=by rw[h.ah _ (by omega) id];exact m
 have a:Fr Em H e:=g.trans h λ _ q=>q.elim;unfold vC su Ca.find;cases hp:c.pos line with
 |none =>
  have st:=gI j (jm _) (jm .zero) (xY _);have ld:=fm (xc e H.au (OR (aB .zero) xl)) (jm _);simp only[aa,bc,w4,O9,eZ,pG,st,ld];exact⟨rfl,a.set (.inr (qg _)) _⟩
 |some i =>
  obtain⟨-,n,-⟩:=d.bt hp;have le:=(k.em a).HJ n;have st:=gI j (jm _) (jm (c.en i)) (xY _);have ld:=fm (xc e H.au (OR (aB (c.en i)) xl)) (jm _);simp only[aa,bc,w4,yv,f,qn,le,st,ld];exact⟨rfl,a.set (.inr (qg _)) _⟩
end
end Go.Am
namespace Go.Am
open Go.Proofs Ca
variable{M:ak}[MK M]
def Pf(e:En)(k:Nat)(hk:k<8)(y:Int):aB {e with d:=e.d.put k y} = (aB e).set (4+k) (uW y):=by
 obtain⟨line,st,r,w,⟨d,a⟩,⟨o,ho⟩,u⟩:=e
 match d,a,o,ho with
 |[d0,d1,d2,d3,d4,d5,d6,d7],_,[o0,o1,o2,o3,o4,o5,o6,o7],_ =>
  rcases(show k=0\/k=1\/k=2\/k=3\/k=4\/k=5\/k=6\/k=7 by omega)with rfl|rfl|rfl|rfl|rfl|rfl|rfl|rfl<;>rfl
def Jq(e:En)(k:Nat)(hk:k<8):(aB e)[4+k]? = some (uW (e.d.get k)):=by
 obtain⟨line,st,r,w,⟨d,a⟩,⟨o,ho⟩,u⟩:=e
 match d,a,o,ho with
 |[d0,d1,d2,d3,d4,d5,d6,d7],_,[o0,o1,o2,o3,o4,o5,o6,o7],_ =>
  rcases(show k=0\/k=1\/k=2\/k=3\/k=4\/k=5\/k=6\/k=7 by omega)with rfl|rfl|rfl|rfl|rfl|rfl|rfl|rfl<;>rfl
def Ik(e:En)(x:L8):aB {e with d:=x} = (aB e).take 4++(AV.agg (dR x)).cells++(aB e).drop (4+8):=by
 obtain⟨line,st,r,w,⟨d,a⟩,⟨o,ho⟩,u⟩:=e
 match d,a,o,ho with
 |[d0,d1,d2,d3,d4,d5,d6,d7],_,[o0,o1,o2,o3,o4,o5,o6,o7],_=>rfl
def HM(e:En)(x:L8):aB {e with o:=x} = (aB e).take 12++(AV.agg (dR x)).cells++(aB e).drop (12+8):=by
 obtain⟨line,st,r,w,⟨d,a⟩,⟨o,ho⟩,u⟩:=e
 match d,a,o,ho with
 |[d0,d1,d2,d3,d4,d5,d6,d7],_,[o0,o1,o2,o3,o4,o5,o6,o7],_ =>
  obtain⟨x,f⟩:=x
  match x,f with
  |[x0,x1,x2,x3,x4,x5,x6,x7],_=>rfl
section
variable{H:ar}{b:Nat}{sv:AV}{c:Ca}{lines line:Int}
def AM{a:Nat}(h:a<1000000):Op.bin .quo [.int .i64 (a:Int),.int .i64 8]=some (.int .i64 ((a / 8:Nat):Int)):=by
 rw[NB .i64 _ _ (by decide),Int.tdiv_eq_ediv_of_nonneg (by omega),jw (by omega) (by omega)];rfl
def Ou{a:Nat}(h:a<1000000):Op.bin .rem [.int .i64 (a:Int),.int .i64 8]=some (.int .i64 ((a % 8:Nat):Int)):=N6 (by decide)
def R2(i k:Nat)(hk:k<8):Op.aP 8 1 [.ptr (aH sv) (cF 21 sv i+4),.int .i64 (k:Int)]=some (.ptr (aH sv) (cF 21 sv i+(4+k))):=by
 have:=Jj (len:=8) (size:=1) (b:=aH sv) (o:=cF 21 sv i+4) (k:=.i64) (j:=(k:Int)) (i:=k) rfl hk;rw[this,IY,vz]
def Ka{i:Nat}(a:i<c.sl.length)(e:En):(c.set i e).en i=e:=by rw[Bz a,qr rfl]
def Tc(c:Ca)(i:Nat)(e e':En):(c.set i e).set i e'=c.set i e':=by unfold Ca.set;simp only[List.set_set]
def DG{i:Nat}(a:i<c.sl.length):(c.use i).en i = {c.en i with u:=c.us+1}:=by
 show(c.set i {c.en i with u:=c.us+1}).en i=_;exact Ka a _
def xI(c:Ca)(a:Nat):AV:=match c.pos ((a / 8:Nat):Int)with
 |none=>.tuple [.int .u64 0,.int .i64 20]
 |some i=>.tuple [.int .u64 ((c.en i).d.get (a % 8)),.int .i64 0]
def xb3(p:dS H b sv c)(e:CI lines c)(hu:c.us+1<=1000000){a:Nat}(ha:a<1000000):zd M VG [.ptr b 0,.int .i64 (a:Int)] H (YI H b sv (c.word a).1 (xI c a)):=by
 refine q3k ?_;obtain⟨w0,u,l,f,m⟩:=q3l M ⟨none,VG⟩;have n0:¬(a:Int)<0:=by omega
 have hk:a % 8<8:=Nat.mod_lt _ (by decide);simp only[aa,bc,w0,u,kU,n0,l,AM ha];refine C3.q (Jt (M:=M) p e ((a / 8:Nat):Int) 0) λ v H1⟨t,g⟩=>?_;rw[t];have n:=p.em g;unfold Gj xI Ca.word;rw[rT];cases hp:c.pos ((a / 8:Nat):Int)with
 |none =>
  have k:¬(20:Int)=0:=by decide
  simp only[aa,bc,xe,f,k];exact⟨rfl,n,ry g⟩
 |some i =>
  obtain⟨-,h,-⟩:=e.bt hp;have w:=xb (show(0:Int)=0 from rfl);simp only[aa,bc,xe,f,m];refine C3.q (VK (M:=M) n hu h) λ _ r⟨o,s⟩=>?_;have j:i<(c.use i).sl.length:=by show i<(c.sl.set i _).length;rw[xg];exact h
  have ld:Op.ae [.ptr (aH sv) (cF 21 sv i+(4+a % 8))] r=some (uW ((c.en i).d.get (a % 8))):=by
   rw[o.ld j (by omega),DG h,Jq _ _ hk]
  simp only[aa,bc,Ou ha,qn,R2 i (a % 8) hk,ld];exact⟨rfl,o,uH (ry g) s⟩
def NC(c:Ca)(a:Nat):AV:=match c.kM ((a / 8:Nat):Int) 2 with
 |none=>.int .i64 20
 |some _=>.int .i64 0
def xfh(s:dS H b sv c)(f:CI lines c)(hu:c.us+1<=1000000){a:Nat}(ha:a<1000000)(y:Int):zd M Xp [.ptr b 0,.int .i64 (a:Int),.int .u64 y] H (YI H b sv (c.put a y) (NC c a)):=by
 refine q5l ?_;obtain⟨w0,B,n,g,o⟩:=q5m M ⟨none,Xp⟩;have n0:¬(a:Int)<0:=by omega
 have hk:a % 8<8:=Nat.mod_lt _ (by decide);simp only[aa,bc,w0,B,kU,n0,n,AM ha];refine C3.q (Jt (M:=M) s f ((a / 8:Nat):Int) 2) λ v H1⟨z,h⟩=>?_;rw[z];have p:=s.em h;unfold Gj NC Ca.put;cases hp:c.kM ((a / 8:Nat):Int) 2 with
 |none =>
  have m:¬(20:Int)=0:=by decide
  simp only[aa,bc,xe,g,m];exact⟨rfl,p,ry h⟩
 |some i =>
  obtain⟨-,k,-⟩:=f.bt (wX hp).1;have E:=xb (show(0:Int)=0 from rfl);simp only[aa,bc,xe,g,o];refine C3.q (VK (M:=M) p hu k) λ _ C⟨x,t⟩=>?_;have l:i<(c.use i).sl.length:=by show i<(c.sl.set i _).length;rw[xg];exact k
  obtain⟨D,A,r,w⟩:=x.cJ l (j:=4+a % 8) (by omega) (u:=.int .u64 y) rfl (e:={(c.use i).en i with d:=((c.use i).en i).d.put (a % 8) y}) (Pf _ _ hk y);have e:(c.use i).set i {(c.use i).en i with d:=((c.use i).en i).d.put (a % 8) y} = {c with us:=c.us+1,sl:=c.sl.set i {c.en i with u:=c.us+1,d:=(c.en i).d.put (a % 8) y}}:=by
   rw[DG k];unfold Ca.use Ca.set;simp only[List.set_set]
  rw[e]at r;simp only[aa,bc,Ou ha,qn,R2 i (a % 8) hk,A];exact⟨rfl,r,uH (uH (ry h) t) (uv w)⟩
def xa1(s:dS H b sv c)(a:CI lines c)(line:Int)(wr:Bool):zd M Vg [.ptr b 0,.int .i64 line,.bool wr] H λ _ H'=>dS H' b sv (c.mark line wr)/\Fr (mE b sv) H H':=by
 refine q3i ?_;obtain⟨w0,D,B,E,k,p,l⟩:=q3j M ⟨none,Vg⟩;have m:¬(20:Int)=0:=by decide
 have K:=xb (show(0:Int)=0 from rfl);cases wr with
 |false =>
  simp only[aa,bc,w0,D];refine C3.q (Jt (M:=M) s a line 0) λ v H1⟨z,f⟩=>?_;rw[z];have g:=s.em f;unfold Gj Ca.mark;rw[qo (by decide)];cases hp:c.kM line 0 with
  |none =>
   simp only[aa,bc,xe,E,m,p];exact⟨g,ry f⟩
  |some i =>
   obtain⟨-,h,-⟩:=a.bt (wX hp).1;obtain⟨F,A,x,t⟩:=g.cJ h (j:=2) (by decide) (u:=.bool true) rfl (e:={c.en i with r:=true}) rfl;simp only[aa,bc,xe,E,qn,A,p];exact⟨x,uH (ry f) (uv t)⟩
 |true =>
  simp only[aa,bc,w0,D,B];refine C3.q (Jt (M:=M) s a line 2) λ v H1⟨z,f⟩=>?_;rw[z];have g:=s.em f;unfold Gj Ca.mark;rw[qr rfl];cases hp:c.kM line 2 with
  |none =>
   simp only[aa,bc,xe,k,m,l];exact⟨g,ry f⟩
  |some i =>
   obtain⟨-,h,-⟩:=a.bt (wX hp).1;have l3:Op.ae [.ptr (aH sv) (cF 21 sv i+3)] H1=some (.bool (c.en i).w):=g.ld h (by decide);dsimp only;cases hw:(c.en i).w with
   |true =>
    rw[qr rfl];rw[hw]at l3;simp only[aa,bc,xe,k,qn,l3,l];exact⟨g,ry f⟩
   |false =>
    rw[qo (by decide)];rw[hw]at l3;obtain⟨F,A,x,t⟩:=g.cJ h (j:=3) (by decide) (u:=.bool true) rfl (e:={c.en i with w:=true}) rfl;have y:i<(c.set i {c.en i with w:=true}).sl.length:=by show i<(c.sl.set i _).length;rw[xg];exact h
    obtain⟨J,I,C,G⟩:=x.Rj y (j:=12) (n:=8) (u:=.agg (dR (c.en i).d)) (by rw[zw];exact wx _) (by rw[zw];exact yI _) (by decide) (e:={(c.set i {c.en i with w:=true}).en i with o:=(c.en i).d}) (HM _ _);rw[Ka h,Tc]at C;simp only[aa,bc,xe,k,qn,l3,g.ldD h,A,I,l];exact⟨C,uH (uH (ry f) (uv t)) (uv G)⟩
def sN(c:Ca)(line:Int):AV:=.tuple [.agg (dR (c.cO line).2),match c.kM line 2 with|none=>.int .i64 20|some _=>.int .i64 0]
def xco(g:dS H b sv c)(h:CI lines c)(line:Int):zd M Tw [.ptr b 0,.int .i64 line] H λ v H'=>v=sN c line/\dS H' b sv (c.cO line).1/\Fr (mE b sv) H H':=by
 refine qv7 ?_;obtain⟨w0,w4,p⟩:=qv8 M ⟨none,Tw⟩;have o:¬(20:Int)=0:=by decide
 have G:=xb (show(0:Int)=0 from rfl);obtain⟨H1,x,r,n1,z⟩:=bX H (OR (dR .zero) yf);have C:=g.lt;have D:aH sv<H.au:=g.sl.lt
 simp only[aa,bc,w0,lZ,<-x];refine C3.q (Jt (M:=M) (g.em r) h line 2) λ v k⟨E,l⟩=>?_;rw[E];have a:Fr Em H k:=r.trans l λ _ q=>q.elim;have B:=g.em a;have t:k.get H.au=some (OR (dR .zero) yf):=by rw[l.ah _ (by omega) id];exact z
 unfold Gj sN Ca.cO;cases hp:c.kM line 2 with
 |none =>
  have st:=gI t (wx _) (wx .zero) (yI _);have ld:=fm (xc k H.au (OR (dR .zero) yf)) (wx _);have fs:Fr Em H (k.set H.au (OR (dR .zero) yf)):=a.set (.inr (qg _)) _;simp only[aa,bc,xe,w4,o,lZ,pG,st,ld];exact⟨g.em fs,ry fs⟩
 |some i =>
  obtain⟨-,m,-⟩:=h.bt (wX hp).1;obtain⟨f,F,w,s⟩:=B.cJ m (j:=1) (by decide) (u:=.int .i64 1) rfl (e:={c.en i with st:=1}) rfl;have n:i<(c.set i {c.en i with st:=1}).sl.length:=by show i<(c.sl.set i _).length;rw[xg];exact m
  have l3:=w.ldD n;rw[Ka m]at l3;have n2:=l.au
  have A:f.get H.au=some (OR (dR .zero) yf):=by rw[s.ah _ (by omega) (λ(q:H.au=aH sv)=>by omega)];exact t
  have st:=gI A (wx _) (wx (c.en i).d) (yI _);have ld:=fm (xc f H.au (OR (dR (c.en i).d) yf)) (wx _);have y:Fr (On H.au) f (f.set H.au (OR (dR (c.en i).d) yf)):=(Fr.refl f).set (W:=On H.au) (.inl rfl) _;simp only[aa,bc,xe,w4,p,qn,F,l3,st,ld];exact⟨w.fr y (λ(q:b=H.au)=>by omega) (λ(q:aH sv=H.au)=>by omega),(uH (ry a) (uv s)).set (.inr (qg _)) _⟩
def xbg(h:dS H b sv c)(f:CI lines c)(line:Int)(x:L8):zd M T3 [.ptr b 0,.int .i64 line,.agg (dR x)] H λ _ H'=>dS H' b sv (c.cL line x)/\Fr (mE b sv) H H':=by
 refine quc ?_;obtain⟨w0,w4,g⟩:=qud M ⟨none,T3⟩;have o:¬(20:Int)=0:=by decide
 have N:=xb (show(0:Int)=0 from rfl);obtain⟨H1,A,r,n1,C⟩:=bX H (OR (dR x) yf);have F:=h.lt;have G:aH sv<H.au:=h.sl.lt
 simp only[aa,bc,w0,<-A];refine C3.q (Jt (M:=M) (h.em r) f line 1) λ v p⟨I,k⟩=>?_;rw[I];have a:Fr Em H p:=r.trans k λ _ q=>q.elim;have w:=h.em a;have t:p.get H.au=some (OR (dR x) yf):=by rw[k.ah _ (by omega) id];exact C
 unfold Gj Ca.cL;cases hp:c.kM line 1 with
 |none =>
  simp only[aa,bc,xe,w4,o,g];exact⟨w,ry a⟩
 |some i =>
  obtain⟨-,l,-⟩:=f.bt (wX hp).1;obtain⟨z,J,E,s⟩:=w.cJ l (j:=1) (by decide) (u:=.int .i64 2) rfl (e:={c.en i with st:=2}) rfl;have m:i<(c.set i {c.en i with st:=2}).sl.length:=by show i<(c.sl.set i _).length;rw[xg];exact l
  obtain⟨L,K,y,B⟩:=E.Rj m (j:=4) (n:=8) (u:=.agg (dR x)) (by rw[zw];exact wx _) (by rw[zw];exact yI _) (by decide) (e:={(c.set i {c.en i with st:=2}).en i with d:=x}) (Ik _ _);rw[Ka l,Tc]at y;have n2:=k.au
  have D:z.get H.au=some (OR (dR x) yf):=by rw[s.ah _ (by omega) (λ(q:H.au=aH sv)=>by omega)];exact t
  simp only[aa,bc,xe,w4,qn,fm t (wx x),J,fm D (wx x),K,g];exact⟨y,uH (uH (ry a) (uv s)) (uv B)⟩
def wF(c:Ca)(line:Int):AV:=.tuple [.agg (aB (c.drop line).2),match c.kM line 0 with|none=>.int .i64 20|some _=>.int .i64 0]
def Uj(h:dS H b sv c)(j:CI lines c)(line:Int):zd M VF [.ptr b 0,.int .i64 line] H λ v H'=>v=wF c line/\dS H' b sv (c.drop line).1/\Fr (mE b sv) H H':=by
 refine q3c ?_;obtain⟨w0,w4,s⟩:=q3d M ⟨none,VF⟩;have r:¬(20:Int)=0:=by decide
 have S:=xb (show(0:Int)=0 from rfl);obtain⟨H1,B,u,n1,E⟩:=bX H (OR (aB .zero) xl);have K:=h.lt;have L:aH sv<H.au:=h.sl.lt
 simp only[aa,bc,w0,eZ,<-B];refine C3.q (Jt (M:=M) (h.em u) j line 0) λ v a⟨N,l⟩=>?_;rw[N];have d:Fr Em H a:=u.trans l λ _ q=>q.elim;have y:=h.em d;have n2:=l.au
 have w:a.get H.au=some (OR (aB .zero) xl):=by rw[l.ah _ (by omega) id];exact E
 unfold Gj wF Ca.drop;cases hp:c.kM line 0 with
 |none =>
  have st:=gI w (jm _) (jm .zero) (xY _);have ld:=fm (xc a H.au (OR (aB .zero) xl)) (jm _);have fs:Fr Em H (a.set H.au (OR (aB .zero) xl)):=d.set (.inr (qg _)) _;simp only[aa,bc,xe,w4,r,eZ,pG,st,ld];exact⟨h.em fs,ry fs⟩
 |some i =>
  obtain⟨-,z,-⟩:=j.bt (wX hp).1;obtain⟨f,C,m,R,F⟩:=bX a (OR (aB .zero) xl);have A:=gI F (jm _) (jm (c.en i)) (xY _);obtain⟨t,g⟩:∃X,X=f.set a.au (OR (aB (c.en i)) xl):=⟨_,rfl⟩
  rw[<-g]at A;have n:Fr (On a.au) f t:=by rw[g];exact(Fr.refl f).set (W:=On a.au) (.inl rfl) _
  have I:=(y.em m).fr n (λ(q:b=a.au)=>by omega) (λ(q:aH sv=a.au)=>by omega);obtain⟨e,P,J,o⟩:=I.EU z .zero;have G:e.get a.au=some (OR (aB (c.en i)) xl):=by rw[o.ah _ (by rw[g];show a.au<f.au;omega) (λ(q:a.au=aH sv)=>by omega),g,xc]
  have O:=fm G (jm (c.en i));have p:e.get H.au=some (OR (aB .zero) xl):=by rw[o.ah _ (by rw[g];show H.au<f.au;omega) (λ(q:H.au=aH sv)=>by omega),n.ah _ (by omega) (λ(q:H.au=a.au)=>by omega),m.ah _ (by omega) id];exact w
  have Q:=gI p (jm _) (jm (c.en i)) (xY _);have ld:=fm (xc e H.au (OR (aB (c.en i)) xl)) (jm _);have D:Fr (On H.au) e (e.set H.au (OR (aB (c.en i)) xl)):=(Fr.refl e).set (W:=On H.au) (.inl rfl) _;have k:Fr (mE b sv) H t:=(uH (ry d) (ry m)).trans n λ x(q:x=a.au)=>.inr (by omega);simp only[aa,bc,xe,w4,s,qn,y.HJ z,eZ,<-C,A,pG,P,O,Q,ld];exact⟨J.fr D (λ(q:b=H.au)=>by omega) (λ(q:aH sv=H.au)=>by omega),(uH k (uv o)).set (.inr (qg _)) _⟩
end
end Go.Am
namespace Go.Am
open Go.Proofs Ca
variable{M:ak}[MK M]
def px(sv:AV)(o:Option Nat):AV:=match o with
 |none=>.nilp
 |some i=>eA sv i
def AU(sv:AV)(o:Option Nat):av (px sv o)=true:=by cases o<;>rfl
def Ce{a:ar}{t d e:Nat}{x:AV}{o:bH}(g:a.get t=some (OR [x] e))(h:d≠t):Op.ae [.ptr t 0] (a.set d o)=some x:=by
 have f:(a.set d o).get t=some (OR [x] e):=by rw[yo h];exact g
 exact x9 (qy f) 0
structure WZ(c:Ca)(sv:AV)(line:Int)(t u:Nat)(i:Nat)(V:Nat->Prop)(Hx:ar):Prop where
 vt:V t
 vu:V u
 g:Hx.get t=some (OR [.nilp] ku)
 gu:Hx.get u=some (OR [px sv ((c.iz line i).map (c.fr line + ·))] ku)
 lt:t<Hx.au
 UY:u<Hx.au
 no:∀k,k<i->c.free line k=false
structure XQ(c:Ca)(sv:AV)(line:Int)(t:Nat)(V:Nat->Prop)(Hx:ar):Prop where
 vt:V t
 ex:∃k,k<c.ways/\dq (c.free line) c.ways=some k/\Hx.get t=some (OR [eA sv (c.fr line+k)] ku)
 lt:t<Hx.au
section
variable{H:ar}{b:Nat}{sv:AV}{c:Ca}{lines line:Int}
def xk4(hc:dS H b sv c)(N:CI lines c)(hl:0<=line):zd M ML [.ptr b 0,.int .i64 line] H λ v H'=>v=px sv (c.room line)/\Fr Em H H':=by
 refine q3q ?_;obtain⟨w0,wa,R,w2,t,w3,n,w5,w7,w12⟩:=Zc M ⟨none,ML⟩;obtain⟨H1,e1,f1,n1,-⟩:=bX H (OR [.nilp] ku);obtain⟨D,e2,U,-,-⟩:=bX H1 (OR [.nilp] ku);have f2:Fr Em H D:=f1.trans U λ _ q=>q.elim;have n2:D.au=H.au+2:=by rw[e2,xx,n1]
 have g1:D.get H.au=some (OR [.nilp] ku):=by rw[U.ah _ (by omega) id,e1,xf]
 have g2:D.get (H.au+1)=some (OR [.nilp] ku):=by rw[e2,<-n1,xf]
 simp only[aa,bc,w0,<-e1,w2,w3,<-e2,n1,w5,w7];refine C3.q (YD (M:=M) b line) λ v H5⟨hv,hh⟩=>?_;obtain⟨H3,e3,f23,-,-⟩:=bX D (OR [.ptr b 0] C5);obtain⟨S,e4,Y,-,-⟩:=bX H3 (OR [.int .i64 line] cN);rw[<-e3,<-e4]at hh;rw[hv,hh];have K:Fr Em D S:=f23.trans Y λ _ q=>q.elim;have f4:Fr Em H S:=f2.trans K λ _ q=>q.elim;have n3:H3.au=H.au+3:=by rw[e3,xx,n2]
 have n4:S.au=H.au+4:=by rw[e4,xx,n3]
 have g3:S.get D.au=some (OR [.ptr b 0] C5):=by rw[Y.ah _ (by omega) id,e3,xf]
 have g4:S.get (D.au+1)=some (OR [.int .i64 line] cN):=by rw[show D.au+1=H3.au by omega,e4,xf]
 have hc4:=hc.em f4;have hlt:=hc.lt;have hsb:aH sv<H.au:=hc.sl.lt
 have G:pq c sv line=(List.range c.ways).map λ k=>[eA sv (c.fr line+k)]:=by unfold pq;rw[qo (by omega)]
 refine jC.iter (fn:=RJ) (lp:=PE) (pa:=Wn 0) (pb:=Xa 0) qyt Zm.1 Zm.2 (by decide) qwb qwc
  (xbt (M:=M) hc4 N g3 g4 (by omega) (by omega)) (λ i V B=>WZ c sv line H.au (H.au+1) i V B) (λ e V B=>e=.ret/\XQ c sv line H.au V B) (λ x=>x=H.au\/x=H.au+1) (qg _) ?_ ?_ ?_ ?_ ?_ ?_ ?_ ?_
 .rintro x ((q|q|q)|q)
  .exact ⟨by omega,rfl,by omega⟩
  .exact ⟨by omega,rfl,by omega⟩
  .exact ⟨by omega,rfl,by omega⟩
  .exact q.elim
 .exact λ x hx=>by omega
 .exact ⟨.inl rfl,.inr rfl,by rw[K.ah _ (by omega) id];exact g1,by rw[K.ah _ (by omega) id];exact g2,by omega,by omega,λ k hk=>by omega⟩
 .exact λ i V Ha Hb h hs hn=>⟨h.vt,h.vu,by rw[hs _ h.vt];exact h.g,by rw[hs _ h.vu];exact h.gu,qj h.lt hn,qj h.UY hn,h.no⟩
 .rintro e V Ha Hb ⟨he,h⟩ hs hn;obtain⟨k,k1,k2,k3⟩:=h.ex;exact⟨he,h.vt,⟨k,k1,k2,by rw[hs _ h.vt];exact k3⟩,qj h.lt hn⟩
 .intro f i lr lb x hx hL2 V p a hV hf6 hnL hL6 hgL;rw[G,xj,xk]at hx;obtain⟨y,hy,rfl⟩:=hx;have F:i<c.ways:=by have:=(qk.1 hy).1;rw[j6]at this;exact this
  rw[yk F]at hy;injection hy with hy;subst hy
  refine⟨_,rfl,?_⟩;obtain⟨-,wa,R,-,t,-,n,-⟩:=Zc M ⟨some f,ML⟩;simp only[aa,bc,wa,Fb];refine⟨hgL,?_⟩;have fx:Fr (On f) p (p.set f lb):=(Fr.refl p).set (W:=On f) (.inl rfl) _;have gL:(p.set f lb).get f=some lb:=xc ..;have I:(p.set f lb).au=p.au:=rfl
  have hc6:dS p b sv c:=hc4.fr hf6 (λ q=>q.elim (λ q=>by omega) id) (λ q=>q.elim (λ q=>by omega) id);have h7:dS (p.set f lb) b sv c:=hc6.fr fx (λ(q:b=f)=>by omega) (λ(q:aH sv=f)=>by omega);have hLt:f≠H.au:=λ q=>hnL (by rw[q];exact a.vt)
  have hLu:f≠H.au+1:=λ q=>hnL (by rw[q];exact a.vu)
  have Q:(p.set f lb).get H.au=some (OR [.nilp] ku):=by rw[yo hLt];exact a.g
  have s:(p.set f lb).get (H.au+1)=some (OR [px sv ((c.iz line i).map (c.fr line + ·))] ku):=by rw[yo hLu];exact a.gu
  generalize p.set f lb=H7 at *;have hi:=N.kY line F;obtain⟨e,he⟩:∃e,e=c.en (c.fr line+i):=⟨_,rfl⟩
  have l1:Op.ae [.ptr (aH sv) (cF 21 sv (c.fr line+i)+1)] H7=some (.int .i64 e.st):=by rw[he];exact h7.ld hi (k:=1) (by decide)
  have l2:Op.ae [.ptr (aH sv) (cF 21 sv (c.fr line+i)+2)] H7=some (.bool e.r):=by rw[he];exact h7.ld hi (k:=2) (by decide)
  have l3:Op.ae [.ptr (aH sv) (cF 21 sv (c.fr line+i)+3)] H7=some (.bool e.w):=by rw[he];exact h7.ld hi (k:=3) (by decide)
  have J:∀e:En,(aB e)[20]? = some (.int .i64 e.u):=λ e=>by
   obtain⟨line,st,r,w,⟨d,hd⟩,⟨o,ho⟩,u⟩:=e
   match d,hd,o,ho with
   |[d0,d1,d2,d3,d4,d5,d6,d7],_,[o0,o1,o2,o3,o4,o5,o6,o7],_=>rfl
  have l20:∀k,c.fr line+k<c.sl.length->Op.ae [.ptr (aH sv) (cF 21 sv (c.fr line+k)+20)] H7=some (.int .i64 (c.en (c.fr line+k)).u):=λ k hk=>by rw[h7.ld hk (k:=20) (by decide),J]
  have C:c.free line i=(e.st == 0):=by rw[he];rfl
  have no':e.st≠0 -> ∀k,k<i+1->c.free line k=false:=λ Z k hk=>by
   by_cases q:k=i
   .rw [q,C];simp[Z]
   .exact a.no k (by omega)
  have z:Op.ae [.ptr (H.au+1) 0] H7=some (px sv ((c.iz line i).map (c.fr line + ·))):=x9 (qy s) 0;have l:c.iz line (i+1)=if e.r ||e.w then c.iz line i else match c.iz line i with
   |none=>some i
   |some j=>if e.u<(c.en (c.fr line+j)).u then some i else some j:=by rw[he];rfl
  -- it stays as it is
  have stay:e.st≠0->c.iz line (i+1)=c.iz line i->PL (λ V B=>WZ c sv line H.au (H.au+1) (i+1) V B) (λ e V B=>e=.ret/\XQ c sv line H.au V B) f lb V p .normal [] [] H7:=λ Z hb =>
   ⟨rfl,gL,V,λ b hb=>⟨by rw[I];exact(hV b hb).1,.inl hb⟩,fx.mono λ x _ q=>.inr q,.inl ⟨rfl,a.vt,a.vu,Q,by rw[hb];exact s,by rw[I];exact a.lt,by rw[I];exact a.UY,no' Z⟩⟩
  -- this one is taken
  obtain⟨H8,e8⟩:∃X,X=H7.set (H.au+1) (OR [eA sv (c.fr line+i)] ku):=⟨_,rfl⟩
  have st:=Ma s (u:=eA sv (c.fr line+i)) rfl;rw[<-e8]at st;have take:e.st≠0->c.iz line (i+1)=some i->PL (λ V B=>WZ c sv line H.au (H.au+1) (i+1) V B) (λ e V B=>e=.ret/\XQ c sv line H.au V B) f lb V p .normal [] [] H8:=λ Z hb =>
   ⟨rfl,by rw[e8,yo (mS hLu)];exact gL,V,λ b hb=>⟨by rw[e8];show b<H7.au;rw[I];exact(hV b hb).1,.inl hb⟩,by rw[e8];exact(fx.mono λ x _ q=>.inr q).set (.inl (.inl a.vu)) _,.inl ⟨rfl,a.vt,a.vu,by rw[e8,yo (by omega)];exact Q,by rw[e8,xc,hb];rfl,by rw[e8];show H.au<H7.au;rw[I];exact a.lt,by rw[e8];show H.au+1<H7.au;rw[I];exact a.UY,no' Z⟩⟩
  by_cases A:e.st=0
  .have stt:=Ma Q (u:=eA sv (c.fr line+i)) rfl;simp only[aa,bc,R,qn,l1,xb A,stt];refine⟨rfl,?_,V,?_,?_,.inr ⟨trivial,rfl,a.vt,⟨i,F,Mn F (by rw[C];simp[A]) a.no,xc ..⟩,?_⟩⟩
   .rw [yo (mS hLt)];exact gL
   .exact λ b hb=>⟨by show b<H7.au;rw[I];exact(hV b hb).1,.inl hb⟩
   .exact (fx.mono λ x _ q=>.inr q).set (.inl (.inl a.vt)) _
   .show H.au<H7.au;rw[I];exact a.lt
  cases hr:e.r with
  |true =>
   rw[hr]at l2;simp only[aa,bc,R,qn,l1,A,t,l2];exact stay A (by rw[l,hr];rfl)
  |false =>
   rw[hr]at l2;cases hw:e.w with
   |true =>
    rw[hw]at l3;simp only[aa,bc,R,qn,l1,A,t,l2,l3];exact stay A (by rw[l,hr,hw];rfl)
   |false =>
    rw[hw]at l3;rw[hr,hw]at l;cases hb:c.iz line i with
    |none =>
     rw[hb]at z l;have z:Op.ae [.ptr (H.au+1) 0] H7=some .nilp:=z;simp only[aa,bc,R,qn,l1,A,t,l2,l3,n,z,O9,st];exact take A l
    |some j =>
     rw[hb]at z l;have z:Op.ae [.ptr (H.au+1) 0] H7=some (eA sv (c.fr line+j)):=z;have hj:=(S4 hb).1;have a1:=l20 i hi;rw[<-he]at a1;have a2:=l20 j (N.kY line (by omega))
     by_cases q:e.u<(c.en (c.fr line+j)).u
     .simp only[aa,bc,R,qn,l1,A,t,l2,l3,n,z,yv,a1,a2,q,st];exact take A (by rw[l];simp[q])
     .simp only[aa,bc,R,qn,l1,A,t,l2,l3,n,z,yv,a1,a2,q];exact stay A (by rw[l,hb];simp[q])
 .intro d V T hd1 hd2 P O L a;have hno:=a.no;have s:=a.gu;rw[G,xm,j6]at hno s;have z:Op.ae [.ptr (H.au+1) 0] T=some (px sv ((c.iz line c.ways).map (c.fr line + ·))):=x9 (qy s) 0;have st:=Ma a.g (u:=px sv ((c.iz line c.ways).map (c.fr line + ·))) (AU ..);have E:d≠H.au:=λ q=>by have:=(L _ a.vt).2.2;omega
  have gd:(T.set H.au (OR [px sv ((c.iz line c.ways).map (c.fr line + ·))] ku)).get d=some (.deferred (some [])):=by rw[yo (mS E)];exact P
  have rd:Op.ae [.ptr H.au 0] ((T.set H.au (OR [px sv ((c.iz line c.ways).map (c.fr line + ·))] ku)).set d (.deferred none))=some (px sv ((c.iz line c.ways).map (c.fr line + ·))):=Ce (xc ..) E;have m:c.room line=(c.iz line c.ways).map (c.fr line + ·):=by
   unfold Ca.room;rw[MF hno]
  rw[<-m]at z st gd rd;simp only[aa,bc,w12,z,st,BQ,JW,rd];refine⟨gd,?_⟩;exact(((f4.trans (W':=λ x=>(x=H.au\/x=H.au+1)\/False) O λ x q=>q.elim (λ q=>.inr (by omega)) False.elim).set (.inr (by omega)) _).set (.inr (by omega)) _)
 .rintro e d V T hj hd1 hd2 P O L ⟨he,hS⟩;subst he;obtain⟨k,k1,k2,k3⟩:=hS.ex;have E:d≠H.au:=λ q=>by have:=(L _ hS.vt).2.2;omega
  have rd:Op.ae [.ptr H.au 0] (T.set d (.deferred none))=some (eA sv (c.fr line+k)):=Ce k3 E;have m:c.room line=some (c.fr line+k):=by unfold Ca.room;rw[k2]
  simp only[aa,bc,BQ,JW,rd];refine⟨P,by rw[m];rfl,?_⟩;exact((f4.trans (W':=λ x=>(x=H.au\/x=H.au+1)\/False) O λ x q=>q.elim (λ q=>.inr (by omega)) False.elim).set (.inr (by omega)) _)
end
end Go.Am
namespace Go.Am
open Go.Proofs Ca
variable{M:ak}[MK M]
def bdE(line st:Int)(x:L8):Op.build (aB .zero) [(0,1),(1,1),(4,8)] [.int .i64 line,.int .i64 st,.agg (dR x)]=some (.agg (aB ⟨line,st,false,false,x,.zero,0⟩)):=by
 obtain⟨x,a⟩:=x
 match x,a with
 |[x0,x1,x2,x3,x4,x5,x6,x7],_=>rfl
def po(c:Ca)(line st:Int)(x:L8):AV:=.tuple [.agg (aB (c.fill line st x).2.1),.bool (decide ((c.fill line st x).2.2=0/\(c.fill line st x).2.1.st≠0)),.int .i64 (c.fill line st x).2.2]
section
variable{H:ar}{b:Nat}{sv:AV}{c:Ca}{lines line:Int}
def oy(n:dS H b sv c)(l:CI lines c)(hu:c.us+1<=1000000)(hl:0<=line){st:Int}(S:st=1\/st=2)(x:L8) :
 zd M Mw [.ptr b 0,.int .i64 line,.int .i64 st,.agg (dR x)] H λ v H'=>v=po c line st x/\dS H' b sv (c.fill line st x).1/\Fr (mE b sv) H H':=by
 refine q3e ?_;obtain⟨w0,w2,Y,V,u,Z⟩:=q3f M ⟨none,Mw⟩;obtain⟨H1,G,f1,n1,-⟩:=bX H (OR (dR x) yf);obtain⟨m,w,p,-,-⟩:=bX H1 (OR (aB .zero) xl);have A:Fr Em H m:=f1.trans p λ _ q=>q.elim;have n2:m.au=H.au+2:=by rw[w,xx,n1]
 have g1:m.get H.au=some (OR (dR x) yf):=by rw[p.ah _ (by omega) id,G,xf]
 have g2:m.get (H.au+1)=some (OR (aB .zero) xl):=by rw[w,<-n1,xf]
 have nl:¬line<0:=by omega
 have hlt:=n.lt;have hsb:aH sv<H.au:=n.sl.lt
 -- an error
 have err:∀{g:ar}(k:Int),Fr Em m g->k≠0->(c.fill line st x).2.2=k->(c.fill line st x).1=c->(c.fill line st x).2.1=.zero ->
  Op.store 21 [.ptr (H.au+1) 0,.agg (aB .zero)] g=some (.undef,g.set (H.au+1) (OR (aB .zero) xl))/\Op.aq 21 [.ptr (H.au+1) 0] (g.set (H.au+1) (OR (aB .zero) xl))=some (.agg (aB .zero)) /\
  (AV.tuple [.agg (aB .zero),.bool false,.int .i64 k]=po c line st x/\dS (g.set (H.au+1) (OR (aB .zero) xl)) b sv (c.fill line st x).1/\Fr (mE b sv) H (g.set (H.au+1) (OR (aB .zero) xl))):=by
  intro g k f hk h1 h2 h3;have gx:g.get (H.au+1)=some (OR (aB .zero) xl):=by rw[f.ah _ (by omega) id];exact g2
  have fs:Fr Em H (g.set (H.au+1) (OR (aB .zero) xl)):=(A.trans f λ _ q=>q.elim).set (.inr (by omega)) _;refine⟨gI gx (jm _) (jm .zero) (xY _),fm (xc ..) (jm _),?_,by rw[h2];exact n.em fs,ry fs⟩;unfold po;rw[h1,h3];simp[hk]
 have r:∀{q:AV},W M ⟨none,Mw⟩ (ZT 16) true (eB 0 (eG (W M ⟨none,Mw⟩ (ZT 23)) (eY M [.cw 21 8,.tmp 9,.tmp 10] (uz λ v H'=>v=po c line st x/\dS H' b sv (c.fill line st x).1/\Fr (mE b sv) H H'))))
  [(21,q),(10,.int .i64 0),(9,.bool false),(8,.ptr (H.au+1) 0),(7,.ptr H.au 0),(0,.ptr b 0),(1,.int .i64 line),(2,.int .i64 st),(3,.agg (dR x))] [] m:=by
  intro q;simp only[aa,bc,V];refine C3.q (WO (M:=M) (line:=line) (n.em A) l) λ v H3⟨T,L⟩=>?_;rw[T];unfold vC;cases hp:c.pos line with
  |some i =>
   obtain⟨s1,s2,U⟩:=err 21 L (by decide) (by unfold Ca.fill;rw[hp]) (by unfold Ca.fill;rw[hp]) (by unfold Ca.fill;rw[hp]);simp only[aa,bc,kU,eZ,pG,s1,s2];exact U
  |none =>
   simp only[aa,bc,t9,Y];have J:=A.trans L λ _ q=>q.elim;refine C3.q (xk4 (M:=M) (n.em J) l hl) λ v a⟨T,f4⟩=>?_;rw[T];have e:=L.trans f4 λ _ q=>q.elim;cases hr:c.room line with
   |none =>
    obtain⟨s1,s2,U⟩:=err 22 e (by decide) (by unfold Ca.fill;rw[hp,hr]) (by unfold Ca.fill;rw[hp,hr]) (by unfold Ca.fill;rw[hp,hr]);unfold px;simp only[aa,bc,u,O9,eZ,pG,s1,s2];exact U
   |some i =>
    obtain⟨k,k1,k2,-⟩:=RC hr;have E:i<c.sl.length:=by rw[k2];exact l.kY line k1
    have o:=A.trans e λ _ q=>q.elim;have h4:=n.em o;have n4:=e.au
    obtain⟨F,e5,B,n5,g5⟩:=bX a (OR (aB .zero) xl);have s6:=gI g5 (jm _) (jm (c.en i)) (xY _);obtain⟨h,z⟩:∃X,X=F.set a.au (OR (aB (c.en i)) xl):=⟨_,rfl⟩
    rw[<-z]at s6;have C:Fr (On a.au) F h:=by rw[z];exact(Fr.refl F).set (W:=On a.au) (.inl rfl) _
    have n6:h.au=a.au+1:=by rw[z];exact n5
    have g6:h.get a.au=some (OR (aB (c.en i)) xl):=by rw[z,xc]
    have h6:dS h b sv c:=(h4.em B).fr C (λ(q:b=a.au)=>by omega) (λ(q:aH sv=a.au)=>by omega);have N:h.get H.au=some (OR (dR x) yf):=by rw[C.ah _ (by omega) (λ(q:H.au=a.au)=>by omega),B.ah _ (by omega) id,e.ah _ (by omega) id];exact g1
    have O:h.get (H.au+1)=some (OR (aB .zero) xl):=by rw[C.ah _ (by omega) (λ(q:H.au+1=a.au)=>by omega),B.ah _ (by omega) id,e.ah _ (by omega) id];exact g2
    obtain⟨H7,s7,h7,f7⟩:=h6.EU E ⟨line,st,false,false,x,.zero,0⟩;have R:i<(c.set i ⟨line,st,false,false,x,.zero,0⟩).sl.length:=by show i<(c.sl.set i _).length;rw[xg];exact E
    have l6:=fm N (wx x);unfold px;simp only[aa,bc,u,yv,Z,qn,h4.HJ E,eZ,<-e5,s6,l6,bdE,s7];refine C3.q (VK (M:=M) h7 hu R) λ _ d⟨h8,f8⟩=>?_;have j:Fr (mE b sv) h d:=uH (uv f7) f8;have nW:∀y,H.au<=y -> ¬mE b sv y:=λ y hy q=>q.elim (λ q=>by omega) λ q=>by omega
    have P:d.get a.au=some (OR (aB (c.en i)) xl):=by rw[j.ah _ (by omega) (nW _ (by omega))];exact g6
    have Q:d.get (H.au+1)=some (OR (aB .zero) xl):=by rw[j.ah _ (by omega) (nW _ (by omega))];exact O
    have l8:=fm P (jm (c.en i));have s:Op.ae [.ptr a.au 1] d=some (.int .i64 (c.en i).st):=x9 (qy P) 1;have s9:=gI Q (jm _) (jm (c.en i)) (xY _);have g9:(d.set (H.au+1) (OR (aB (c.en i)) xl)).get a.au=some (OR (aB (c.en i)) xl):=by rw[yo (by omega)];exact P
    have t:Op.ae [.ptr a.au 1] (d.set (H.au+1) (OR (aB (c.en i)) xl))=some (.int .i64 (c.en i).st):=x9 (qy g9) 1;have l9:=fm (xc d (H.au+1) (OR (aB (c.en i)) xl)) (jm (c.en i));have I:c.fill line st x=({c with us:=c.us+1,sl:=c.sl.set i ⟨line,st,false,false,x,.zero,c.us+1⟩},c.en i,0):=by unfold Ca.fill;rw[hp,hr]
    have eu:(c.set i ⟨line,st,false,false,x,.zero,0⟩).use i = {c with us:=c.us+1,sl:=c.sl.set i ⟨line,st,false,false,x,.zero,c.us+1⟩}:=by
     unfold Ca.use;rw[Ka E];unfold Ca.set;simp only[List.set_set]
    rw[eu]at h8;have fo:Fr (On (H.au+1)) d (d.set (H.au+1) (OR (aB (c.en i)) xl)):=(Fr.refl d).set (W:=On (H.au+1)) (.inl rfl) _;have K:Fr (mE b sv) H d:=uH ((uH (ry o) (ry B)).trans C λ y(q:y=a.au)=>.inr (by omega)) j;have end_:dS (d.set (H.au+1) (OR (aB (c.en i)) xl)) b sv (c.fill line st x).1/\Fr (mE b sv) H (d.set (H.au+1) (OR (aB (c.en i)) xl)):=by
     rw[I];exact⟨h8.fr fo (λ(q:b=H.au+1)=>by omega) (λ(q:aH sv=H.au+1)=>by omega),K.set (.inr (by omega)) _⟩
    by_cases D:(c.en i).st=0
    .simp only[aa,bc,l8,s,xb D,s9,t,l9];refine⟨?_,end_⟩;unfold po;rw[I];simp[D]
    .simp only[aa,bc,l8,s,D,s9,t,l9];refine⟨?_,end_⟩;unfold po;rw[I];simp[D]
 rcases S with rfl|rfl
 .have t1:=xb (show(1:Int)=1 from rfl);simp only[aa,bc,w0,<-G,n1,eZ,<-w,w2,yv,nl];exact r
 .have t1:¬(2:Int)=1:=by decide
  have t2:=xb (show(2:Int)=2 from rfl);simp only[aa,bc,w0,<-G,n1,eZ,<-w,w2,yv,nl,t1];exact r
end
end Go.Am
namespace Go.Am
open Go.Proofs Ca
variable{M:ak}[MK M]
def O1(p:Nat->Bool)(k:Nat):(List.range (k+1)).filter p=(List.range k).filter p++(if p k then[k]else[]):=by
 rw[List.range_succ,List.filter_append];congr 1;cases h:p k<;>simp[h]
def xeq(p:Nat->Bool){k:Nat}:∀m:Nat,∃X,(List.range (k+m)).filter p=(List.range k).filter p++X
 |0=>⟨[],by simp⟩
 |m+1=>by
  obtain⟨X,a⟩:=xeq p m;rw[<-vz,O1,a];exact⟨X++(if p (k+m)then[k+m]else[]),by rw[zm]⟩
def TI(p:Nat->Bool){n k:Nat}(hk:k<n)(hp:p k=true):((List.range n).filter p)[((List.range k).filter p).length]? = some k:=by
 obtain⟨m,rfl⟩:∃m,n=k+1+m:=⟨n-(k+1),by omega⟩
 obtain⟨X,a⟩:=xeq p (k:=k+1) m;rw[a,O1,hp];simp
def iD(c:Ca):List Nat:=(List.range c.sl.length).filter λ k=>(c.en k).st != 0
def kC(c:Ca)(sv:AV):List (List AV):=(iD c).map λ k=>[eA sv k]
def Z7(b:Nat)(sv:AV)(c:Ca)(Hx:ar):Prop:=∃c',dS Hx b sv c'/\c'.sl.length=c.sl.length /\ ∀k,(c'.en k).st=(c.en k).st
def q6q{H0:ar}{p b:Nat}{sv:AV}{c:Ca}(hp:H0.get p=some (OR [.ptr b 0] C5))(hpl:p<H0.au)(hl:c.sl.length<=40) :
 tD M JO [] [.ptr p 0] (λ x=>x=p) (λ _=>False) (Z7 b sv c) H0 (kC c sv):=by
 intro Y R S g H1 hnx hN s I loc U hI step;obtain⟨p1,p2,p3⟩:=hN p (.inl rfl)
 suffices h:zd M JO [.fn (.yield Y) [] [],.ptr p 0] H1 (M0 R S g (λ _=>False) H1 (kC c sv).length)by
  obtain⟨v,H',hc,W',m,q2,q3⟩:=h.elim;exact⟨v,H',W',hc,m,q2,q3⟩
 refine qv9 ?_;obtain⟨w0,w1,w7,w9,l,A,C,B,O⟩:=qwa M ⟨none,JO⟩;have lp:∀{d:ar},Fr g H1 d->Op.ae [.ptr p 0] d=some (.ptr b 0):=λ f=>by rw[x9 (qy (by rw[f.ah _ (by omega) p3,p2];exact hp))];rfl
 have r0:=Fr.refl (W:=g) H1;obtain⟨c1,Q,G,h1s⟩:=hI 0 g H1 s;have l2:Op.ae [.ptr b 2] H1=some sv:=Q.Sq 2;have ln:Op.db [sv]=some (.int .i64 ((c.sl.length:Nat):Int)):=by rw[<-G];exact(Q.sl.sl jm).len
 simp only[aa,bc,w0,w1,lp r0,yv,w7,w9,qn,l2,ln];refine dg.intro (λ n E d=>∃(i:Nat)(V:Nat->Prop),E=[(11,.int .i64 (i:Int)),(10,.int .i64 ((c.sl.length:Nat):Int)),(0,.fn (.yield Y) [] []),(1,.ptr p 0)]/\n=c.sl.length-i/\i<=c.sl.length/\M5 R g H1 d ((List.range i).filter λ k=>(c.en k).st != 0).length V) ?_ ?_
 .exact ⟨_,_,⟨0,g,rfl,rfl,xy _,⟨s,λ b hb=>⟨I b hb,.inl hb⟩,Fr.refl _⟩⟩,by simp only[aa,bc]⟩
 rintro n E d ⟨i,V,rfl,rfl,hi,a⟩;rcases xr i c.sl.length with L|hge
 .have m:(i:Int)<((c.sl.length:Nat):Int):=by omega
  obtain⟨Z,F,hl',N⟩:=hI _ V d a.hR;have z:Op.ae [.ptr b 2] d=some sv:=F.Sq 2;have y:i<Z.sl.length:=by omega
  have ix:=F.ix y;have ls:Op.ae [.ptr (aH sv) (cF 21 sv i+1)] d=some (.int .i64 (c.en i).st):=by rw[<-N i];exact F.ld y (k:=1) (by decide)
  have X:aj .i64 ((i:Int)+1)=((i+1:Nat):Int):=by rw[jw (by omega) (by omega)];omega
  have T:=O1 (λ k=>(c.en k).st != 0) i
  by_cases r:(c.en i).st=0
  .have j:((List.range (i+1)).filter λ k=>(c.en k).st != 0).length=((List.range i).filter λ k=>(c.en k).st != 0).length:=by rw[T];simp[r]
   simp only[aa,bc,l,m,A,B,lp a.fr,qn,z,ix,ls,xb r,C,X];exact⟨_,_,⟨i+1,V,rfl,rfl,by omega,by rw[j];exact a⟩,by simp only[aa,bc],by omega⟩
  .have j:((List.range (i+1)).filter λ k=>(c.en k).st != 0).length=((List.range i).filter λ k=>(c.en k).st != 0).length+1:=by rw[T];simp[r]
   have hg:(kC c sv)[((List.range i).filter λ k=>(c.en k).st != 0).length]? = some [eA sv i]:=by
    unfold kC iD;rw[xj,TI _ L (by simp[r])];rfl
   obtain⟨bb,P,D,hr,J,u,ht,hs⟩:=step _ _ hg V d a.hR a.hV (a.fr.mono λ _ _ q=>.inl q);have o:Fr g H1 P:=a.fr.trans J λ b q=>(a.hV b q).2;have t:∀b,D b->b<P.au/\(g b\/H1.au<=b):=λ b q=>⟨(u b q).1,(u b q).2.elim (λ w=>(a.hV b w).2) λ w=>.inr (xv a.fr.au w)⟩
   simp only[aa,bc,l,m,A,B,lp a.fr,qn,z,ix,ls,r,O];refine C3.yE hr ?_;cases bb with
   |true =>
    simp only[aa,bc,C,X];exact⟨_,_,⟨i+1,D,rfl,rfl,by omega,⟨by rw[j];exact ht rfl,t,o⟩⟩,by simp only[aa,bc],by omega⟩
   |false =>
    simp only[aa,bc,BQ];exact⟨D,o.mono λ _ _ q=>.inl q,t,.inr (hs rfl)⟩
 .have m:¬(i:Int)<((c.sl.length:Nat):Int):=by omega
  have K:i=c.sl.length:=by omega
  simp only[aa,bc,l,m,Ny];refine⟨V,a.fr.mono λ _ _ q=>.inl q,a.hV,.inl ?_⟩;have e:(kC c sv).length=((List.range i).filter λ k=>(c.en k).st != 0).length:=by unfold kC iD;rw[xm,K]
  rw[e];exact a.hR
def xap{H:ar}(b:Nat):zd M ZV [.ptr b 0] H λ v H'=>v=.fn (.func JO) [] [.ptr H.au 0]/\H'=H.alloc (OR [.ptr b 0] C5):=by
 refine q3o ?_;have ca:AV.cells (.ptr b 0)=[.ptr b 0]:=rfl;have mk:Op.bC JO 0 [.ptr H.au 0]=some (.fn (.func JO) [] [.ptr H.au 0]):=rfl;simp only[aa,bc,q3p,ca];rfl
structure Ez(c:Ca)(g:En->En)(i:Nat)(c':Ca):Prop where
 fD:c'.fD=c.fD
 ways:c'.ways=c.ways
 us:c'.us=c.us
 len:c'.sl.length=c.sl.length
 en:∀k,k<c.sl.length->c'.en k=if k∈(iD c).take i then g (c.en k)else c.en k
def Ez.zero(c:Ca)(g:En->En):Ez c g 0 c:=⟨rfl,rfl,rfl,rfl,λ k hk=>by simp⟩
def xcy(c:Ca):(iD c).Nodup:=List.Nodup.sublist (List.filter_sublist) List.nodup_range
def Nu{c:Ca}{k:Nat}:k∈iD c↔k<c.sl.length/\(c.en k).st≠0:=by
 unfold iD;rw[List.mem_filter,List.mem_range];simp
def xg8{l:List Nat}(h:l.Nodup){i k:Nat}(hk:l[i]? = some k):k∉l.take i:=by
 intro hm;obtain⟨j,a⟩:=JI hm;rw[yj]at a;split at a
 .rename_i d;have e:=qk.1 a;have f:=qk.1 hk;exact List.pairwise_iff_getElem.1 h j i e.1 f.1 d (by rw[e.2,f.2])
 .cases a
def Ez.step{c a:Ca}{g:En->En}{i k:Nat}(h:Ez c g i a)(hk:(iD c)[i]? = some k):a.en k=c.en k/\Ez c g (i+1) (a.set k (g (c.en k))):=by
 have hm:=Nu.1 (za hk);have hn:=xg8 (xcy c) hk;have he:a.en k=c.en k:=by rw[h.en k hm.1,qo hn]
 refine⟨he,h.fD,h.ways,h.us,by show(a.sl.set k _).length=_;rw[xg];exact h.len,λ j d=>?_⟩;rw[Bz (by rw[h.len];exact hm.1),Nl,hk]
 by_cases q:k=j
 .subst q;rw[qr rfl,qr (by simp)]
 .rw [qo q,h.en j d];have:(j∈(iD c).take i++(some k).toList)↔j∈(iD c).take i:=by simp[mS q]
  by_cases w:j∈(iD c).take i
  .rw [qr w,qr (this.2 w)]
  .rw [qo w,qo λ z=>w (this.1 z)]
def Ez.done{c d:Ca}{g:En->En}(h:Ez c g (iD c).length d)(hg:∀e:En,e.st=0->g e=e):d = {c with sl:=c.sl.map g}:=by
 have a:d.sl=c.sl.map g:=by
  refine jy λ k=>?_;rcases xr k c.sl.length with q|q
  .rw [EG (by rw[h.len];exact q),xj,EG q,h.en k q,zg (qg _)]
   by_cases w:(c.en k).st=0
   .rw [qo (λ z=>(Nu.1 z).2 w)];show some (c.en k)=some (g (c.en k));rw[hg _ w]
   .rw [qr (Nu.2 ⟨q,w⟩)];rfl
  .rw [zz (by rw[h.len];exact q),zz (by rw[xm];exact q)]
 obtain⟨s,w,l,u⟩:=d;have f:=h.fD;have i:=h.ways;have j:=h.us;simp only at f i j a;subst f;subst i;subst j;subst a;rfl
structure Lh(c:Ca)(g:En->En)(b:Nat)(sv:AV)(i:Nat)(V:Nat->Prop)(Hx:ar):Prop where
 vb:V b
 vs:V (aH sv)
 ex:∃c',dS Hx b sv c'/\Ez c g i c'
def dS.loc{a Hb:ar}{b:Nat}{sv:AV}{c:Ca}(h:dS a b sv c)(j:Hb.get b=a.get b)(e:Hb.get (aH sv)=a.get (aH sv))(hn:a.au<=Hb.au):dS Hb b sv c :=
 ⟨by rw[j];exact h.row,qj h.lt hn,by
  obtain⟨sb,d,f,g⟩:=h.sl;have i:aH sv=sb:=by rw[d];rfl
  rw[i]at e;exact⟨sb,d,qj f hn,by rw[e];exact g⟩,h.ne,h.s8,h.w4,h.us⟩
def Lh.loc{c:Ca}{g:En->En}{b:Nat}{sv:AV}{i:Nat}{V:Nat->Prop}{a Hb:ar}(h:Lh c g b sv i V a)(hs:∀x,V x->Hb.get x=a.get x)(hn:a.au<=Hb.au):Lh c g b sv i V Hb:=by
 obtain⟨d,e,f⟩:=h.ex;exact⟨h.vb,h.vs,d,e.loc (hs _ h.vb) (hs _ h.vs) hn,f⟩
def Lh.hI{c:Ca}{g:En->En}(hg:∀e:En,(g e).st=e.st){b:Nat}{sv:AV}{i:Nat}{V:Nat->Prop}{d:ar}(h:Lh c g b sv i V d):Z7 b sv c d:=by
 obtain⟨f,j,a⟩:=h.ex;refine⟨f,j,a.len,λ k=>?_⟩;rcases xr k c.sl.length with q|q
 .rw [a.en k q];split
  .exact hg _
  .rfl
 .rw [WW q,WW (by rw[a.len];exact q)]
section
variable{H:ar}{b:Nat}{sv:AV}{c:Ca}{lines line:Int}
def S5(G:dS H b sv c)(hl:c.sl.length<=40):zd M M7 [.ptr b 0] H λ _ H'=>dS H' b sv c.bw/\Fr (mE b sv) H H':=by
 refine qv6 ?_;obtain⟨w0,wa,wb,w2,U,X⟩:=Yy M ⟨none,M7⟩;simp only[aa,bc,w0,w2,yv,U];refine C3.q (xap (M:=M) b) λ v H5⟨hv,hh⟩=>?_;obtain⟨H1,e1,Z,n1,g1⟩:=bX H (OR [.ptr b 0] C5);rw[<-e1]at hh;rw[hv,hh];have I:=G.em Z;have hlt:=G.lt;have hsb:aH sv<H.au:=G.sl.lt
 refine jC.tt (fn:=SJ) (lp:=Pu) (pa:=Xf 0) (pb:=U5 0) qua Yv.1 Yv.2 (by decide) qsk qsl
  (q6q (M:=M) (b:=b) (sv:=sv) (c:=c) g1 (by omega) hl) (λ i V Y=>Lh c qJ b sv i V Y) (λ _ _ _=>False) (mE b sv) (qg _) ?_ ?_ ?_ ?_ ?_ ?_ ?_ ?_ ?_
 .rintro x (q|q)
  .exact ⟨by omega,rfl,λ w=>w.elim (λ w=>by omega) λ w=>by omega⟩
  .exact q.elim
 .exact λ x B=>B.elim (λ q=>by omega) λ q=>by omega
 .exact ⟨.inl rfl,.inr rfl,c,I,Ez.zero c qJ⟩
 .exact λ i V Ha Hb h hs hn=>h.loc hs hn
 .exact λ e V Ha Hb h _ _=>h
 .exact λ i V Y h=>h.hI Uf
 .intro f i lr lb x B hL2 V p s hV hf6 A hL6 O;unfold kC at B;rw[xj,xk]at B;obtain⟨k,hk,rfl⟩:=B;refine⟨_,rfl,?_⟩;obtain⟨-,wa,wb,-⟩:=Yy M ⟨some f,M7⟩;simp only[aa,bc,wa,Fb];refine⟨O,?_⟩;have fx:Fr (On f) p (p.set f lb):=(Fr.refl p).set (W:=On f) (.inl rfl) _;have gL:(p.set f lb).get f=some lb:=xc ..;have nL:(p.set f lb).au=p.au:=rfl
  have F:=s.loc (Hb:=p.set f lb) (λ y C=>by rw[yo (λ q:f=y=>A (by rw[q];exact C))]) (qg _);generalize p.set f lb=H7 at *;obtain⟨a,h7,ht⟩:=F.ex;obtain⟨L,S⟩:=ht.step hk;have hm:=Nu.1 (za hk);have l:k<a.sl.length:=by rw[ht.len];exact hm.1
  obtain⟨H8,s8,h8,f8⟩:=h7.cJ l (j:=2) (by decide) (u:=.bool false) rfl (e:={a.en k with r:=false}) rfl;have Q:k<(a.set k {a.en k with r:=false}).sl.length:=by show k<(a.sl.set k _).length;rw[xg];exact l
  obtain⟨H9,s9,h9,f9⟩:=h8.cJ Q (j:=3) (by decide) (u:=.bool false) rfl (e:={(a.set k {a.en k with r:=false}).en k with w:=false}) rfl;rw[Ka l,Tc]at h9;have R:k<(a.set k {a.en k with r:=false,w:=false}).sl.length:=by show k<(a.sl.set k _).length;rw[xg];exact l
  obtain⟨t,T,m,D⟩:=h9.Rj R (j:=12) (n:=8) (u:=.agg (dR .zero)) (by rw[zw];exact wx _) (by rw[zw];exact yI _) (by decide) (e:={(a.set k {a.en k with r:=false,w:=false}).en k with o:=.zero}) (HM _ _);rw[Ka l,Tc]at m;have ec:({a.en k with r:=false,w:=false,o:=.zero}:En)=qJ (c.en k):=by rw[L];unfold qJ;rw[qo hm.2]
  have m:dS t b sv (a.set k (qJ (c.en k))):=by rw[<-ec];exact m
  have g:Fr (On (aH sv)) H7 t:=(f8.trans f9 λ _ q=>.inl q).trans D λ _ q=>.inl q;have E:f≠aH sv:=λ q=>A (by rw[q];exact s.vs);have n710:=g.au
  simp only[aa,bc,wb,lZ,pG,qn,s8,s9,T];refine⟨rfl,by rw[g.ah f (by omega) (λ(q:f=aH sv)=>E q)];exact gL,V,λ y C=>⟨by have:=(hV y C).1;omega,.inl C⟩,(fx.mono λ y _ q=>.inr q).trans g λ y(q:y=aH sv)=>.inl (.inl (by rw[q];exact s.vs)),.inl ⟨rfl,s.vb,s.vs,_,m,S⟩⟩
 .intro d V z hd1 hd2 P N hVd s;obtain⟨a,h1,h2⟩:=s.ex;have el:(kC c sv).length=(iD c).length:=by unfold kC;rw[xm]
  rw[el]at h2;have e:a=c.bw:=h2.done λ e h=>by unfold qJ;rw[qr h]
  rw[e]at h1;have J:d≠b:=by omega
  have K:d≠aH sv:=by omega
  have fo:Fr (On d) z (z.set d (.deferred none)):=(Fr.refl z).set (W:=On d) (.inl rfl) _;have fW:Fr (mE b sv) H z:=(ry Z).trans N λ y q=>q.elim (λ w=>.inl w) False.elim;simp only[aa,bc,X,JW];exact⟨P,h1.fr fo (λ(q:b=d)=>J q.symm) (λ(q:aH sv=d)=>K q.symm),fW.set (.inr (by omega)) _⟩
 .exact λ e d V z _ _ _ _ _ _ h=>h.elim
end
end Go.Am
namespace Go.Am
open Go.Proofs Ca
variable{M:ak}[MK M]
def lJ(e:En):En:=if e.st≠0/\e.w=true then{e with d:=e.o}else e
def Z1(e:En):(lJ e).st=e.st:=by unfold lJ;split<;>rfl
def Bl(e:En):qJ (lJ e)=back e:=by
 unfold qJ back;rw[Z1]
 by_cases h:e.st=0
 .rw [qr h,qr h];unfold lJ;rw[qo λ q=>q.1 h]
 .rw [qo h,qo h];unfold lJ
  by_cases hw:e.w=true
  .rw [qr ⟨h,hw⟩,qr hw]
  .rw [qo (λ q=>hw q.2),qo hw]
def xge(c:Ca):Ca.bw {c with sl:=c.sl.map lJ} = c.discard:=by
 unfold Ca.bw Ca.discard;simp only[wo];congr 1;exact List.map_congr_left λ e _=>Bl e
section
variable{H:ar}{b:Nat}{sv:AV}{c:Ca}{lines line:Int}
def xaa(N:dS H b sv c)(hl:c.sl.length<=40):zd M Nn [.ptr b 0] H λ _ H'=>dS H' b sv c.discard/\Fr (mE b sv) H H':=by
 refine qub ?_;obtain⟨w0,wa,Y,w2,U,X⟩:=Y1 M ⟨none,Nn⟩;simp only[aa,bc,w0,w2,yv,U];refine C3.q (xap (M:=M) b) λ v H5⟨hv,hh⟩=>?_;obtain⟨H1,e1,f1,n1,g1⟩:=bX H (OR [.ptr b 0] C5);rw[<-e1]at hh;rw[hv,hh];have O:=N.em f1;have hlt:=N.lt;have hsb:aH sv<H.au:=N.sl.lt
 refine jC.tt (fn:=Sv) (lp:=NJ) (pa:=TU 0) (pb:=UO 0) qsm YB.1 YB.2 (by decide) qq4 qq5
  (q6q (M:=M) (b:=b) (sv:=sv) (c:=c) g1 (by omega) hl) (λ i V Hx=>Lh c lJ b sv i V Hx) (λ _ _ _=>False) (mE b sv) (qg _) ?_ ?_ ?_ ?_ ?_ ?_ ?_ ?_ ?_
 .rintro x (q|q)
  .exact ⟨by omega,rfl,λ w=>w.elim (λ w=>by omega) λ w=>by omega⟩
  .exact q.elim
 .exact λ x C=>C.elim (λ q=>by omega) λ q=>by omega
 .exact ⟨.inl rfl,.inr rfl,c,O,Ez.zero c lJ⟩
 .exact λ i V Ha Hb h hs hn=>h.loc hs hn
 .exact λ e V Ha Hb h _ _=>h
 .exact λ i V Hx h=>h.hI Z1
 .intro f i lr lb x C hL2 V p g hV hf6 B hL6 R;unfold kC at C;rw[xj,xk]at C;obtain⟨k,hk,rfl⟩:=C;refine⟨_,rfl,?_⟩;obtain⟨-,wa,Y,-⟩:=Y1 M ⟨some f,Nn⟩;simp only[aa,bc,wa,Fb];refine⟨R,?_⟩;have fx:Fr (On f) p (p.set f lb):=(Fr.refl p).set (W:=On f) (.inl rfl) _;have gL:(p.set f lb).get f=some lb:=xc ..;have nL:(p.set f lb).au=p.au:=rfl
  have L:=g.loc (Hb:=p.set f lb) (λ y t=>by rw[yo (λ q:f=y=>B (by rw[q];exact t))]) (qg _);generalize p.set f lb=H7 at *;obtain⟨a,E,ht⟩:=L.ex;obtain⟨l,r⟩:=ht.step hk;have hm:=Nu.1 (za hk);have m:k<a.sl.length:=by rw[ht.len];exact hm.1
  have K:f≠aH sv:=λ q=>B (by rw[q];exact g.vs);have lw:Op.ae [.ptr (aH sv) (cF 21 sv k+3)] H7=some (.bool (a.en k).w):=E.ld m (k:=3) (by decide);cases hw:(a.en k).w with
  |true =>
   rw[hw]at lw;obtain⟨H8,s8,J,G⟩:=E.Rj m (j:=4) (n:=8) (u:=.agg (dR (a.en k).o)) (by rw[zw];exact wx _) (by rw[zw];exact yI _) (by decide) (e:={a.en k with d:=(a.en k).o}) (Ik _ _);have F:({a.en k with d:=(a.en k).o}:En)=lJ (c.en k):=by
    have s:(c.en k).w=true:=by rw[<-l];exact hw
    rw[l];unfold lJ;rw[qr ⟨hm.2,s⟩]
   have J:dS H8 b sv (a.set k (lJ (c.en k))):=by rw[<-F];exact J
   have n78:=G.au
   simp only[aa,bc,Y,qn,lw,E.ldO m,s8];exact⟨rfl,by rw[G.ah f (by omega) (λ(q:f=aH sv)=>K q)];exact gL,V,λ y t=>⟨by have:=(hV y t).1;omega,.inl t⟩,(fx.mono λ y _ q=>.inr q).trans G λ y(q:y=aH sv)=>.inl (.inl (by rw[q];exact g.vs)),.inl ⟨rfl,g.vb,g.vs,_,J,r⟩⟩
  |false =>
   rw[hw]at lw;have F:a.set k (lJ (c.en k))=a:=by
    have hu:lJ (c.en k)=a.en k:=by
     have s:(c.en k).w=false:=by rw[<-l];exact hw
     unfold lJ;rw[qo (λ q=>by rw[s]at q;exact Bool.noConfusion q.2),l]
    rw[hu];unfold Ca.set Ca.en;rw[qt m];simp
   rw[F]at r;simp only[aa,bc,Y,qn,lw];exact⟨rfl,gL,V,λ y t=>⟨by have:=(hV y t).1;omega,.inl t⟩,fx.mono λ y _ q=>.inr q,.inl ⟨rfl,g.vb,g.vs,_,E,r⟩⟩
 .intro d V Z hd1 P S Q hVd g;obtain⟨a,h1,I⟩:=g.ex;have el:(kC c sv).length=(iD c).length:=by unfold kC;rw[xm]
  rw[el]at I;have e:a = {c with sl:=c.sl.map lJ}:=I.done λ e h=>by unfold lJ;rw[qo λ q=>q.1 h]
  have z:d≠b:=by omega
  have A:d≠aH sv:=by omega
  have fW:Fr (mE b sv) H Z:=(ry f1).trans Q λ y q=>q.elim (λ w=>.inl w) False.elim;simp only[aa,bc,X];refine C3.q (S5 (M:=M) h1 (by rw[I.len];exact hl)) λ _ D⟨h3,f3⟩=>?_;rw[e,xge]at h3;have T:D.get d=some (.deferred (some [])):=by rw[f3.ah d P (λ q=>q.elim z A)];exact S
  have fo:Fr (On d) D (D.set d (.deferred none)):=(Fr.refl D).set (W:=On d) (.inl rfl) _;simp only[aa,bc,JW];exact⟨T,h3.fr fo (λ(q:b=d)=>z q.symm) (λ(q:aH sv=d)=>A q.symm),(uH fW f3).set (.inr (by omega)) _⟩
 .exact λ e d V Z _ _ _ _ _ _ h=>h.elim
end
end Go.Am
namespace Go.Am
open Go.Proofs Ca
variable{M:ak}[MK M]
def oZ(s w:Nat):Ca:=⟨s,w,List.replicate (s*w) .zero,0⟩
def Us(s w k:Nat):(oZ s w).en k=.zero:=by
 unfold Ca.en oZ;simp only[Sf];split<;>rfl
def CN(lines:Int){s w:Nat}(hs:0<s)(hw:0<w):CI lines (oZ s w) :=
 ⟨zt ..,hs,hw,λ i _ h=>by rw[Us]at h;exact absurd rfl h,λ i j _ _ h=>by rw[Us]at h;exact absurd rfl h⟩
def xdh(s w:Nat):(oZ s w).plain:=λ i _ h=>by rw[Us]at h;exact absurd rfl h
def xes:∀n:Nat,(List.replicate n En.zero).flatMap aB=fq n (aB .zero)
 |0=>rfl
 |n+1=>by rw[P2,js,xes n];rfl
def rU(s w:Int):Prop:=1<=s/\s<=8/\1<=w/\w<=4
instance(s w:Int):Decidable (rU s w):=inferInstanceAs (Decidable (_/\_))
def U4(H:ar)(s w:Int)(v:AV)(H':ar):Prop:=Fr Em H H'/\(¬rU s w/\v=.tuple [.nilp,.int .i64 2]\/rU s w /\ ∃b sv,v=.tuple [.ptr b 0,.int .i64 0]/\dS H' b sv (oZ s.toNat w.toNat)/\H.au<=b/\H.au<=aH sv)
def xgx{H:ar}(s w:Int):zd M Wf [.int .i64 s,.int .i64 w] H (U4 H s w):=by
 refine AR ?_;obtain⟨w0,g,l⟩:=Ef M ⟨none,Wf⟩
 by_cases f:s<1
 .simp only[aa,bc,w0,g,f];exact⟨Fr.refl _,.inl ⟨λ q=>by have:=q.1;omega,rfl⟩⟩
 by_cases h:8<s
 .simp only[aa,bc,w0,g,f,h];exact⟨Fr.refl _,.inl ⟨λ q=>by have:=q.2.1;omega,rfl⟩⟩
 by_cases j:w<1
 .simp only[aa,bc,w0,g,f,h,j];exact⟨Fr.refl _,.inl ⟨λ q=>by have:=q.2.2.1;omega,rfl⟩⟩
 by_cases o:4<w
 .simp only[aa,bc,w0,g,f,h,j,o];exact⟨Fr.refl _,.inl ⟨λ q=>by have:=q.2.2.2;omega,rfl⟩⟩
 obtain⟨a,rfl⟩:=z4 (show 0<=s by omega);obtain⟨d,rfl⟩:=z4 (show 0<=w by omega);have u:a*d<=8*4:=Nat.mul_le_mul (by omega) (by omega);have x:aj .i64 ((a:Int)*(d:Int))=((a*d:Nat):Int):=by rw[<-Int.natCast_mul];exact jw (by omega) (by omega)
 have mk:=Py xl 160 (aB .zero) (a*d) .i64 .i64 (by omega) (by omega);rw[<-xes]at mk;obtain⟨H1,m,r,n1,-⟩:=bX H (OR ((List.replicate (a*d) En.zero).flatMap aB) xl);obtain⟨sv,e⟩:∃sv:AV,sv=.slice H.au 0 (a*d) (a*d):=⟨_,rfl⟩
 have k:Op.sliceTo (a*d) (a*d) H.au=sv:=by rw[e];rfl
 have v:aH sv=H.au:=by rw[e];rfl
 have p:Op.build [.int .i64 0,.int .i64 0,.nils,.int .i64 0] [(0,1),(1,1),(2,1)] [.int .i64 (a:Int),.int .i64 (d:Int),sv]=some (.agg (Es (oZ a d) sv)):=by rw[e];rfl
 obtain⟨y,i,n,-,t⟩:=bX H1 (OR (Es (oZ a d) sv) W7);simp only[aa,bc,w0,g,f,h,j,o,l,x,eZ,mk,k,<-m,p,<-i];refine⟨r.trans n λ _ q=>q.elim,.inr ⟨⟨by omega,by omega,by omega,by omega⟩,_,sv,rfl,⟨t,by rw[i,xx];omega,⟨H.au,?_,?_,?_⟩,by omega,by show a<=8;omega,by show d<=4;omega,⟨wn _,by show(0:Int)<=1000000;decide⟩⟩,by omega,by omega⟩⟩
 .show sv=.slice H.au 0 (List.replicate (a*d) En.zero).length (List.replicate (a*d) En.zero).length
  rw[zt];exact e
 .rw [i,xx];omega
 .rw [n.ah _ (by omega) id,m,xf];rfl
end Go.Am
