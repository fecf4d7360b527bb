import Derived.Test.YtlepagkkolnmoaaGreatDoorAmVZd
import Derived.Test.YtlepagkkolnmoaaGreatDoorAmVZf
import Derived.Test.YtlepagkkolnmoaaGreatDoorAmVZe
set_option linter.defProp false
set_option linter.unusedVariables false
set_option linter.unusedSimpArgs false
set_option linter.unusedSectionVars false
set_option maxRecDepth 100000
open BitVec renaming ofInt→B0
open Bool renaming noConfusion→Ql,false→B2,true→B4
open False renaming elim→NT
open Go renaming IntKind→PD
open List renaming range→N7,replicate→Jv
open Nat renaming beq→J8,ble→OZ,blt→Pk
open Option renaming none→B5,some→B1
open Nat renaming reduceEqDiff→bc
namespace Go.Am
def hO(x:Nat):List AV:=[.int .i64 (x:Int)]
def ad9(x:Nat):(hO x).length=1:=rfl
def Nk(l:List Nat):l.flatMap hO=l.map λ(x:Nat)=>AV.int .i64 (x:Int):=by
 induction l with
 |nil=>rfl
 |cons a l ih=>rw[j0,ih];rfl
def vY(l:List Nat):(l.flatMap hO).length=l.length:=by rw[Nk,xu]
structure mT(e:Nat)(H0 H:ar)(v:AV)(xs:List Nat):Prop where
 own:(v=.nils/\xs=[]) \/ ∃b m rest,v=.gslice b 0 m 1 0 xs.length/\b<H.au/\H0.au<=b/\m=xs.length+rest.length/\H.get b=B1 (.grown m 1 (xs.flatMap hO++rest) e (0,0))
 fr:Fr Em H0 H
section
variable{e:Nat}{H0 H:ar}{v:AV}{xs:List Nat}
def mT.nil(e:Nat)(H:ar):mT e H H .nils []:=⟨.inl ⟨rfl,rfl⟩,Fr.refl H⟩
def mT.fresh(h:mT e H0 H v xs):∀b,aM v b->H0.au<=b/\b<H.au:=by
 rintro b ⟨a,rfl⟩;rcases h.own with⟨rfl,_⟩|⟨b,m,rest,rfl,c,d,_⟩
 .exact (a rfl).elim
 .exact ⟨d,c⟩
def mT.sl(h:mT e H0 H v xs):bM hO 1 H v xs:=by
 rcases h.own with⟨rfl,rfl⟩|⟨b,m,rest,rfl,a,d,f,c⟩
 .exact ⟨rfl,rfl⟩
 .refine ⟨by rw[vY,Nat.mul_one],rfl,rfl,by omega,.inr ⟨a,_,UW c,?_⟩⟩;rw[sV,xb (by rw[xc,vY];omega),wh,yt,Nat.mul_one,ym (by rw[vY];exact qm _),zq (by rw[vY];exact qm _)]
def mT.vK{H':ar}{W:Nat->Prop}(h:mT e H0 H v xs)(f:Fr W H H')(c:Fr Em H0 H')(hw:∀b,aM v b -> ¬W b):mT e H0 H' v xs:=by
 refine⟨?_,c⟩;rcases h.own with q|⟨b,m,rest,rfl,a,d,g,i⟩
 .exact .inl q
 .exact .inr ⟨b,m,rest,rfl,qn a f.au,d,g,by rw[f.ai b a (hw b ⟨by simp,rfl⟩)];exact i⟩
def mT.em{H':ar}(h:mT e H0 H v xs)(f:Fr Em H H'):mT e H0 H' v xs:=h.vK f (h.fr.em f) λ _ _ q=>q
def mT.cut(h:mT e H0 H v xs){k:Nat}(hk:k<=xs.length){z:Int}(i:z=k)(kk:PD) :
 ∃g,Op.aC 1 [B5,B1 0,B5] [v,.int kk z]=B1 g/\mT e H0 H g (xs.take k) /\ ∀b,aM g b->aM v b:=by
 rcases h.own with⟨rfl,rfl⟩|⟨b,m,rest,rfl,j,l,p,o⟩
 .have:k=0:=by simpa using hk
  subst this;refine⟨.nils,?_,⟨.inl ⟨rfl,rfl⟩,h.fr⟩,λ b hb=>hb⟩;have c:bound B5 0 0=B1 0:=rfl;simp[Op.aC,arg,kD,dC,c,wv i (qm 0)]
 .have e1:∀n,J8 n n=true:=λ n=>by simp
  have a:∀d m,bound B5 d m=B1 d:=λ _ _=>rfl;have f:=y8 (show k<=m-0 by omega);refine⟨.gslice b (0+0) m 1 (cond (J8 0 0) 0 (0*1)) (k-0),by simp only[Op.aC,arg,kD,ja,qr,dC,a,wv i (show k<=m-0 by omega),e1,f,y8 (x9 m),jp,xv],⟨.inr ⟨b,m,(xs.drop k).flatMap hO++rest,?_,j,l,?_,?_⟩,h.fr⟩,λ b hb=>⟨by simp,hb.2⟩⟩
  .rw [zx,LH hk];rfl
  .rw [zx,xc,vY,jg];omega
  .rw [o,<-jb,<-kq,yx]
def mT.push(h:mT e H0 H v xs){x:Nat}{zero:List AV}{bytes:Nat}(G:zero.length=1)(D:(xs.length+1)*bytes<=140737488355328)(u:xs.length+1<=140737488355328){K:bF->(Nat->AV)->Bool->AV->ar->Prop}{m:Bool}
 (hk:∀A H',mT e H0 H' A (xs ++ [x])->Fr (aM v) H H'->(∀b,aM A b->aM v b\/H.au<=b)->K (.row [.int .i64 (x:Int)] e (0,0) B4) (Op.sliceTo 1 1) m A H') :
 jN m (Op.buildSlice e 1 zero [(0,1)] [.int .i64 (x:Int)]) λ g o mk=>jN g (Op.append e 1 bytes [v,mk H.au] (H.alloc o)) (K o mk):=by
 have hb:Op.buildSlice e 1 zero [(0,1)] [.int .i64 (x:Int)]=B1 (.row [.int .i64 (x:Int)] e (0,0) B4,Op.sliceTo 1 1):=Xt e 1 zero (.int .i64 (x:Int)) G rfl;rw[hb];have f:Fr Em H (H.alloc (.row [.int .i64 (x:Int)] e (0,0) B4)):=(Fr.refl H).alloc _;have k:Sl (H.alloc (.row [.int .i64 (x:Int)] e (0,0) B4)) 1 (Op.sliceTo 1 1 H.au) 1 [.int .i64 (x:Int)]:=DK rfl;have e1:∀n,J8 n n=true:=λ n=>by simp
 have ha:aS [AV.int .i64 (x:Int)]=true:=rfl;have j:Pk 0 1=true:=rfl;have l:J8 1 0=false:=rfl;have d:=S7 D u;refine jN.intro rfl ?_;rcases h.own with⟨rfl,rfl⟩|⟨b,i,rest,rfl,I,y,z,J⟩
 .have d:fits 1 bytes=true:=by simpa using d
  refine jN.intro (a:=.gslice (H.au+1) 0 1 1 0 1) (b:=(H.alloc (.row [.int .i64 (x:Int)] e (0,0) B4)).alloc (.grown 1 1 [.int .i64 (x:Int)] e (0,0))) ?_ (hk _ _ ⟨.inr ⟨H.au+1,1,[],rfl,?_,?_,rfl,?_⟩,?_⟩ ((f.alloc _).mono λ _ _ q=>q.elim) λ b hb=>.inr ?_)
  .simp only[Op.append,k.fI,k.first,qr,ha,xv,df,l,zo,d,j,jp,dD,xz]
  .rw [xz,xz];omega
  .have:=h.fr.au;omega
  .exact xr ..
  .exact (h.fr.em f).alloc _
  .rw [hb.2];show H.au<=H.au+1;omega
 .have p:(H.alloc (.row [.int .i64 (x:Int)] e (0,0) B4)).get b=B1 (.grown i 1 (xs.flatMap hO++rest) e (0,0)):=by rw[xF I];exact J
  cases rest with
  |nil =>
   have hm:i=xs.length:=by simpa using z
   subst hm;have s:OZ (0+xs.length+1) xs.length=false:=by cases E:OZ (0+xs.length+1) xs.length with|false=>rfl|true=>rw[uh]at E;omega
   have t:=y8 (show 0+xs.length<=xs.length by omega);have B:=y8 (x9 (xs.length*1));refine jN.intro (a:=.gslice (H.au+1) 0 (xs.length+1) 1 0 (xs.length+1)) (b:=((H.alloc (.row [.int .i64 (x:Int)] e (0,0) B4)).kill b).alloc (.grown (xs.length+1) 1 (xs.flatMap hO ++ [.int .i64 (x:Int)]) e (0,0))) ?_ (hk _ _ ⟨.inr ⟨H.au+1,xs.length+1,[],?_,?_,?_,?_,?_⟩,?_⟩ ?_ λ b hb=>.inr ?_)
   .simp only[Op.append,k.fI,k.first,qr,ha,xv,df,zo,e1,t,j,jp,s,d,p,B,dD,Iv,xz,py,zn,J8]
   .rw [xc];rfl
   .rw [xz,Iv,xz];omega
   .have:=h.fr.au;omega
   .rw [xc];rfl
   .rw [zn,kq];have:=xr ((H.alloc (.row [.int .i64 (x:Int)] e (0,0) B4)).kill b) (.grown (xs.length+1) 1 (xs.flatMap hO ++ [.int .i64 (x:Int)]) e (0,0));rw[Iv,xz]at this;exact this
   .exact ((h.fr.em f).kill (.inr y)).alloc _
   .exact (Fr.kill (W:=aM (AV.gslice b 0 xs.length 1 0 xs.length)) (f.mono λ _ _ q=>q.elim) (.inl ⟨by simp,rfl⟩)).alloc _
   .rw [hb.2];show H.au<=H.au+1;omega
  |cons r rest =>
   have s:=y8 (show 0+xs.length+1<=i by simp at z;omega);have t:=y8 (show 0+xs.length<=i by omega);have w:(H.alloc (.row [.int .i64 (x:Int)] e (0,0) B4)).store b ((0+xs.length)*1) [.int .i64 (x:Int)]=B1 ((H.alloc (.row [.int .i64 (x:Int)] e (0,0) B4)).set b (.grown i 1 ((xs ++ [x]).flatMap hO++rest) e (0,0))):=by
    have F:eI (0,0) ((0+xs.length)*1) (cW [AV.int .i64 (x:Int)])=true:=by simp[eI]
    simp only[ar.store,ha,xv,p,F,Fy];rw[xb (by rw[xc,vY];simp),qr];congr 4;rw[yf,Nat.mul_one,ym (by rw[vY];exact qm _),zq (by rw[vY];exact qm _),kq]
    .rfl
    .rw [yf,Nat.mul_one,show[AV.int .i64 (x:Int)].length=1 from rfl,I3,jo (by rw[vY];omega),vY];simp
   refine jN.intro (a:=.gslice b 0 i 1 0 (xs.length+1)) (b:=(H.alloc (.row [.int .i64 (x:Int)] e (0,0) B4)).set b (.grown i 1 ((xs ++ [x]).flatMap hO++rest) e (0,0))) ?_ (hk _ _ ⟨.inr ⟨b,i,rest,?_,?_,y,?_,?_⟩,?_⟩ ?_ λ c C=>.inl ⟨by simp,C.2⟩)
   .simp only[Op.append,k.fI,k.first,qr,ha,xv,df,l,zo,e1,t,j,jp,s,w]
   .rw [xc];rfl
   .rw [oO,xz];omega
   .rw [xc];simp at z⊢;omega
   .exact xg ..
   .exact (h.fr.em f).set (.inr y) _
   .exact Fr.set (W:=aM (AV.gslice b 0 i 1 0 xs.length)) (f.mono λ _ _ q=>q.elim) (.inl ⟨by simp,rfl⟩) _
end
end Go.Am
namespace Go.Am
def TK{len size b o:Nat}{k:PD}{j:Int}{i:Nat}(c:j=i)(a:i<len):Op.bh len size [.ptr b o,.int k j]=B1 (.ptr b (o+i*size)):=by
 simp only[Op.bh,Mc c a,qr]
def OQ{k:PD}{a:Nat}{b:Int}(hb:0<b):Op.bin .rem [.int k (a:Int),.int k b]=B1 (.int k ((a % b.toNat:Nat):Int)):=by
 rw[sI k _ _ (by omega),R9 (by omega)];congr 2;rw[Int.natCast_emod];congr 1;omega
namespace Lang
def ints(l:List Nat):List Int:=l.map λ(n:Nat)=>(n:Int)
end Lang
end Go.Am
namespace Go.Am
def OG(k k':PD)(a:Int)(n:Nat):Op.bin .shr [.int k a,.int k' n]=B1 (.int k (a.fdiv (2 ^ (min n k.bits)))):=by
 have e:AW (n:Int) 0=false:=by rw[Js];simp
 simp only[Op.bin,oH,dZ,xv,tA,e,zo,FB]
def JU(k k':PD)(a:Int)(n:Nat):Op.bin .shl [.int k a,.int k' n]=B1 (.int k (ak k (a*2 ^ (min n k.bits)))):=by
 have e:AW (n:Int) 0=false:=by rw[Js];simp
 simp only[Op.bin,oH,dZ,xv,tA,e,zo,FB]
end Go.Am
namespace Go.Am
namespace Lang
structure i9 where
 op:Int
 a:Int
 b:Int
 c:Int
 AR:Int
def F1(o:Nat)(x y:Int):Int :=
 if o=4 then ak .u64 (x+y)else if o=5 then ak .u64 (x-y)else if o=6 then ak .u64 (x*y)
 else if o=7 then ak .u64 ((B0 64 x &&& B0 64 y).toNat)else if o=8 then ak .u64 ((B0 64 x ^^^ B0 64 y).toNat)
 else if o=9 then ak .u64 (x*2 ^ (y % 64).toNat)else ak .u64 (x / 2 ^ (y % 64).toNat)
structure oK where
 kind:Int
 au:Int
 pO:Int
 value:Int
 addr:Int
def iD:oK:=⟨0,0,0,0,0⟩
def pD(op:Nat):List UInt8 :=
 if op=2 then[65,73]else if op=3 then[65,66]else if 4<=op/\op<=10 then[65,66,67]
 else if op=11\/op=12\/op=14\/op=15\/op=16 then[65,66,73]else if op=13 then[73]else[]
def i9.mH(i:i9):Prop:=1<=i.op/\i.op<=18/\(65∈pD i.op.toNat->0<=i.a/\i.a<8)/\(66∈pD i.op.toNat->0<=i.b/\i.b<8)/\(67∈pD i.op.toNat->0<=i.c/\i.c<8)
instance(i:i9):Decidable i.mH:=inferInstanceAs (Decidable (_/\_))
def pZ(n:Int):Nat:=(B0 64 n &&& 7#64).toNat
def rg(rs:List Int)(n:Int):Int:=rs.getD (pZ n) 0
def oq(i:i9)(pc:Int)(q:Bool):oK:=if q=B4 then(if i.AR<0\/1024<i.AR then iD else⟨2,i.AR,0,0,0⟩)else⟨2,pc+1,0,0,0⟩
def i9.fV(i:i9)(rs:List Int)(pc:Int):oK :=
 if¬i.mH\/pc<0\/1024<=pc then iD
 else if i.op=1 then⟨7,pc+1,0,0,0⟩
 else if i.op=2 then⟨1,pc+1,i.a,ak .u64 i.AR,0⟩
 else if i.op=3 then⟨1,pc+1,i.a,rg rs i.b,0⟩
 else if i.op<=10 then⟨1,pc+1,i.a,F1 i.op.toNat (rg rs i.b) (rg rs i.c),0⟩
 else if i.op=11 then⟨3,pc+1,i.a,0,ak .u64 (rg rs i.b+ak .u64 i.AR)⟩
 else if i.op=12 then⟨4,pc+1,0,rg rs i.a,ak .u64 (rg rs i.b+ak .u64 i.AR)⟩
 else if i.op=13 then oq i pc B4
 else if i.op=14 then oq i pc (decide (rg rs i.a=rg rs i.b))
 else if i.op=15 then oq i pc (decide (rg rs i.a≠rg rs i.b))
 else if i.op=16 then oq i pc (decide (rg rs i.a<rg rs i.b))
 else if i.op=17 then⟨5,pc+1,0,0,0⟩
 else⟨6,pc+1,0,0,0⟩
end Lang
end Go.Am
namespace Go.Am
def pH(AP:ao)(g:Nat)(pre cap:List AV)(N O:Nat->Prop)(H0:ar)(xs:List (List AV)):Prop :=
 ∀(L:Nat)(R:Nat->(Nat->Prop)->ar->Prop)(S:(Nat->Prop)->ar->Prop)(W0:Nat->Prop)(H:ar),
  H0.au<=H.au->(∀b,N b\/O b->b<H0.au/\H.get b=H0.get b /\ ¬W0 b)->R 0 W0 H->(∀b,W0 b->b<H.au) ->
  (∀i W H H',R i W H->(∀b,W b->H'.get b=H.get b)->H.au<=H'.au->R i W H')->(∀W H H',S W H->(∀b,W b->H'.get b=H.get b)->H.au<=H'.au->S W H') ->
  (∀(i:Nat)x,xs[i]? = B1 x -> ∀W H',R i W H'->(∀b,W b->b<H'.au/\(W0 b\/H.au<=b))->Fr (λ b=>W0 b\/O b) H H' ->
   ∃bb H'' W',sX AP L x H' (.ret (.bool bb)) H''/\Fr W H' H''/\(∀b,W' b->b<H''.au/\(W b\/H'.au<=b))/\(bb=B4->R (i+1) W' H'')/\(bb=B2->S W' H'')) ->
  ∃v H' W',CALL AP g (pre++(.fn (.yield L) [] []::cap)) H (.ret v) H'/\Fr (λ b=>W0 b\/O b) H H'/\(∀b,W' b->b<H'.au/\(W0 b\/H.au<=b))/\(R xs.length W' H'\/S W' H')
section
variable{AP:ao}
def xm4{f:Nat}{fn:bT}{k:Nat}{lp:dI}(hf:AP.func f=B1 fn)(hk:nth fn.loops k=B1 lp){tm:T AV}{bj:List aQ}{up:Option aH}{H:ar}{Q:cH}
 {g:Nat} {pre cap:List AV} {N O:Nat->Prop} {H0:ar} {xs:List (List AV)} (mK:pH AP g pre cap N O H0 xs)
 (P:Nat->(Nat->Prop)->ar->Prop) (K:aZ->(Nat->Prop)->ar->Prop) (n:Nat->Prop)
 (hn:H0.au<=H.au) (hN:∀b,N b\/O b->b<H0.au/\H.get b=H0.get b /\ ¬n b) (y:∀b,n b->b<H.au) (h0:P 0 n H)
 (loc:∀i W H H',P i W H->(∀b,W b->H'.get b=H.get b)->H.au<=H'.au->P i W H') (z:∀e W H H',K e W H->(∀b,W b->H'.get b=H.get b)->H.au<=H'.au->K e W H')
 (R:∀(L d i:Nat)x,xs[i]? = B1 x->H.au<=L -> ∀W H1,P i W H1->(∀b,W b->b<H1.au/\(n b\/H.au<=b))->Fr (λ b=>n b\/O b) H H1 -> ¬W L->L<H1.au->H1.get L=B1 (.loop .ready B5 f k tm d) ->
  ∃U,L7 tm lp.params x=B1 U/\WP AP ⟨B1 L,f⟩ lp.assign ⟨U,[],B5,H1⟩ λ e cZ=>e=.normal/\cZ.H.get L=B1 (.loop .ready B5 f k tm d) /\
   WP AP ⟨B1 L,f⟩ lp.body ⟨cZ.tm,cZ.bj,cZ.up,cZ.H.set L (.loop .busy B5 f k tm d)⟩ λ e2 a=>a.bj=[]/\a.H.get L=B1 (.loop .busy B5 f k tm d) /\
    ∃W':Nat->Prop,(∀b,W' b->b<a.H.au/\(W b\/H1.au<=b))/\Fr (λ b=>W b\/b=L) H1 a.H/\(e2=.normal/\P (i+1) W' a.H\/gI e2/\K e2 W' a.H))
 (Z:∀d W' H',H.au<=d->d<H'.au->H'.get d=B1 (.deferred (B1 []))->Fr (λ b=>n b\/O b) H H'->(∀b,W' b->b<H'.au/\(n b\/H.au<=b)/\b≠d)->P xs.length W' H'->Q .normal ⟨tm,.jJ d::bj,up,H'⟩)
 (S:∀e d W' H',gI e->H.au<=d->d<H'.au->H'.get d=B1 (.deferred (B1 []))->Fr (λ b=>n b\/O b) H H'->(∀b,W' b->b<H'.au/\(n b\/H.au<=b)/\b≠d)->K e W' H'->Q e ⟨tm,.jJ d::bj,up,H'⟩) :
 JR AP ⟨B5,f⟩ k ⟨tm,bj,up,H⟩ Q (.fn (.func g) pre cap):=by
 let d:=H.au
 let L:=H.au+1
 let Hd:=H.alloc (.deferred (B1 []))
 let HL:=Hd.alloc (.loop .ready B5 f k tm d)
 have c:HL.au=H.au+2:=rfl;have hgL:HL.get L=B1 (.loop .ready B5 f k tm d):=xr Hd _;have hgd:HL.get d=B1 (.deferred (B1 [])):=by rw[show HL.get d=Hd.get d from xF (by show H.au<H.au+1;omega) _];exact xr H _
 have hfr0:Fr Em H HL:=((Fr.refl H).alloc _).alloc _;have hold:∀b,b<H.au->HL.get b=H.get b:=λ b hb=>hfr0.ai b hb (λ q=>q);have⟨v,H',W',hc,D,C,hres⟩:=mK L
  (λ i W H'=>∃V:Nat->Prop,(∀b,V b->W b)/\W L /\ ¬V L /\ ¬W d/\(∀b,W b->V b\/b=L)/\P i V H'/\H'.get L=B1 (.loop .ready B5 f k tm d)/\L<H'.au)
  (λ W H'=>∃(V:Nat->Prop)(e:aZ)(j:iv),(∀b,V b->W b)/\W L /\ ¬V L /\ ¬W d/\(∀b,W b->V b\/b=L)/\gI e/\kX e=B1 j/\K e V H'/\H'.get L=B1 (.loop .done (B1 j) f k tm d)/\L<H'.au)
  (λ b=>n b\/b=L) HL (by rw[c];omega)
  (λ b hb=>by
   have⟨h1,h2,h3⟩:=hN b hb;exact⟨h1,by rw[hold b (by omega)];exact h2,λ q=>q.elim h3 λ q=>by have:L=H.au+1:=rfl;omega⟩)
  ⟨n,λ b hb=>.inl hb,.inr rfl,λ q=>by have:=y _ q;have:L=H.au+1:=rfl;omega,λ q=>q.elim (λ q=>by have:=y _ q;have:d=H.au:=rfl;omega) λ q=>by have:d=H.au:=rfl;have:L=H.au+1:=rfl;omega,
   λ b hb=>hb,loc 0 n H HL h0 (λ b hb=>hold b (y b hb)) (by rw[c];omega),hgL,by rw[c];show H.au+1<H.au+2;omega⟩
  (λ b hb=>hb.elim (λ q=>by have:=y b q;rw[c];omega) λ q=>by rw[c,q];show H.au+1<H.au+2;omega)
  (λ i W H1 t⟨V,v1,v2,w,v4,X,v6,B,F⟩hs hle=>⟨V,v1,v2,w,v4,X,loc i V H1 t v6 (λ b hb=>hs b (v1 b hb)) hle,by rw[hs L v2];exact B,qn F hle⟩)
  (λ W H1 t⟨V,e,j,v1,v2,w,v4,X,v6,B,F,v9,v10⟩hs hle=>⟨V,e,j,v1,v2,w,v4,X,v6,B,z e V H1 t F (λ b hb=>hs b (v1 b hb)) hle,by rw[hs L v2];exact v9,qn v10 hle⟩)
  (λ i x hx W H1⟨V,v1,v2,w,v4,X,v6,B,F⟩hb G=>by
   have hLn0:L=H.au+1:=rfl;have hfr1:Fr (λ b=>n b\/O b) H H1:=⟨zd (by rw[c];omega) G.au,λ b hb hw=>by rw[G.ai b (by rw[c];omega) (λ q=>q.elim (λ q=>q.elim (λ q=>hw (.inl q)) λ q=>by omega) λ q=>hw (.inr q)),hold b hb]⟩
   have hbV:∀b,V b->b<H1.au/\(n b\/H.au<=b):=λ b q=>⟨(hb b (v1 b q)).1,(hb b (v1 b q)).2.elim (λ r=>r.elim .inl λ r=>by subst r;exact(w q).elim) λ r=>.inr (by rw[c]at r;omega)⟩
   have⟨U,hbp,hw⟩:=R L d i x hx (by show H.au<=H.au+1;omega) V H1 v6 hbV hfr1 w F B;obtain⟨e,t,hr,bb,rfl,l,k1,k2,k3,k4⟩:=xi (Q:=λ e t=>∃bb,e=.ret (.bool bb) /\ ∃l:Nat->Prop,Fr W H1 t/\(∀b,l b->b<t.au/\(W b\/H1.au<=b)) /\
    (bb=B4 -> ∃V:Nat->Prop,(∀b,V b->l b)/\l L /\ ¬V L /\ ¬l d/\(∀b,l b->V b\/b=L)/\P (i+1) V t/\t.get L=B1 (.loop .ready B5 f k tm d)/\L<t.au) /\
    (bb=B2 -> ∃(V:Nat->Prop)(e:aZ)(j:iv),(∀b,V b->l b)/\l L /\ ¬V L /\ ¬l d/\(∀b,l b->V b\/b=L)/\gI e/\kX e=B1 j/\K e V t/\t.get L=B1 (.loop .done (B1 j) f k tm d)/\L<t.au)) B hf hk hbp
    (pV hw λ e cZ⟨he,hgl,hw2⟩=>by
     subst he;show bR aI (beginRound cZ.H L) _;have:beginRound cZ.H L=B1 (cZ.H.set L (.loop .busy B5 f k tm d)):=by unfold beginRound;rw[hgl]
     rw[this];refine pV hw2 λ e2 a⟨hd2,hg2,W',w1,w2,w3⟩=>⟨hd2,?_⟩
     have M:L<a.H.au:=qn F w2.au;have hd1:d<H1.au:=by have:d=H.au:=rfl;have:L=H.au+1:=rfl;omega
     have fin:∀s p,Fr W H1 (a.H.set L (.loop s p f k tm d)):=λ s p=>⟨w2.au,λ b hb hw=>by
      rw[ar.aK,qv (by rintro rfl;exact hw v2)];exact w2.ai b hb λ q=>q.elim (λ q=>hw (v1 b q)) λ q=>hw (by rw[q];exact v2)⟩
     have hW'L:∀b,(W' b/\b≠L)->(a.H.set L (.loop .ready B5 f k tm d)).get b=a.H.get b:=λ b hb=>by rw[ar.aK,qv (λ q=>hb.2 q.symm)]
     have E:¬W' L:=λ q=>by
      rcases(w1 L q).2 with q|q
      .exact w q
      .omega
     have hnd:¬W' d:=λ q=>by
      rcases(w1 d q).2 with q|q
      .exact v4 (v1 d q)
      .omega
     have u:d≠L:=by show H.au≠H.au+1;omega
     have bounds:∀b,(W' b\/b=L)->b<a.H.au/\(W b\/H1.au<=b):=λ b hb=>hb.elim (λ q=>⟨(w1 b q).1,(w1 b q).2.imp (v1 b) id⟩) λ q=>by subst q;exact⟨M,.inl v2⟩
     rcases w3 with⟨rfl,w3⟩|⟨hj,w3⟩
     .show bR aI (cO a.H L (cond B4 .ready .done) B5) _;have:cO a.H L .ready B5=B1 (a.H.set L (.loop .ready B5 f k tm d)):=by unfold cO;rw[hg2]
      rw[xv,this];refine⟨B4,rfl,λ b=>W' b\/b=L,fin _ _,bounds,λ _=>⟨W',λ b hb=>.inl hb,.inr rfl,E,λ q=>q.elim hnd u,λ b hb=>hb,loc _ _ _ _ w3 (λ b hb=>by rw[ar.aK,qv (by rintro rfl;exact E hb)]) (qm _),xg _ _ _,M⟩,λ h=>by cases h⟩
     .obtain ⟨j,hj2⟩:∃j,kX e2=B1 j:=by cases e2<;>first|exact hj.elim|exact⟨_,rfl⟩
      have hnn:zX e2=false:=by cases e2<;>first|exact hj.elim|rfl
      have m:∀(A:Prop),(bR aI (cO a.H L (cond (zX e2) .ready .done) (kX e2)) λ H=>∃bb,(bJ.ret (.bool (zX e2))=.ret (.bool bb)) /\ ∃l:Nat->Prop,Fr W H1 H/\(∀b,l b->b<H.au/\(W b\/H1.au<=b)) /\
       (bb=B4 -> ∃V:Nat->Prop,(∀b,V b->l b)/\l L /\ ¬V L /\ ¬l d/\(∀b,l b->V b\/b=L)/\P (i+1) V H/\H.get L=B1 (.loop .ready B5 f k tm d)/\L<H.au) /\
       (bb=B2 -> ∃(V:Nat->Prop)(e:aZ)(j:iv),(∀b,V b->l b)/\l L /\ ¬V L /\ ¬l d/\(∀b,l b->V b\/b=L)/\gI e/\kX e=B1 j/\K e V H/\H.get L=B1 (.loop .done (B1 j) f k tm d)/\L<H.au)):=λ _=>by
       have:cO a.H L .done (B1 j)=B1 (a.H.set L (.loop .done (B1 j) f k tm d)):=by unfold cO;rw[hg2]
       rw[hnn,hj2,zo,this];refine⟨B2,rfl,λ b=>W' b\/b=L,fin _ _,bounds,λ h=>(by cases h),λ _=>⟨W',e2,j,λ b hb=>.inl hb,.inr rfl,E,λ q=>q.elim hnd u,λ b hb=>hb,hj,hj2,z _ _ _ _ w3 (λ b hb=>by rw[ar.aK,qv (by rintro rfl;exact E hb)]) (qm _),xg _ _ _,M⟩⟩
      cases e2 with
      |normal=>exact hj.elim
      |panic _=>exact hj.elim
      |exit _=>exact m True
      |goto _=>exact m True
      |ret=>exact m True)
   exact⟨bb,t,l,hr,k1,k2,k3,k4⟩)
 have u:d≠L:=by show H.au≠H.au+1;omega
 have hdW:¬((n d\/d=L)\/O d):=λ q=>q.elim (λ q=>q.elim (λ q=>by have:=y _ q;have:d=H.au:=rfl;omega) u) λ q=>by have:=(hN d (.inr q)).1;have:d=H.au:=rfl;omega
 have I:H'.get d=B1 (.deferred (B1 [])):=by rw[D.ai d (by rw[c];show H.au<H.au+2;omega) hdW];exact hgd
 have Y:d<H'.au:=qn (by rw[c];show H.au<H.au+2;omega) D.au;have J:∀(o:bF),Fr (λ b=>n b\/O b) H (H'.set L o):=λ o=>⟨zd (by rw[c];omega) D.au,λ b hb hw=>by
  have:L=H.au+1:=rfl;rw[ar.aK,qv (by omega),D.ai b (by rw[c];omega) (λ q=>q.elim (λ q=>q.elim (λ q=>hw (.inl q)) λ q=>by omega) λ q=>hw (.inr q)),hold b hb]⟩
 refine⟨.ret v,H',hc,?_⟩;rcases hres with⟨V,v1,v2,w,v4,X,v6,B,F⟩|⟨V,e,j,v1,v2,w,v4,X,v6,B,F,v9,v10⟩
 .refine ⟨.ready,B5,f,k,tm,d,B,by simp,?_⟩;refine Z d V _ (qm _) Y (by rw[ar.aK,qv (λ q=>u q.symm)];exact I) (J _) (λ b hb=>⟨(C b (v1 b hb)).1,?_,λ q=>v4 (by rw[<-q];exact v1 b hb)⟩) (loc _ _ _ _ v6 (λ b hb=>by rw[ar.aK,qv (by rintro rfl;exact w hb)]) (qm _));rcases(C b (v1 b hb)).2 with q|q
  .exact q.imp id λ q=>by subst q;exact(w hb).elim
  .rw [c]at q;exact .inr (by omega)
 .refine ⟨.done,B1 j,f,k,tm,d,v9,by simp,?_⟩;have he:ri (B1 j)=e:=by cases e<;>first|exact v6.elim|(cases B;rfl)
  rw[he];refine S e d V _ v6 (qm _) Y (by rw[ar.aK,qv (λ q=>u q.symm)];exact I) (J _) (λ b hb=>⟨(C b (v1 b hb)).1,?_,λ q=>v4 (by rw[<-q];exact v1 b hb)⟩) (z _ _ _ _ F (λ b hb=>by rw[ar.aK,qv (by rintro rfl;exact w hb)]) (qm _));rcases(C b (v1 b hb)).2 with q|q
  .exact q.imp id λ q=>by subst q;exact(w hb).elim
  .rw [c]at q;exact .inr (by omega)
def zJ:List Nat->List AV->Env->Option Env
 |[],[],E=>B1 E
 |t::ts,v::vs,E=>zJ ts vs ((t,v)::E)
 |_,_,_=>B5
def hY(M:ao)(ctx:Ctx)(b:Kp×aj)(L:Nat)(lr lb:bF)(Q:aJ):aJ:=λ e E D H=>match e with
 | .normal=>H.get L=B1 lr/\W M ctx b B4 Q E D (H.set L lb)
 |_=>False
def zT(M:ao)(ctx:Ctx)(b:Kp×aj)(L:Nat)(lr lb:bF)(Q:aJ)(E:Env)(D:List aQ)(H:ar):hY M ctx b L lr lb Q .normal E D H=(H.get L=B1 lr/\W M ctx b B4 Q E D (H.set L lb)):=propext ki
def Qf(P:(Nat->Prop)->ar->Prop)(PS:aZ->(Nat->Prop)->ar->Prop)(L:Nat)(lb:bF)(W:Nat->Prop)(H1:ar):aJ:=λ e _ D H=>D=[]/\H.get L=B1 lb /\
 ∃W':Nat->Prop,(∀b,W' b->b<H.au/\(W b\/H1.au<=b))/\Fr (λ b=>W b\/b=L) H1 H/\(e=.normal/\P W' H\/gI e/\PS e W' H)
def gj.cons{ks:List Nat}{E:Env}{tm:T AV}(h:gj ks E tm){t:Nat}(v:AV)(c:bG t ks=B4):gj ks ((t,v)::E) (tm.set t v):=λ u x hu=>by
 rw[wY]at hu;split at hu
 .rename_i e;subst e;cases hu;exact⟨by rw[T.aK,xb rfl],c⟩
 .rename_i e;have⟨a,b⟩:=h u x hu;exact⟨by rw[T.aK,qv e,a],b⟩
def YW{ks:List Nat}:∀{ts:List Nat}{vs:List AV}{E b:Env}{tm:T AV},gj ks E tm->(∀t∈ts,bG t ks=B4)->zJ ts vs E=B1 b -> ∃a,L7 tm ts vs=B1 a/\gj ks b a
 |[],[],E,b,tm,h,ht,hb=>by cases hb;exact⟨tm,rfl,h⟩
 |[],_::_,_,_,_,_,_,hb=>nomatch hb
 |_::_,[],_,_,_,_,_,hb=>nomatch hb
 |t::ts,v::vs,E,b,tm,h,ht,hb=>YW (ts:=ts) (vs:=vs) (h.cons v (ht t (Je ..))) (λ u hu=>ht u (wg _ hu)) hb
def iA.iter{f:Nat}{fn:bT}{k:Nat}{lp:dI}(hf:AP.func f=B1 fn)(hk:nth fn.loops k=B1 lp){ks:List Nat}{ts:List Nat}(hp:lp.params=ts)(R:∀t∈ts,bG t ks=B4){pa pb:Kp×aj}(ha:pa.1.ai=ks/\pa.2=lp.assign)(hb:pb.1.ai=ks/\pb.2=lp.body)
 {E:Env} {D:List aQ} {H:ar} {Q:aJ} {g:Nat} {pre cap:List AV} {N O:Nat->Prop} {H0:ar} {xs:List (List AV)} (mK:pH AP g pre cap N O H0 xs)
 (P:Nat->(Nat->Prop)->ar->Prop) (j:aZ->(Nat->Prop)->ar->Prop) (a:Nat->Prop)
 (hn:H0.au<=H.au) (hN:∀b,N b\/O b->b<H0.au/\H.get b=H0.get b /\ ¬a b) (C:∀b,a b->b<H.au) (p:P 0 a H)
 (loc:∀i W H H',P i W H->(∀b,W b->H'.get b=H.get b)->H.au<=H'.au->P i W H') (n:∀e W H H',j e W H->(∀b,W b->H'.get b=H.get b)->H.au<=H'.au->j e W H')
 (c:∀(L i:Nat)(lr lb:bF)x,xs[i]? = B1 x->H.au<=L -> ∀W' H1,P i W' H1->(∀b,W' b->b<H1.au/\(a b\/H.au<=b))->Fr (λ b=>a b\/O b) H H1 -> ¬W' L->L<H1.au->H1.get L=B1 lr ->
  ∃o,zJ ts x E=B1 o/\W AP ⟨B1 L,f⟩ pa B4 (hY AP ⟨B1 L,f⟩ pb L lr lb (Qf (P (i+1)) j L lb W' H1)) o [] H1)
 (l:∀d W' H',H.au<=d->d<H'.au->H'.get d=B1 (.deferred (B1 []))->Fr (λ b=>a b\/O b) H H'->(∀b,W' b->b<H'.au/\(a b\/H.au<=b)/\b≠d)->P xs.length W' H'->Q .normal E (.jJ d::D) H')
 (h:∀e d W' H',gI e->H.au<=d->d<H'.au->H'.get d=B1 (.deferred (B1 []))->Fr (λ b=>a b\/O b) H H'->(∀b,W' b->b<H'.au/\(a b\/H.au<=b)/\b≠d)->j e W' H'->Q e E (.jJ d::D) H') :
 iA AP ks ⟨B5,f⟩ k E D H Q (.fn (.func g) pre cap):=by
 intro tm up he;refine xm4 hf hk mK P j a hn hN C p loc n ?_ (λ d W' H' q r s u w y=>⟨rfl,rfl,l d W' H' q r s u w y⟩) (λ e d W' H' p q r s u w y=>⟨rfl,rfl,h e d W' H' p q r s u w y⟩);intro L d i x hx hL W' H1 hP hW I M B K;have⟨o,A,hw⟩:=c L i (.loop .ready B5 f k tm d) (.loop .busy B5 f k tm d) x hx hL W' H1 hP hW I M B K;have⟨T,F,G⟩:=YW he R A;refine⟨T,by rw[hp];exact F,?_⟩;rw[mi]at hw;have:=W3.wp _ _ (qm _) (up:=B5) hw (by rw[ha.1];exact G);rw[ha.2]at this;refine pV this λ e cZ⟨S,X,z,U⟩=>?_;cases e with
 |normal =>
  have⟨hg,m⟩:=U;refine⟨rfl,hg,?_⟩;rw[mi]at m;have:=W3.wp _ _ (qm _) (up:=B5) m (show gj pb.1.ai X cZ.tm by rw[hb.1,<-ha.1];exact z);rw[hb.2]at this;rw[S];refine pV this λ e2 st2⟨V,E2,Z,hd,J,Y,k1,k2,k3⟩=>⟨hd,J,Y,k1,k2,k3⟩
 |_=>exact U.elim
def Gg(rs:List eE)(Q:bJ->ar->Prop)(E:Env)(d:Nat)(H:ar):eU AP rs Q .ret E [.jJ d] H=(H.get d=B1 (.deferred (B1 []))/\jF E (H.set d (.deferred B5)) rs λ l=>Q (.ret (jE l)) (H.set d (.deferred B5))):=propext ki
end
end Go.Am
namespace Go.Am
structure Act where
 kind:Int
 core:Int
 n:Int
deriving DecidableEq
def Act.enc(a:Act):List AV:=[.int .i64 a.kind,.int .i64 a.core,.int .i64 a.n]
def Act.len(a:Act):a.enc.length=3:=rfl
def Act.one(a:Act):aS a.enc=true:=rfl
def xW(b0 b1 b2:Int):Act:=⟨b0 % 4+1,b1 % 4,b2⟩
def aO:List Int->List Act
 |b0::b1::b2::r=>xW b0 b1 b2::aO r
 |_=>[]
def Bytes(bs:List Int):Prop:=∀b∈bs,0<=b/\b<256
def MV:∀(bs:List Int),(aO bs).length=bs.length / 3
 |b0::b1::b2::r=>by rw[aO,zr,MV r];simp only[zr];omega
 |[]=>rfl
 |[_]=>by simp[aO]
 |[_,_]=>by simp[aO]
def q7y:∀(bs:List Int)(i:Nat),3*i+2<bs.length -> ∃a b c,bs[3*i]? = B1 a/\bs[3*i+1]? = B1 b/\bs[3*i+2]? = B1 c/\(aO bs)[i]? = B1 (xW a b c)
 |a::b::c::r,0,h=>⟨a,b,c,rfl,rfl,rfl,rfl⟩
 |a::b::c::r,i+1,h=>by
  obtain⟨d,f,g,j,k,l,m⟩:=q7y r i (by simp only[zr]at h;omega);exact⟨d,f,g,j,k,l,m⟩
 |[],i,h=>by simp at h
 |[_],i,h=>by simp at h
 |[_,_],i,h=>by simp at h;omega
def Bytes.get{bs:List Int}(h:Bytes bs){i:Nat}{b:Int}(hb:bs[i]? = B1 b):0<=b/\b<256:=h b (zh hb)
def Jf{b:Int}(h:0<=b):b.tmod 4=b % 4:=R9 h
def q7x:∀(a b:List Int),a.length % 3=0->aO (a++b)=aO a++aO b
 |b0::b1::b2::r,b,h=>by
  rw[vx,vx,vx,aO,aO,q7x r b (by simp only[zr]at h;omega)];rfl
 |[],b,_=>rfl
 |[_],b,h=>by simp at h
 |[_,_],b,h=>by simp at h
end Go.Am
namespace Go.Am
def vA(AP:ao)(g:Nat)(pre cap:List AV)(N O:Nat->Prop)(I:ar->Prop)(H0:ar)(xs:List (List AV)):Prop :=
 ∀(L:Nat)(R:Nat->(Nat->Prop)->ar->Prop)(S:(Nat->Prop)->ar->Prop)(W0:Nat->Prop)(H:ar),
  H0.au<=H.au->(∀b,N b\/O b->b<H0.au/\H.get b=H0.get b /\ ¬W0 b)->R 0 W0 H->(∀b,W0 b->b<H.au) ->
  (∀i W H H',R i W H->(∀b,W b->H'.get b=H.get b)->H.au<=H'.au->R i W H')->(∀W H H',S W H->(∀b,W b->H'.get b=H.get b)->H.au<=H'.au->S W H') ->
  (∀i W H',R i W H'->I H') ->
  (∀(i:Nat)x,xs[i]? = B1 x -> ∀W H',R i W H'->(∀b,W b->b<H'.au/\(W0 b\/H.au<=b))->Fr (λ b=>W0 b\/O b) H H' ->
   ∃bb H'' W',sX AP L x H' (.ret (.bool bb)) H''/\Fr W H' H''/\(∀b,W' b->b<H''.au/\(W b\/H'.au<=b))/\(bb=B4->R (i+1) W' H'')/\(bb=B2->S W' H'')) ->
  ∃v H' W',CALL AP g (pre++(.fn (.yield L) [] []::cap)) H (.ret v) H'/\Fr (λ b=>W0 b\/O b) H H'/\(∀b,W' b->b<H'.au/\(W0 b\/H.au<=b))/\(R xs.length W' H'\/S W' H')
section
variable{AP:ao}
def xm3{f:Nat}{fn:bT}{k:Nat}{lp:dI}(hf:AP.func f=B1 fn)(hk:nth fn.loops k=B1 lp){tm:T AV}{bj:List aQ}{up:Option aH}{H:ar}{Q:cH}
 {g:Nat} {pre cap:List AV} {N O:Nat->Prop} {I:ar->Prop} {H0:ar} {xs:List (List AV)} (mK:vA AP g pre cap N O I H0 xs)
 (P:Nat->(Nat->Prop)->ar->Prop) (M:aZ->(Nat->Prop)->ar->Prop) (n:Nat->Prop)
 (hn:H0.au<=H.au) (hN:∀b,N b\/O b->b<H0.au/\H.get b=H0.get b /\ ¬n b) (y:∀b,n b->b<H.au) (h0:P 0 n H)
 (loc:∀i W H H',P i W H->(∀b,W b->H'.get b=H.get b)->H.au<=H'.au->P i W H') (z:∀e W H H',M e W H->(∀b,W b->H'.get b=H.get b)->H.au<=H'.au->M e W H') (hI:∀i W H,P i W H->I H)
 (S:∀(L d i:Nat)x,xs[i]? = B1 x->H.au<=L -> ∀W H1,P i W H1->(∀b,W b->b<H1.au/\(n b\/H.au<=b))->Fr (λ b=>n b\/O b) H H1 -> ¬W L->L<H1.au->H1.get L=B1 (.loop .ready B5 f k tm d) ->
  ∃X,L7 tm lp.params x=B1 X/\WP AP ⟨B1 L,f⟩ lp.assign ⟨X,[],B5,H1⟩ λ e cZ=>e=.normal/\cZ.H.get L=B1 (.loop .ready B5 f k tm d) /\
   WP AP ⟨B1 L,f⟩ lp.body ⟨cZ.tm,cZ.bj,cZ.up,cZ.H.set L (.loop .busy B5 f k tm d)⟩ λ e2 a=>a.bj=[]/\a.H.get L=B1 (.loop .busy B5 f k tm d) /\
    ∃W':Nat->Prop,(∀b,W' b->b<a.H.au/\(W b\/H1.au<=b))/\Fr (λ b=>W b\/b=L) H1 a.H/\(e2=.normal/\P (i+1) W' a.H\/gI e2/\M e2 W' a.H))
 (hend:∀d W' H',H.au<=d->d<H'.au->H'.get d=B1 (.deferred (B1 []))->Fr (λ b=>n b\/O b) H H'->(∀b,W' b->b<H'.au/\(n b\/H.au<=b)/\b≠d)->P xs.length W' H'->Q .normal ⟨tm,.jJ d::bj,up,H'⟩)
 (U:∀e d W' H',gI e->H.au<=d->d<H'.au->H'.get d=B1 (.deferred (B1 []))->Fr (λ b=>n b\/O b) H H'->(∀b,W' b->b<H'.au/\(n b\/H.au<=b)/\b≠d)->M e W' H'->Q e ⟨tm,.jJ d::bj,up,H'⟩) :
 JR AP ⟨B5,f⟩ k ⟨tm,bj,up,H⟩ Q (.fn (.func g) pre cap):=by
 let d:=H.au
 let L:=H.au+1
 let Hd:=H.alloc (.deferred (B1 []))
 let HL:=Hd.alloc (.loop .ready B5 f k tm d)
 have c:HL.au=H.au+2:=rfl;have hgL:HL.get L=B1 (.loop .ready B5 f k tm d):=xr Hd _;have hgd:HL.get d=B1 (.deferred (B1 [])):=by rw[show HL.get d=Hd.get d from xF (by show H.au<H.au+1;omega) _];exact xr H _
 have hfr0:Fr Em H HL:=((Fr.refl H).alloc _).alloc _;have hold:∀b,b<H.au->HL.get b=H.get b:=λ b hb=>hfr0.ai b hb (λ q=>q);have⟨v,H',W',hc,E,D,hres⟩:=mK L
  (λ i W H'=>∃V:Nat->Prop,(∀b,V b->W b)/\W L /\ ¬V L /\ ¬W d/\(∀b,W b->V b\/b=L)/\P i V H'/\H'.get L=B1 (.loop .ready B5 f k tm d)/\L<H'.au)
  (λ W H'=>∃(V:Nat->Prop)(e:aZ)(j:iv),(∀b,V b->W b)/\W L /\ ¬V L /\ ¬W d/\(∀b,W b->V b\/b=L)/\gI e/\kX e=B1 j/\M e V H'/\H'.get L=B1 (.loop .done (B1 j) f k tm d)/\L<H'.au)
  (λ b=>n b\/b=L) HL (by rw[c];omega)
  (λ b hb=>by
   have⟨h1,h2,h3⟩:=hN b hb;exact⟨h1,by rw[hold b (by omega)];exact h2,λ q=>q.elim h3 λ q=>by have:L=H.au+1:=rfl;omega⟩)
  ⟨n,λ b hb=>.inl hb,.inr rfl,λ q=>by have:=y _ q;have:L=H.au+1:=rfl;omega,λ q=>q.elim (λ q=>by have:=y _ q;have:d=H.au:=rfl;omega) λ q=>by have:d=H.au:=rfl;have:L=H.au+1:=rfl;omega,
   λ b hb=>hb,loc 0 n H HL h0 (λ b hb=>hold b (y b hb)) (by rw[c];omega),hgL,by rw[c];show H.au+1<H.au+2;omega⟩
  (λ b hb=>hb.elim (λ q=>by have:=y b q;rw[c];omega) λ q=>by rw[c,q];show H.au+1<H.au+2;omega)
  (λ i W H1 t⟨V,v1,v2,u,v4,Y,v6,B,C⟩hs hle=>⟨V,v1,v2,u,v4,Y,loc i V H1 t v6 (λ b hb=>hs b (v1 b hb)) hle,by rw[hs L v2];exact B,qn C hle⟩)
  (λ W H1 t⟨V,e,j,v1,v2,u,v4,Y,v6,B,C,v9,v10⟩hs hle=>⟨V,e,j,v1,v2,u,v4,Y,v6,B,z e V H1 t C (λ b hb=>hs b (v1 b hb)) hle,by rw[hs L v2];exact v9,qn v10 hle⟩)
  (λ i W H1⟨V,v1,v2,u,v4,Y,v6,B,C⟩=>hI i V H1 v6)
  (λ i x hx W H1⟨V,v1,v2,u,v4,Y,v6,B,C⟩hb G=>by
   have hLn0:L=H.au+1:=rfl;have hfr1:Fr (λ b=>n b\/O b) H H1:=⟨zd (by rw[c];omega) G.au,λ b hb hw=>by rw[G.ai b (by rw[c];omega) (λ q=>q.elim (λ q=>q.elim (λ q=>hw (.inl q)) λ q=>by omega) λ q=>hw (.inr q)),hold b hb]⟩
   have hbV:∀b,V b->b<H1.au/\(n b\/H.au<=b):=λ b q=>⟨(hb b (v1 b q)).1,(hb b (v1 b q)).2.elim (λ r=>r.elim .inl λ r=>by subst r;exact(u q).elim) λ r=>.inr (by rw[c]at r;omega)⟩
   have⟨X,hbp,hw⟩:=S L d i x hx (by show H.au<=H.au+1;omega) V H1 v6 hbV hfr1 u C B;obtain⟨e,t,hr,bb,rfl,l,k1,k2,k3,k4⟩:=xi (Q:=λ e t=>∃bb,e=.ret (.bool bb) /\ ∃l:Nat->Prop,Fr W H1 t/\(∀b,l b->b<t.au/\(W b\/H1.au<=b)) /\
    (bb=B4 -> ∃V:Nat->Prop,(∀b,V b->l b)/\l L /\ ¬V L /\ ¬l d/\(∀b,l b->V b\/b=L)/\P (i+1) V t/\t.get L=B1 (.loop .ready B5 f k tm d)/\L<t.au) /\
    (bb=B2 -> ∃(V:Nat->Prop)(e:aZ)(j:iv),(∀b,V b->l b)/\l L /\ ¬V L /\ ¬l d/\(∀b,l b->V b\/b=L)/\gI e/\kX e=B1 j/\M e V t/\t.get L=B1 (.loop .done (B1 j) f k tm d)/\L<t.au)) B hf hk hbp
    (pV hw λ e cZ⟨he,hgl,hw2⟩=>by
     subst he;show bR aI (beginRound cZ.H L) _;have:beginRound cZ.H L=B1 (cZ.H.set L (.loop .busy B5 f k tm d)):=by unfold beginRound;rw[hgl]
     rw[this];refine pV hw2 λ e2 a⟨hd2,hg2,W',w1,w2,w3⟩=>⟨hd2,?_⟩
     have R:L<a.H.au:=qn C w2.au;have hd1:d<H1.au:=by have:d=H.au:=rfl;have:L=H.au+1:=rfl;omega
     have fin:∀s p,Fr W H1 (a.H.set L (.loop s p f k tm d)):=λ s p=>⟨w2.au,λ b hb hw=>by
      rw[ar.aK,qv (by rintro rfl;exact hw v2)];exact w2.ai b hb λ q=>q.elim (λ q=>hw (v1 b q)) λ q=>hw (by rw[q];exact v2)⟩
     have hW'L:∀b,(W' b/\b≠L)->(a.H.set L (.loop .ready B5 f k tm d)).get b=a.H.get b:=λ b hb=>by rw[ar.aK,qv (λ q=>hb.2 q.symm)]
     have F:¬W' L:=λ q=>by
      rcases(w1 L q).2 with q|q
      .exact u q
      .omega
     have hnd:¬W' d:=λ q=>by
      rcases(w1 d q).2 with q|q
      .exact v4 (v1 d q)
      .omega
     have w:d≠L:=by show H.au≠H.au+1;omega
     have bounds:∀b,(W' b\/b=L)->b<a.H.au/\(W b\/H1.au<=b):=λ b hb=>hb.elim (λ q=>⟨(w1 b q).1,(w1 b q).2.imp (v1 b) id⟩) λ q=>by subst q;exact⟨R,.inl v2⟩
     rcases w3 with⟨rfl,w3⟩|⟨hj,w3⟩
     .show bR aI (cO a.H L (cond B4 .ready .done) B5) _;have:cO a.H L .ready B5=B1 (a.H.set L (.loop .ready B5 f k tm d)):=by unfold cO;rw[hg2]
      rw[xv,this];refine⟨B4,rfl,λ b=>W' b\/b=L,fin _ _,bounds,λ _=>⟨W',λ b hb=>.inl hb,.inr rfl,F,λ q=>q.elim hnd w,λ b hb=>hb,loc _ _ _ _ w3 (λ b hb=>by rw[ar.aK,qv (by rintro rfl;exact F hb)]) (qm _),xg _ _ _,R⟩,λ h=>by cases h⟩
     .obtain ⟨j,hj2⟩:∃j,kX e2=B1 j:=by cases e2<;>first|exact hj.elim|exact⟨_,rfl⟩
      have hnn:zX e2=false:=by cases e2<;>first|exact hj.elim|rfl
      have m:∀(A:Prop),(bR aI (cO a.H L (cond (zX e2) .ready .done) (kX e2)) λ H=>∃bb,(bJ.ret (.bool (zX e2))=.ret (.bool bb)) /\ ∃l:Nat->Prop,Fr W H1 H/\(∀b,l b->b<H.au/\(W b\/H1.au<=b)) /\
       (bb=B4 -> ∃V:Nat->Prop,(∀b,V b->l b)/\l L /\ ¬V L /\ ¬l d/\(∀b,l b->V b\/b=L)/\P (i+1) V H/\H.get L=B1 (.loop .ready B5 f k tm d)/\L<H.au) /\
       (bb=B2 -> ∃(V:Nat->Prop)(e:aZ)(j:iv),(∀b,V b->l b)/\l L /\ ¬V L /\ ¬l d/\(∀b,l b->V b\/b=L)/\gI e/\kX e=B1 j/\M e V H/\H.get L=B1 (.loop .done (B1 j) f k tm d)/\L<H.au)):=λ _=>by
       have:cO a.H L .done (B1 j)=B1 (a.H.set L (.loop .done (B1 j) f k tm d)):=by unfold cO;rw[hg2]
       rw[hnn,hj2,zo,this];refine⟨B2,rfl,λ b=>W' b\/b=L,fin _ _,bounds,λ h=>(by cases h),λ _=>⟨W',e2,j,λ b hb=>.inl hb,.inr rfl,F,λ q=>q.elim hnd w,λ b hb=>hb,hj,hj2,z _ _ _ _ w3 (λ b hb=>by rw[ar.aK,qv (by rintro rfl;exact F hb)]) (qm _),xg _ _ _,R⟩⟩
      cases e2 with
      |normal=>exact hj.elim
      |panic _=>exact hj.elim
      |exit _=>exact m True
      |goto _=>exact m True
      |ret=>exact m True)
   exact⟨bb,t,l,hr,k1,k2,k3,k4⟩)
 have w:d≠L:=by show H.au≠H.au+1;omega
 have hdW:¬((n d\/d=L)\/O d):=λ q=>q.elim (λ q=>q.elim (λ q=>by have:=y _ q;have:d=H.au:=rfl;omega) w) λ q=>by have:=(hN d (.inr q)).1;have:d=H.au:=rfl;omega
 have J:H'.get d=B1 (.deferred (B1 [])):=by rw[E.ai d (by rw[c];show H.au<H.au+2;omega) hdW];exact hgd
 have Z:d<H'.au:=qn (by rw[c];show H.au<H.au+2;omega) E.au;have K:∀(o:bF),Fr (λ b=>n b\/O b) H (H'.set L o):=λ o=>⟨zd (by rw[c];omega) E.au,λ b hb hw=>by
  have:L=H.au+1:=rfl;rw[ar.aK,qv (by omega),E.ai b (by rw[c];omega) (λ q=>q.elim (λ q=>q.elim (λ q=>hw (.inl q)) λ q=>by omega) λ q=>hw (.inr q)),hold b hb]⟩
 refine⟨.ret v,H',hc,?_⟩;rcases hres with⟨V,v1,v2,u,v4,Y,v6,B,C⟩|⟨V,e,j,v1,v2,u,v4,Y,v6,B,C,v9,v10⟩
 .refine ⟨.ready,B5,f,k,tm,d,B,by simp,?_⟩;refine hend d V _ (qm _) Z (by rw[ar.aK,qv (λ q=>w q.symm)];exact J) (K _) (λ b hb=>⟨(D b (v1 b hb)).1,?_,λ q=>v4 (by rw[<-q];exact v1 b hb)⟩) (loc _ _ _ _ v6 (λ b hb=>by rw[ar.aK,qv (by rintro rfl;exact u hb)]) (qm _));rcases(D b (v1 b hb)).2 with q|q
  .exact q.imp id λ q=>by subst q;exact(u hb).elim
  .rw [c]at q;exact .inr (by omega)
 .refine ⟨.done,B1 j,f,k,tm,d,v9,by simp,?_⟩;have he:ri (B1 j)=e:=by cases e<;>first|exact v6.elim|(cases B;rfl)
  rw[he];refine U e d V _ v6 (qm _) Z (by rw[ar.aK,qv (λ q=>w q.symm)];exact J) (K _) (λ b hb=>⟨(D b (v1 b hb)).1,?_,λ q=>v4 (by rw[<-q];exact v1 b hb)⟩) (z _ _ _ _ C (λ b hb=>by rw[ar.aK,qv (by rintro rfl;exact u hb)]) (qm _));rcases(D b (v1 b hb)).2 with q|q
  .exact q.imp id λ q=>by subst q;exact(u hb).elim
  .rw [c]at q;exact .inr (by omega)
def iA.u5{f:Nat}{fn:bT}{k:Nat}{lp:dI}(hf:AP.func f=B1 fn)(hk:nth fn.loops k=B1 lp){ks:List Nat}{ts:List Nat}(hp:lp.params=ts)(S:∀t∈ts,bG t ks=B4){pa pb:Kp×aj}(ha:pa.1.ai=ks/\pa.2=lp.assign)(hb:pb.1.ai=ks/\pb.2=lp.body)
 {E:Env} {D:List aQ} {H:ar} {Q:aJ} {g:Nat} {pre cap:List AV} {N O:Nat->Prop} {I:ar->Prop} {H0:ar} {xs:List (List AV)} (mK:vA AP g pre cap N O I H0 xs)
 (P:Nat->(Nat->Prop)->ar->Prop) (j:aZ->(Nat->Prop)->ar->Prop) (a:Nat->Prop)
 (hn:H0.au<=H.au) (hN:∀b,N b\/O b->b<H0.au/\H.get b=H0.get b /\ ¬a b) (C:∀b,a b->b<H.au) (p:P 0 a H)
 (loc:∀i W H H',P i W H->(∀b,W b->H'.get b=H.get b)->H.au<=H'.au->P i W H') (n:∀e W H H',j e W H->(∀b,W b->H'.get b=H.get b)->H.au<=H'.au->j e W H') (hI:∀i W H,P i W H->I H)
 (c:∀(L i:Nat)(lr lb:bF)x,xs[i]? = B1 x->H.au<=L -> ∀W' H1,P i W' H1->(∀b,W' b->b<H1.au/\(a b\/H.au<=b))->Fr (λ b=>a b\/O b) H H1 -> ¬W' L->L<H1.au->H1.get L=B1 lr ->
  ∃o,zJ ts x E=B1 o/\W AP ⟨B1 L,f⟩ pa B4 (hY AP ⟨B1 L,f⟩ pb L lr lb (Qf (P (i+1)) j L lb W' H1)) o [] H1)
 (l:∀d W' H',H.au<=d->d<H'.au->H'.get d=B1 (.deferred (B1 []))->Fr (λ b=>a b\/O b) H H'->(∀b,W' b->b<H'.au/\(a b\/H.au<=b)/\b≠d)->P xs.length W' H'->Q .normal E (.jJ d::D) H')
 (h:∀e d W' H',gI e->H.au<=d->d<H'.au->H'.get d=B1 (.deferred (B1 []))->Fr (λ b=>a b\/O b) H H'->(∀b,W' b->b<H'.au/\(a b\/H.au<=b)/\b≠d)->j e W' H'->Q e E (.jJ d::D) H') :
 iA AP ks ⟨B5,f⟩ k E D H Q (.fn (.func g) pre cap):=by
 intro tm up he;refine xm3 hf hk mK P j a hn hN C p loc n hI ?_ (λ d W' H' q r s u w y=>⟨rfl,rfl,l d W' H' q r s u w y⟩) (λ e d W' H' p q r s u w y=>⟨rfl,rfl,h e d W' H' p q r s u w y⟩);intro L d i x hx hL W' H1 hP hW J R B M;have⟨o,A,hw⟩:=c L i (.loop .ready B5 f k tm d) (.loop .busy B5 f k tm d) x hx hL W' H1 hP hW J R B M;have⟨U,F,G⟩:=YW he S A;refine⟨U,by rw[hp];exact F,?_⟩;rw[mi]at hw;have:=W3.wp _ _ (qm _) (up:=B5) hw (by rw[ha.1];exact G);rw[ha.2]at this;refine pV this λ e cZ⟨T,Y,z,V⟩=>?_;cases e with
 |normal =>
  have⟨hg,m⟩:=V;refine⟨rfl,hg,?_⟩;rw[mi]at m;have:=W3.wp _ _ (qm _) (up:=B5) m (show gj pb.1.ai Y cZ.tm by rw[hb.1,<-ha.1];exact z);rw[hb.2]at this;rw[T];refine pV this λ e2 st2⟨X,E2,hE2,hd,K,Z,k1,k2,k3⟩=>⟨hd,K,Z,k1,k2,k3⟩
 |_=>exact V.elim
end
end Go.Am
namespace Go.Am
def xc3{α:Type}{L E:List α}{p size:Nat}(c:E.length=size)(hp:p+size<=L.length)(h:∀r,r<size->L[p+r]? = E[r]?):L=L.take p++(E++L.drop (p+size)):=by
 have a:(L.drop p).take size=E:=by
  refine yr λ r=>?_;rcases xw r size with q|q
  .rw [yv,xb q,yu,h r q]
  .rw [z4 (by rw[zx];omega),z4 (by omega)]
 have b:L.drop p=E++L.drop (p+size):=by
  rw[<-a,<-AF,yx]
 rw[<-b,yx]
def af8{α:Type}{L E cs:List α}{p size j n:Nat}(d:E.length=size)(f:cs.length=n)(g:j+n<=size)(hp:p+size<=L.length)(h:∀r,r<size->L[p+r]? = E[r]?) :
 L.take (p+j)++cs++L.drop (p+j+n)=L.take p++((E.take j++cs++E.drop (j+n))++L.drop (p+size)):=by
 obtain⟨A,a⟩:∃A,A=L.take p:=⟨_,rfl⟩
 obtain⟨B,c⟩:∃B,B=L.drop (p+size):=⟨_,rfl⟩
 have hl:A.length=p:=by rw[a,zx];omega
 have b:=xc3 d hp h;rw[<-a,<-c]at b;rw[<-a,<-c];have e1:L.take (p+j)=A++E.take j:=by
  rw[b,NG,hl,zq (by omega),vq,ym (by omega)]
 have e2:L.drop (p+j+n)=E.drop (j+n)++B:=by
  rw[b,I3,hl,jo (by omega),z7,show p+j+n-p=j+n by omega,vy (by omega)]
 rw[e1,e2];simp
section
variable{α:Type}{enc:α->List AV}{size:Nat}{H:ar}{v:AV}{xs:List α}
def xlr(hs:∀x,(enc x).length=size){i:Nat}{x y:α}(a:xs[i]? = B1 x){j n:Nat}{cs:List AV}(b:cs.length=n)(d:j+n<=size)(f:enc y=(enc x).take j++cs++(enc x).drop (j+n)) :
 (xs.flatMap enc).take (i*size+j)++cs++(xs.flatMap enc).drop (i*size+j+n)=(xs.set i y).flatMap enc:=by
 have c:=Fv a;have hb:(i+1)*size<=xs.length*size:=jk _ c;rw[vO]at hb;have hl:=Ih hs xs;rw[af8 (E:=enc x) (size:=size) (hs x) b d (by omega) (λ r hr=>Jj hs xs a hr),<-f,Uz hs xs a];simp[jb]
def gW.G0{e:Nat}(hs:∀x,(enc x).length=size)(h:gW enc e size H v xs){i:Nat}{x y:α}(d:xs[i]? = B1 x){j n:Nat}{u:AV}(hu:u.cells.length=n)(ho:aS u.cells=B4)(l:j+n<=size)(m:enc y=(enc x).take j++u.cells++(enc x).drop (j+n)) :
 ∃H',Op.store n [.ptr (aD v) (cM size v i+j),u] H=B1 (.undef,H')/\gW enc e size H' v (xs.set i y)/\Fr (On (aD v)) H H':=by
 obtain⟨b,rfl,f,g⟩:=h;have k:=Fv d;have hl:=Ih hs xs;have hb:(i+1)*size<=xs.length*size:=jk _ k;rw[vO]at hb;have c:=wF g (o:=i*size+j) (n:=n) (v:=u) hu (by omega) ho;have a:cM size (AV.slice b 0 xs.length xs.length) i=i*size:=by simp[cM]
 rw[a];refine⟨_,c,⟨b,?_,f,?_⟩,(Fr.refl H).set (W:=On b) (.inl rfl) _⟩
 .rw [xq]
 .rw [xg,xlr hs d hu l m]
def gW.Ps{e:Nat}(hs:∀x,(enc x).length=size)(ho:∀x,aS (enc x)=B4)(h:gW enc e size H v xs){i:Nat}{x:α}(a:xs[i]? = B1 x)(y:α) :
 ∃H',Op.store size [.ptr (aD v) (cM size v i),.agg (enc y)] H=B1 (.undef,H')/\gW enc e size H' v (xs.set i y)/\Fr (On (aD v)) H H':=by
 have:=h.G0 hs a (y:=y) (j:=0) (n:=size) (u:=.agg (enc y)) (by rw[z6];exact hs y) (by rw[z6];exact ho y) (by omega) (by
  rw[z6,kz,z7,jo (by rw[hs];omega),zn])
 rw[vc]at this;exact this
end
end Go.Am
namespace Go.Am
open Go.Proofs Ca
variable{M:ao}[MK M]
abbrev uW(x:Int):AV:=.int .u64 x
def aE(e:En):List AV:=.int .i64 e.line::.int .i64 e.st::.bool e.r::.bool e.w::(e.d.l.map uW++(e.o.l.map uW ++ [.int .i64 e.u]))
def jt(e:En):(aE e).length=21:=by simp[aE,e.d.h,e.o.h]
def Aj(e:En):aS (aE e)=true:=by
 rw[vk];unfold aE;simp[aA]
def Od{H:ar}{s e:Nat}{a:AV}(h:H.get s=B1 (OR [a] e)){u:AV}(hu:aA u=B4):Op.store 1 [.ptr s 0,u] H=B1 (.undef,H.set s (OR [u] e)):=by
 have d:u.cells=[u]:=by cases u<;>first|rfl|cases hu
 have:=wF h (o:=0) (n:=1) (v:=u) (by rw[d];rfl) (by simp) (by rw[d,vk];simpa using hu);rw[this,d];rfl
def OK(b:aj)(Q:aJ)(E:Env)(D:List aQ)(H:ar):kE b Q .normal E D H=Q .normal E D H:=rfl
def D4(b:aj)(Q:aJ)(E:Env)(D:List aQ)(H:ar):kE b Q .ret E D H=Q .ret E D H:=rfl
def FG(c:Ca)(sv:AV):List AV:=[.int .i64 (c.fO:Int),.int .i64 (c.ways:Int),sv,.int .i64 c.us]
abbrev eA(sv:AV)(i:Nat):AV:=.ptr (aD sv) (cM 21 sv i)
structure d8(H:ar)(b:Nat)(sv:AV)(c:Ca):Prop where
 row:H.get b=B1 (OR (FG c sv) hK)
 lt:b<H.au
 sl:gW aE xt 21 H sv c.sl
 ne:aD sv≠b
 s8:c.fO<=8
 w4:c.ways<=4
 us:0<=c.us/\c.us<=1000000
def d8.em{H H':ar}{b:Nat}{sv:AV}{c:Ca}(h:d8 H b sv c)(f:Fr Em H H'):d8 H' b sv c:=⟨by rw[f.ai _ h.lt id];exact h.row,qn h.lt f.au,h.sl.fr f id,h.ne,h.s8,h.w4,h.us⟩
def d8.fr{H H':ar}{W:Nat->Prop}{b:Nat}{sv:AV}{c:Ca}(h:d8 H b sv c)(f:Fr W H H')(a:¬W b)(d:¬W (aD sv)):d8 H' b sv c:=⟨by rw[f.ai _ h.lt a];exact h.row,qn h.lt f.au,h.sl.fr f d,h.ne,h.s8,h.w4,h.us⟩
def d8.ix{H:ar}{b:Nat}{sv:AV}{c:Ca}(h:d8 H b sv c){i:Nat}(a:i<c.sl.length):Op.aT 21 [sv,.int .i64 (i:Int)]=B1 (eA sv i):=(h.sl.sl jt).idx (FA a) rfl .i64
def d8.ld{H:ar}{b:Nat}{sv:AV}{c:Ca}(h:d8 H b sv c){i:Nat}(a:i<c.sl.length){k:Nat}(hk:k<21):Op.ah [.ptr (aD sv) (cM 21 sv i+k)] H=(aE (c.en i))[k]?:=(h.sl.sl jt).ah jt (FA a) hk
def d8.xR{H:ar}{b:Nat}{sv:AV}{c:Ca}(h:d8 H b sv c){i:Nat}(a:i<c.sl.length):Op.ah [.ptr (aD sv) (cM 21 sv i)] H=B1 (.int .i64 (c.en i).line):=(h.sl.sl jt).jA jt (FA a) (by decide)
def y9(b o:Nat)(H:ar):Op.eq .ptr B2 [.ptr b o,.nilp] H=B1 (.bool B2):=rfl
def lK(b o:Nat)(H:ar):Op.eq .ptr B4 [.ptr b o,.nilp] H=B1 (.bool B4):=rfl
def Qb(H:ar):Op.eq .ptr B2 [.nilp,.nilp] H=B1 (.bool B4):=rfl
def uz(H:ar):Op.eq .ptr B4 [.nilp,.nilp] H=B1 (.bool B2):=rfl
def Ic(R:Nat->(Nat->Prop)->ar->Prop)(S:(Nat->Prop)->ar->Prop)(W0 O:Nat->Prop)(H:ar)(n:Nat)(v:AV)(H':ar):Prop:=∃W':Nat->Prop,Fr (λ b=>W0 b\/O b) H H'/\(∀b,W' b->b<H'.au/\(W0 b\/H.au<=b))/\(R n W' H'\/S W' H')
def qE(c:Ca)(sv:AV)(line:Int):List (List AV):=if line<0 then[]else(N7 c.ways).map λ k=>[eA sv (c.fr line+k)]
structure Ov(R:Nat->(Nat->Prop)->ar->Prop)(W0:Nat->Prop)(H1 Hx:ar)(i:Nat)(V:Nat->Prop):Prop where
 hR:R i V Hx
 hV:∀b,V b->b<Hx.au/\(W0 b\/H1.au<=b)
 fr:Fr W0 H1 Hx
def xds{H0:ar}{p q b:Nat}{sv:AV}{c:Ca}{lines line:Int}(g:d8 H0 b sv c)(e:CI lines c)(hp:H0.get p=B1 (OR [.ptr b 0] DF))(hq:H0.get q=B1 (OR [.int .i64 line] bY))(hpl:p<H0.au)(hql:q<H0.au) :
 pH M MD [] [.ptr p 0,.ptr q 0] (λ x=>x=p\/x=q\/x=b) (λ _=>False) H0 (qE c sv line):=by
 intro Y R S d H1 hnx A m r loc O step;have⟨p1,p2,p3⟩:=A p (.inl (.inl rfl));have⟨Q,F,G⟩:=A q (.inl (.inr (.inl rfl)));have⟨b1,T,U⟩:=A b (.inl (.inr (.inr rfl)))
 suffices h:zj M MD [.fn (.yield Y) [] [],.ptr p 0,.ptr q 0] H1 (Ic R S d (λ _=>False) H1 (qE c sv line).length)by
  have⟨v,H',g,W',Q,F,G⟩:=h.elim;exact⟨v,H',W',g,Q,F,G⟩
 refine q0b ?_;obtain⟨w0,w6,u,I,J⟩:=q0c M ⟨B5,MD⟩;have lp:∀{a:ar},Fr d H1 a->Op.ah [.ptr p 0] a=B1 (.ptr b 0):=λ f=>by rw[zg (xe (by rw[f.ai _ (by omega) p3,p2];exact hp))];rfl
 have P:∀{a:ar},Fr d H1 a->Op.ah [.ptr q 0] a=B1 (.int .i64 line):=λ f=>by rw[zg (xe (by rw[f.ai _ (by omega) G,F];exact hq))];rfl
 have lb:∀{a:ar}(k:Nat),Fr d H1 a->Op.ah [.ptr b k] a=(FG c sv)[k]?:=λ k f=>zg (xe (by rw[f.ai _ (by omega) U,T];exact g.row)) k;have j:=Fr.refl (W:=d) H1
 by_cases hl:line<0
 .simp only[ae,bc,w0,lp j,y9,P j,hl];exact⟨d,Fr.refl _,λ b hb=>⟨r b hb,.inl hb⟩,.inl (by unfold qE;rw[xb hl];exact m)⟩
 have D:(qE c sv line)=(N7 c.ways).map λ k=>[eA sv (c.fr line+k)]:=by unfold qE;rw[qv hl]
 rw[D]at step⊢;rw[xu,jd];have l0:Op.ah [.ptr b 0] H1=B1 (.int .i64 (c.fO:Int)):=lb 0 j;have l1:Op.ah [.ptr b 1] H1=B1 (.int .i64 (c.ways:Int)):=lb 1 j;have rm:Op.bin .rem [.int .i64 line,.int .i64 (c.fO:Int)]=B1 (.int .i64 ((line.toNat % c.fO:Nat):Int)):=by
  have:=e.s0;obtain⟨n,rfl⟩:=jx (HV.1 hl);rw[sI .i64 _ _ (by omega)];rfl
 have N:line.toNat % c.fO<c.fO:=Nat.mod_lt _ e.s0;have h8:=g.s8;have X:=g.w4;have B:(line.toNat % c.fO)*c.ways<=7*4:=Nat.mul_le_mul (by omega) X;have wm:ak .i64 (((line.toNat % c.fO:Nat):Int)*(c.ways:Int))=((c.fr line:Nat):Int):=by
  rw[<-Int.natCast_mul];exact ju (by omega) (by omega)
 have L:c.fr line<=28:=B;simp only[ae,bc,w0,lp j,y9,qt,P j,hl,w6,l0,l1,rm,wm];refine dm.intro (λ n E a=>∃(i:Nat)(V:Nat->Prop),E=[(27,.int .i64 (i:Int)),(26,.int .i64 (c.ways:Int)),(4,.int .i64 ((c.fr line:Nat):Int)),(0,.fn (.yield Y) [] []),(1,.ptr p 0)]/\n=c.ways-i/\i<=c.ways/\Ov R d H1 a i V) ?_ ?_
 .exact ⟨_,_,⟨0,d,rfl,rfl,x9 _,⟨m,λ b hb=>⟨r b hb,.inl hb⟩,Fr.refl _⟩⟩,by simp only[ae,bc]⟩
 rintro n E a ⟨i,V,rfl,rfl,hi,hI⟩;rcases xw i c.ways with t|hge
 .have z:(i:Int)<(c.ways:Int):=by omega
  have l2:Op.ah [.ptr b 2] a=B1 sv:=lb 2 hI.fr;have wi:ak .i64 (((c.fr line:Nat):Int)+(i:Int))=((c.fr line+i:Nat):Int):=by rw[ju (by omega) (by omega)];omega
  have ix:=g.ix (e.lS line t);have⟨bb,K,y,hr,Z,s,ht,hs⟩:=step i [eA sv (c.fr line+i)] (by rw[xj,js t];rfl) V a hI.hR hI.hV (hI.fr.mono λ _ _ q=>.inl q);have l:Fr d H1 K:=hI.fr.trans Z λ b q=>(hI.hV b q).2;have o:∀b,y b->b<K.au/\(d b\/H1.au<=b):=λ b q=>⟨(s b q).1,(s b q).2.elim (λ w=>(hI.hV b w).2) λ w=>.inr (zd hI.fr.au w)⟩
  have wj:ak .i64 ((i:Int)+1)=((i+1:Nat):Int):=by rw[ju (by omega) (by omega)];omega
  simp only[ae,bc,u,z,I,lp hI.fr,qt,l2,wi,ix];refine C3.tZ hr ?_;cases bb with
  |true =>
   simp only[ae,bc,J,wj];exact⟨_,_,⟨i+1,y,rfl,rfl,by omega,⟨ht rfl,o,l⟩⟩,by simp only[ae,bc],by omega⟩
  |false =>
   simp only[ae,bc];exact⟨y,l.mono λ _ _ q=>.inl q,o,.inr (hs rfl)⟩
 .have z:¬(i:Int)<(c.ways:Int):=by omega
  have C:i=c.ways:=by omega
  simp only[ae,bc,u,z];exact⟨V,hI.fr.mono λ _ _ q=>.inl q,hI.hV,.inl (by rw[<-C];exact hI.hR)⟩
def xhm{H:ar}(b:Nat)(line:Int):zj M _F [.ptr b 0,.int .i64 line] H λ v H'=>v=.fn (.func MD) [] [.ptr H.au 0,.ptr (H.au+1) 0]/\H'=(H.alloc (OR [.ptr b 0] DF)).alloc (OR [.int .i64 line] bY):=by
 refine q66 ?_;obtain⟨H1,e1,-,n1,-⟩:=cI H (OR [.ptr b 0] DF);have ca:AV.cells (.ptr b 0)=[.ptr b 0]:=rfl;have a:AV.cells (.int .i64 line)=[.int .i64 line]:=rfl;have mk:Op.bB MD 0 [.ptr H.au 0,.ptr (H.au+1) 0]=B1 (.fn (.func MD) [] [.ptr H.au 0,.ptr (H.au+1) 0]):=rfl;simp only[ae,bc,q67,ca,a,<-e1,n1];rfl
structure _A(c:Ca)(line:Int)(t:Nat)(i:Nat)(V:Nat->Prop)(Hx:ar):Prop where
 vt:V t
 g:Hx.get t=B1 (OR [.nilp] yj)
 lt:t<Hx.au
 no:∀k,k<i->c.mK line k=B2
structure AtS(c:Ca)(sv:AV)(line:Int)(t:Nat)(V:Nat->Prop)(Hx:ar):Prop where
 vt:V t
 ex:∃k,k<c.ways/\dH (c.mK line) c.ways=B1 k/\Hx.get t=B1 (OR [eA sv (c.fr line+k)] yj)
 lt:t<Hx.au
def wE(c:Ca)(sv:AV)(line:Int):AV:=match c.pos line with
 |none=>.nilp
 |some i=>eA sv i
def VV{H:ar}{b:Nat}{sv:AV}{c:Ca}{lines line:Int}(hc:d8 H b sv c)(s:CI lines c):zj M Nh [.ptr b 0,.int .i64 line] H λ v H'=>v=wE c sv line/\Fr Em H H':=by
 refine q91 ?_;have⟨w0,wa,wb,w2,w7⟩:=_E M ⟨B5,Nh⟩;obtain⟨H1,e1,f1,n1,-⟩:=cI H (OR [.int .i64 line] bY);obtain⟨p,e2,I,-,-⟩:=cI H1 (OR [.nilp] yj);have f2:Fr Em H p:=f1.trans I λ _ q=>q.elim;have n2:p.au=H.au+2:=by rw[e2,xz,n1]
 have g1:p.get H.au=B1 (OR [.int .i64 line] bY):=by rw[I.ai _ (by omega) id,e1,xr]
 have g2:p.get (H.au+1)=B1 (OR [.nilp] yj):=by rw[e2,<-n1,xr]
 have cl:AV.cells (.int .i64 line)=[.int .i64 line]:=rfl;have l1:Op.ah [.ptr H.au 0] p=B1 (.int .i64 line):=zg (xe g1) 0;simp only[ae,bc,w0,cl,<-e1,<-e2,n1,w2,l1];refine C3.q (xhm b line) λ v H5⟨hv,Q⟩=>?_;obtain⟨T,X,Z,-,-⟩:=cI p (OR [.ptr b 0] DF);obtain⟨E,Y,J,-,-⟩:=cI T (OR [.int .i64 line] bY);rw[<-X,<-Y]at Q;rw[hv,Q];have r:Fr Em p E:=Z.trans J λ _ q=>q.elim;have f4:Fr Em H E:=f2.trans r λ _ q=>q.elim;have n3:T.au=H.au+3:=by rw[X,xz,n2]
 have n4:E.au=H.au+4:=by rw[Y,xz,n3]
 have g3:E.get p.au=B1 (OR [.ptr b 0] DF):=by rw[J.ai _ (by omega) id,X,xr]
 have g4:E.get (p.au+1)=B1 (OR [.int .i64 line] bY):=by rw[show p.au+1=T.au by omega,Y,xr]
 have L:=hc.em f4;have hlt:=hc.lt;have hsb:aD sv<H.au:=hc.sl.lt;have kp:∀{j:ar},Fr (λ x=>(x=H.au+1)\/False) E j->d8 j b sv c/\Op.ah [.ptr H.au 0] j=B1 (.int .i64 line):=λ f =>
  ⟨L.fr f (λ q=>q.elim (λ q=>by omega) id) (λ q=>q.elim (λ q=>by omega) id),zg (xe (by rw[f.ai H.au (by omega) (λ q=>q.elim (λ q=>by omega) id),r.ai _ (by omega) id];exact g1)) 0⟩
 have res:∀{d:Nat}{j:ar}{x:AV},j.get (H.au+1)=B1 (OR [x] yj)->d≠H.au+1->Op.ah [.ptr (H.au+1) 0] (j.set d (.deferred B5))=B1 x:=λ g hd=>by
  rw[zg (xe (by rw[jv hd];exact g))];rfl
 refine iA.iter (fn:=Ul) (lp:=PJ) (pa:=VX 0) (pb:=Vp 0) q65 qrg.1 qrg.2 (by decide) q4z q40
  (xds L s g3 g4 (by omega) (by omega)) (λ i V j=>_A c line (H.au+1) i V j) (λ e V j=>e=.ret/\AtS c sv line (H.au+1) V j) (λ x=>x=H.au+1) (qm _) ?_ ?_ ?_ ?_ ?_ ?_ ?_ ?_
 .rintro x ((q|q|q)|q)
  .exact ⟨by omega,rfl,by omega⟩
  .exact ⟨by omega,rfl,by omega⟩
  .exact ⟨by omega,rfl,by omega⟩
  .exact q.elim
 .exact λ x F=>by omega
 .exact ⟨rfl,by rw[r.ai _ (by omega) id];exact g2,by omega,λ k hk=>by omega⟩
 .exact λ i V Ha Hb h hs hn=>⟨h.vt,by rw[hs _ h.vt];exact h.g,qn h.lt hn,h.no⟩
 .rintro e V Ha Hb ⟨he,h⟩ hs hn;have⟨k,k1,R,k3⟩:=h.ex;exact⟨he,h.vt,⟨k,k1,R,by rw[hs _ h.vt];exact k3⟩,qn h.lt hn⟩
 .intro a i lr lb x F hL2 V l m hV N hnL hL6 hgL;unfold qE at F;split at F
  .simp at F
  rename_i hl;rw[xj,xk]at F;obtain⟨y,hy,rfl⟩:=F;have w:i<c.ways:=by have:=(qo.1 hy).1;rw[jd]at this;exact this
  rw[js w]at hy;cases hy;refine⟨_,rfl,?_⟩;obtain⟨-,wa,wb,-⟩:=_E M ⟨B1 a,Nh⟩;simp only[ae,bc,wa,zT];refine⟨hgL,?_⟩;have fx:Fr (On a) l (l.set a lb):=(Fr.refl l).set (W:=On a) (.inl rfl) _;have gL:(l.set a lb).get a=B1 lb:=xg ..;have S:(l.set a lb).au=l.au:=rfl;have⟨hc6,lq6⟩:=kp N;have h7:d8 (l.set a lb) b sv c:=hc6.fr fx (λ(q:b=a)=>by omega) (λ(q:aD sv=a)=>by omega);have P:Op.ah [.ptr H.au 0] (l.set a lb)=B1 (.int .i64 line):=by
   have hg:(l.set a lb).get H.au=l.get H.au:=by rw[jv (by omega)]
   exact zg (xe (by rw[hg,N.ai H.au (by omega) (λ q=>q.elim (λ q=>by omega) id),r.ai _ (by omega) id];exact g1)) 0
  have K:a≠H.au+1:=λ q=>hnL (by rw[q];exact m.vt);have O:(l.set a lb).get (H.au+1)=B1 (OR [.nilp] yj):=by rw[jv K];exact m.g
  generalize l.set a lb=H7 at *;have hi:=s.lS line w;obtain⟨e,he⟩:∃e,e=c.en (c.fr line+i):=⟨_,rfl⟩
  have l0:Op.ah [.ptr (aD sv) (cM 21 sv (c.fr line+i))] H7=B1 (.int .i64 e.line):=by rw[he];exact h7.xR hi
  have l1:Op.ah [.ptr (aD sv) (cM 21 sv (c.fr line+i)+1)] H7=B1 (.int .i64 e.st):=by rw[he];exact h7.ld hi (k:=1) (by decide)
  have n:c.mK line i=(e.st != 0 && e.line == line):=by rw[he];rfl
  have stay:c.mK line i=B2->Qf (λ V j=>_A c line (H.au+1) (i+1) V j) (λ e V j=>e=.ret/\AtS c sv line (H.au+1) V j) a lb V l .normal [] [] H7:=λ Q =>
   ⟨rfl,gL,V,λ b hb=>⟨by rw[S];exact(hV b hb).1,.inl hb⟩,fx.mono λ x _ q=>.inr q,.inl ⟨rfl,m.vt,O,by rw[S];exact m.lt,λ k hk=>by
    by_cases q:k=i
    .rw [q];exact Q
    .exact m.no k (by omega)⟩⟩
  by_cases G:e.st=0
  .simp only[ae,bc,wb,qt,l1,xf G];exact stay (by rw[n,G];rfl)
  by_cases z:e.line=line
  .have st:=Od O (u:=eA sv (c.fr line+i)) rfl;simp only[ae,bc,wb,qt,l1,G,l0,P,xf z,st];refine⟨rfl,?_,V,?_,?_,.inr ⟨trivial,rfl,m.vt,⟨i,w,N1 w (by rw[n];simp[G,z]) m.no,xg ..⟩,?_⟩⟩
   .rw [jv (mM K)];exact gL
   .exact λ b hb=>⟨by show b<H7.au;rw[S];exact(hV b hb).1,.inl hb⟩
   .exact (fx.mono λ x _ q=>.inr q).set (.inl (.inl m.vt)) _
   .show H.au+1<H7.au;rw[S];exact m.lt
  .simp only[ae,bc,wb,qt,l1,G,l0,P,z];exact stay (by rw[n];simp[z])
 .intro d V U hd1 hd2 C B A m;have st:=Od m.g (u:=.nilp) rfl;have t:d≠H.au+1:=λ q=>by have:=(A _ m.vt).2.2;omega
  have gd:(U.set (H.au+1) (OR [.nilp] yj)).get d=B1 (.deferred (B1 [])):=by rw[jv (mM t)];exact C
  have rd:=res (d:=d) (xg U (H.au+1) (OR [.nilp] yj)) t;have o:c.pos line=none:=by
   unfold Ca.pos;split
   .rfl
   .rename_i hl;have D:=m.no;unfold qE at D;rw[qv hl,xu,jd]at D;rw[Ni D];rfl
  simp only[ae,bc,w7,st,Gg,rd];refine⟨gd,?_,?_⟩
  .unfold wE;rw[o]
  .exact (((f4.trans (W':=λ x=>x=H.au+1\/False) B λ x q=>q.elim (λ q=>.inr (by omega)) NT).set (.inr (by omega)) _).set (.inr (by omega)) _)
 .rintro e d V U hj hd1 hd2 C B A ⟨he,hS⟩;subst he;have⟨k,k1,R,k3⟩:=hS.ex;have t:d≠H.au+1:=λ q=>by have:=(A _ hS.vt).2.2;omega
  have rd:=res (d:=d) k3 t;have o:wE c sv line=eA sv (c.fr line+k):=by
   unfold wE Ca.pos
   by_cases hl:line<0
   .exfalso;obtain⟨G,z,-⟩:=Lg R;unfold Ca.mK at z;simp only[zf,bne_iff_ne,ne_eq,beq_iff_eq]at z;have:=(s.ok _ (s.lS line k1) z.1).2.1;omega
   .rw [qv hl,R];rfl
  simp only[ae,bc,Gg,rd];refine⟨C,o.symm,?_⟩;exact((f4.trans (W':=λ x=>x=H.au+1\/False) B λ x q=>q.elim (λ q=>.inr (by omega)) NT).set (.inr (by omega)) _)
end Go.Am
namespace Go.Am
open Go.Proofs Ca
variable{M:ao}[MK M]
def ij{H:ar}{b e n:Nat}{l x:List AV}(h:H.get b=B1 (OR l e))(hl:l.length=n)(d:x.length=n)(a:aS x=B4):Op.store n [.ptr b 0,.agg x] H=B1 (.undef,H.set b (OR x e)):=by
 have st:=wF h (o:=0) (n:=n) (v:=.agg x) (by rw[z6];exact d) (by omega) (by rw[z6];exact a);rw[st,z6,kz,z7,jo (by omega),zn]
def fC{H:ar}{b e n:Nat}{l:List AV}(h:H.get b=B1 (OR l e))(hl:l.length=n):Op.aw n [.ptr b 0] H=B1 (.agg l):=by
 rw[tD (xe h) (by omega),yt,zq (by omega)]
def D5(l:List AV):Op.build l [] []=B1 (.agg l):=rfl
def eZ:[AV.int .i64 0,.int .i64 0,.bool B2,.bool B2,.int .u64 0,.int .u64 0,.int .u64 0,.int .u64 0,.int .u64 0,.int .u64 0,.int .u64 0,.int .u64 0,.int .u64 0,.int .u64 0,.int .u64 0,.int .u64 0,.int .u64 0,.int .u64 0,.int .u64 0,.int .u64 0,.int .i64 0]=aE .zero:=rfl
abbrev dE(d:L8):List AV:=d.l.map uW
def wl(d:L8):(dE d).length=8:=by simp[dE,d.h]
def Az(d:L8):aS (dE d)=true:=by rw[vk];simp[dE,aA]
def lZ:[AV.int .u64 0,.int .u64 0,.int .u64 0,.int .u64 0,.int .u64 0,.int .u64 0,.int .u64 0,.int .u64 0]=dE .zero:=rfl
def nG(b:Nat)(sv:AV):Nat->Prop:=λ x=>x=b\/x=aD sv
section
variable{H:ar}{b:Nat}{sv:AV}{c:Ca}{lines line:Int}
def d8.set(h:d8 H b sv c){i:Nat}{e:En}{H':ar}(hs:gW aE xt 21 H' sv (c.sl.set i e))(f:Fr (On (aD sv)) H H'):d8 H' b sv (c.set i e) :=
 ⟨by rw[f.ai _ h.lt (λ q:b=aD sv=>h.ne q.symm)];exact h.row,qn h.lt f.au,hs,h.ne,h.s8,h.w4,h.us⟩
def d8.cZ(h:d8 H b sv c){i:Nat}(g:i<c.sl.length){j:Nat}(k:j<21){u:AV}(hu:aA u=B4){e:En}(he:aE e=(aE (c.en i)).set j u):∃H',Op.store 1 [.ptr (aD sv) (cM 21 sv i+j),u] H=B1 (.undef,H')/\d8 H' b sv (c.set i e)/\Fr (On (aD sv)) H H':=by
 have⟨H',d,f,a⟩:=h.sl.Au jt (FA g) k hu he;exact⟨H',d,h.set f a,a⟩
def d8.SH(h:d8 H b sv c){i:Nat}(g:i<c.sl.length){j n:Nat}{u:AV}(hu:u.cells.length=n)(ho:aS u.cells=B4)(k:j+n<=21){e:En}(he:aE e=(aE (c.en i)).take j++u.cells++(aE (c.en i)).drop (j+n)):∃H',Op.store n [.ptr (aD sv) (cM 21 sv i+j),u] H=B1 (.undef,H')/\d8 H' b sv (c.set i e)/\Fr (On (aD sv)) H H':=by
 have⟨H',d,f,a⟩:=h.sl.G0 jt (FA g) hu ho k he;exact⟨H',d,h.set f a,a⟩
def d8.FQ(h:d8 H b sv c){i:Nat}(g:i<c.sl.length)(e:En):∃H',Op.store 21 [.ptr (aD sv) (cM 21 sv i),.agg (aE e)] H=B1 (.undef,H')/\d8 H' b sv (c.set i e)/\Fr (On (aD sv)) H H':=by
 have⟨H',d,f,a⟩:=h.sl.Ps jt Aj (FA g) e;exact⟨H',d,h.set f a,a⟩
def d8.stU(h:d8 H b sv c){u:Int}(hu:0<=u/\u<=1000000):∃H',Op.store 1 [.ptr b 3,.int .i64 u] H=B1 (.undef,H')/\d8 H' b sv {c with us:=u}/\Fr (On b) H H':=by
 have st:=wF h.row (o:=3) (n:=1) (v:=.int .i64 u) rfl (by simp[FG]) rfl;have e:(FG c sv).take 3++(AV.int .i64 u).cells++(FG c sv).drop (3+1)=FG {c with us:=u} sv:=rfl;rw[e]at st;have f:Fr (On b) H (H.set b (OR (FG {c with us:=u} sv) hK)):=(Fr.refl H).set (W:=On b) (.inl rfl) _;exact⟨_,st,⟨xg ..,h.lt,h.sl.fr f λ(q:aD sv=b)=>h.ne q,h.ne,h.s8,h.w4,hu⟩,f⟩
def d8.Tx(h:d8 H b sv c)(k:Nat):Op.ah [.ptr b k] H=(FG c sv)[k]?:=zg (xe h.row) k
def d8.JH(h:d8 H b sv c){i:Nat}(a:i<c.sl.length):Op.aw 21 [.ptr (aD sv) (cM 21 sv i)] H=B1 (.agg (aE (c.en i))):=(h.sl.sl jt).aw jt (by decide) (FA a)
def d8.cells(h:d8 H b sv c){i:Nat}(a:i<c.sl.length){j n:Nat}(l:j+n<=21):Op.aw n [.ptr (aD sv) (cM 21 sv i+j)] H=B1 (.agg (((aE (c.en i)).drop j).take n)):=by
 have⟨sb,e,k,d⟩:=h.sl;have hb:aD sv=sb:=by rw[e];rfl
 have ho:cM 21 sv i=i*21:=by rw[e];simp[cM]
 have g:(i+1)*21<=c.sl.length*21:=jk _ a;have hl:=Ih jt c.sl;rw[hb,ho,tD (xe d) (by omega)];have hm:=xc3 (L:=c.sl.flatMap aE) (E:=aE (c.en i)) (p:=i*21) (size:=21) (jt _) (by omega) (λ r hr=>Jj jt c.sl (FA a) hr);have f:((c.sl.flatMap aE).take (i*21)).length=i*21:=by rw[zx];omega
 have e1:(c.sl.flatMap aE).drop (i*21+j)=(aE (c.en i)).drop j++(c.sl.flatMap aE).drop (i*21+21):=by
  conv=>lhs;rw[hm]
  rw[I3,f,jo (by omega),z7,vq,vy (by rw[jt];omega)]
 rw[e1,ym (by rw[jg,jt];omega)]
def d8.ldD(h:d8 H b sv c){i:Nat}(a:i<c.sl.length):Op.aw 8 [.ptr (aD sv) (cM 21 sv i+4)] H=B1 (.agg (dE (c.en i).d)):=by
 rw[h.cells a (by decide)];have:((aE (c.en i)).drop 4).take 8=dE (c.en i).d:=by
  show((dE (c.en i).d++(dE (c.en i).o ++ [AV.int .i64 (c.en i).u]))).take 8=_;rw[List.take_left' (wl _)]
 rw[this]
def d8.ldO(h:d8 H b sv c){i:Nat}(a:i<c.sl.length):Op.aw 8 [.ptr (aD sv) (cM 21 sv i+12)] H=B1 (.agg (dE (c.en i).o)):=by
 rw[h.cells a (by decide)];have:((aE (c.en i)).drop 12).take 8=dE (c.en i).o:=by
  have e:(aE (c.en i)).drop 12=(dE (c.en i).d++(dE (c.en i).o ++ [AV.int .i64 (c.en i).u])).drop 8:=rfl;rw[e,List.drop_left' (wl _),List.take_left' (wl _)]
 rw[this]
def Gs(c:Ca)(sv:AV)(line st:Int):AV:=match c.lI line st with
 |none=>.tuple [.nilp,.int .i64 20]
 |some i=>.tuple [eA sv i,.int .i64 0]
def LF(k:d8 H b sv c)(e:CI lines c)(line st:Int):zj M X9 [.ptr b 0,.int .i64 line,.int .i64 st] H λ v H'=>v=Gs c sv line st/\Fr Em H H':=by
 refine q92 ?_;obtain⟨w0,w2,h,a,f⟩:=q93 M ⟨B5,X9⟩;simp only[ae,bc,w0,w2,y9,h];refine C3.q (VV (line:=line) k e) λ v H1⟨m,d⟩=>?_;rw[m];unfold wE Gs lI;cases hp:c.pos line with
 |none =>
  simp only[ae,bc,a,Qb];exact d
 |some i =>
  obtain⟨-,l,-⟩:=e.bC hp;have l1:Op.ah [.ptr (aD sv) (cM 21 sv i+1)] H1=B1 (.int .i64 (c.en i).st):=(k.em d).ld l (by decide)
  by_cases g:st=0
  .subst g;simp only[ae,bc,a,y9,f];exact d
  by_cases j:(c.en i).st=st
  .simp only[ae,bc,a,y9,g,qt,l1,xf j,f];exact d
  .simp only[ae,bc,a,y9,g,qt,l1,j];exact d
abbrev CaQ(H:ar)(b:Nat)(sv:AV)(c':Ca)(r:AV):AV->ar->Prop:=λ v H'=>v=r/\d8 H' b sv c'/\Fr (nG b sv) H H'
def vK{H1 a:ar}(f:Fr (On (aD sv)) H1 a):Fr (nG b sv) H1 a:=f.mono λ _ _ q=>.inr q
def frB{H1 a:ar}(f:Fr (On b) H1 a):Fr (nG b sv) H1 a:=f.mono λ _ _ q=>.inl q
def rZ{H1 a:ar}(f:Fr Em H1 a):Fr (nG b sv) H1 a:=f.mono λ _ _ q=>q.elim
def vR{H1 a d:ar}(f:Fr (nG b sv) H1 a)(g:Fr (nG b sv) a d):Fr (nG b sv) H1 d:=f.trans g λ _ q=>.inl q
def Xz(a:d8 H b sv c)(hu:c.us+1<=1000000){i:Nat}(n:i<c.sl.length):zj M qs1 [.ptr b 0,eA sv i] H λ _ H'=>d8 H' b sv (c.use i)/\Fr (nG b sv) H H':=by
 refine q68 ?_;have l3:Op.ah [.ptr b 3] H=B1 (.int .i64 c.us):=a.Tx 3;have:=a.us;have w1:ak .i64 (c.us+1)=c.us+1:=ju (by omega) (by omega);have⟨H1,s1,g,h⟩:=a.stU (u:=c.us+1) (by omega);have f:Op.ah [.ptr b 3] H1=B1 (.int .i64 (c.us+1)):=g.Tx 3;have⟨p,s2,l,k⟩:=g.cZ n (j:=20) (by decide) (u:=.int .i64 (c.us+1)) rfl (e:={c.en i with u:=c.us+1}) (by
  show aE {c.en i with u:=c.us+1} = (aE (c.en i)).set 20 _;have⟨line,st,r,w,⟨d,m⟩,⟨o,ho⟩,u⟩:=c.en i
  match d,m,o,ho with
  |[d0,d1,d2,d3,d4,d5,d6,d7],_,[o0,o1,o2,o3,o4,o5,o6,o7],_=>rfl)
 simp only[ae,bc,q69,qt,l3,w1,s1,f,s2];exact⟨l,vR (frB h) (vK k)⟩
def tc(c:Ca)(line:Int):AV:=match c.find line with
 |none=>.tuple [.agg (aE .zero),.bool B2]
 |some e=>.tuple [.agg (aE e),.bool B4]
def TO(k:d8 H b sv c)(d:CI lines c)(line:Int):zj M Wx [.ptr b 0,.int .i64 line] H λ v H'=>v=tc c line/\Fr Em H H':=by
 refine q4t ?_;obtain⟨w0,w4,f⟩:=q4u M ⟨B5,Wx⟩;have⟨H1,e1,g,n1,l⟩:=cI H (OR (aE .zero) xt);simp only[ae,bc,w0,eZ,<-e1];refine C3.q (VV (line:=line) (k.em g) d) λ v e⟨n,h⟩=>?_;rw[n];have j:e.get H.au=B1 (OR (aE .zero) xt):=by rw[h.ai _ (by omega) id];exact l
 have a:Fr Em H e:=g.trans h λ _ q=>q.elim;unfold wE tc Ca.find;cases hp:c.pos line with
 |none =>
  have st:=ij j (jt _) (jt .zero) (Aj _);have ld:=fC (xg e H.au (OR (aE .zero) xt)) (jt _);simp only[ae,bc,w4,Qb,eZ,D5,st,ld];exact⟨rfl,a.set (.inr (qm _)) _⟩
 |some i =>
  obtain⟨-,m,-⟩:=d.bC hp;have le:=(k.em a).JH m;have st:=ij j (jt _) (jt (c.en i)) (Aj _);have ld:=fC (xg e H.au (OR (aE (c.en i)) xt)) (jt _);simp only[ae,bc,w4,y9,f,qt,le,st,ld];exact⟨rfl,a.set (.inr (qm _)) _⟩
end
end Go.Am
namespace Go.Am
open Go.Proofs Ca
variable{M:ao}[MK M]
def OP(e:En)(k:Nat)(hk:k<8)(y:Int):aE {e with d:=e.d.put k y} = (aE e).set (4+k) (uW y):=by
 have⟨line,st,r,w,⟨d,a⟩,⟨o,ho⟩,u⟩:=e
 match d,a,o,ho with
 |[d0,d1,d2,d3,d4,d5,d6,d7],_,[o0,o1,o2,o3,o4,o5,o6,o7],_ =>
  rcases(show k=0\/k=1\/k=2\/k=3\/k=4\/k=5\/k=6\/k=7 by omega)with rfl|rfl|rfl|rfl|rfl|rfl|rfl|rfl<;>rfl
def Lw(e:En)(k:Nat)(hk:k<8):(aE e)[4+k]? = B1 (uW (e.d.get k)):=by
 have⟨line,st,r,w,⟨d,a⟩,⟨o,ho⟩,u⟩:=e
 match d,a,o,ho with
 |[d0,d1,d2,d3,d4,d5,d6,d7],_,[o0,o1,o2,o3,o4,o5,o6,o7],_ =>
  rcases(show k=0\/k=1\/k=2\/k=3\/k=4\/k=5\/k=6\/k=7 by omega)with rfl|rfl|rfl|rfl|rfl|rfl|rfl|rfl<;>rfl
def Jg(e:En)(x:L8):aE {e with d:=x} = (aE e).take 4++(AV.agg (dE x)).cells++(aE e).drop (4+8):=by
 have⟨line,st,r,w,⟨d,a⟩,⟨o,ho⟩,u⟩:=e
 match d,a,o,ho with
 |[d0,d1,d2,d3,d4,d5,d6,d7],_,[o0,o1,o2,o3,o4,o5,o6,o7],_=>rfl
def Jr(e:En)(x:L8):aE {e with o:=x} = (aE e).take 12++(AV.agg (dE x)).cells++(aE e).drop (12+8):=by
 have⟨line,st,r,w,⟨d,a⟩,⟨o,ho⟩,u⟩:=e
 match d,a,o,ho with
 |[d0,d1,d2,d3,d4,d5,d6,d7],_,[o0,o1,o2,o3,o4,o5,o6,o7],_ =>
  have⟨x,f⟩:=x
  match x,f with
  |[x0,x1,x2,x3,x4,x5,x6,x7],_=>rfl
section
variable{H:ar}{b:Nat}{sv:AV}{c:Ca}{lines line:Int}
def Ff{a:Nat}(h:a<1000000):Op.bin .quo [.int .i64 (a:Int),.int .i64 8]=B1 (.int .i64 ((a / 8:Nat):Int)):=by
 rw[J6 .i64 _ _ (by decide),Int.tdiv_eq_ediv_of_nonneg (by omega),ju (by omega) (by omega)];rfl
def PL{a:Nat}(h:a<1000000):Op.bin .rem [.int .i64 (a:Int),.int .i64 8]=B1 (.int .i64 ((a % 8:Nat):Int)):=OQ (by decide)
def ixA(i k:Nat)(hk:k<8):Op.bh 8 1 [.ptr (aD sv) (cM 21 sv i+4),.int .i64 (k:Int)]=B1 (.ptr (aD sv) (cM 21 sv i+(4+k))):=by
 have:=TK (len:=8) (size:=1) (b:=aD sv) (o:=cM 21 sv i+4) (k:=.i64) (j:=(k:Int)) (i:=k) rfl hk;rw[this,Nat.mul_one,wq]
def KI{i:Nat}(a:i<c.sl.length)(e:En):(c.set i e).en i=e:=by rw[BN a,xb rfl]
def Ue(c:Ca)(i:Nat)(e e':En):(c.set i e).set i e'=c.set i e':=by unfold Ca.set;simp only[List.set_set]
def Cv{i:Nat}(a:i<c.sl.length):(c.use i).en i = {c.en i with u:=c.us+1}:=by
 show(c.set i {c.en i with u:=c.us+1}).en i=_;exact KI a _
def yQ(c:Ca)(a:Nat):AV:=match c.pos ((a / 8:Nat):Int)with
 |none=>.tuple [.int .u64 0,.int .i64 20]
 |some i=>.tuple [.int .u64 ((c.en i).d.get (a % 8)),.int .i64 0]
def r_(p:d8 H b sv c)(e:CI lines c)(hu:c.us+1<=1000000){a:Nat}(ha:a<1000000):zj M ZJ [.ptr b 0,.int .i64 (a:Int)] H (CaQ H b sv (c.word a).1 (yQ c a)):=by
 refine q4x ?_;obtain⟨w0,w2,l,f,m⟩:=q4y M ⟨B5,ZJ⟩;have n0:¬(a:Int)<0:=by omega
 have hk:a % 8<8:=Nat.mod_lt _ (by decide);simp only[ae,bc,w0,w2,lK,n0,l,Ff ha];refine C3.q (LF p e ((a / 8:Nat):Int) 0) λ v H1⟨t,g⟩=>?_;rw[t];have n:=p.em g;unfold Gs yQ Ca.word;rw[sH];cases hp:c.pos ((a / 8:Nat):Int)with
 |none =>
  have k:¬(20:Int)=0:=by decide
  simp only[ae,bc,xm,f,k];exact⟨rfl,n,rZ g⟩
 |some i =>
  obtain⟨-,h,-⟩:=e.bC hp;have u:=xf (show(0:Int)=0 from rfl);simp only[ae,bc,xm,f,m];refine C3.q (Xz n hu h) λ _ r⟨o,s⟩=>?_;have j:i<(c.use i).sl.length:=by show i<(c.sl.set i _).length;rw[xq];exact h
  have ld:Op.ah [.ptr (aD sv) (cM 21 sv i+(4+a % 8))] r=B1 (uW ((c.en i).d.get (a % 8))):=by
   rw[o.ld j (by omega),Cv h,Lw _ _ hk]
  simp only[ae,bc,PL ha,qt,ixA i (a % 8) hk,ld];exact⟨rfl,o,vR (rZ g) s⟩
def Rl(c:Ca)(a:Nat):AV:=match c.lI ((a / 8:Nat):Int) 2 with
 |none=>.int .i64 20
 |some _=>.int .i64 0
def um(s:d8 H b sv c)(f:CI lines c)(hu:c.us+1<=1000000){a:Nat}(ha:a<1000000)(y:Int):zj M XJ [.ptr b 0,.int .i64 (a:Int),.int .u64 y] H (CaQ H b sv (c.put a y) (Rl c a)):=by
 refine q63 ?_;obtain⟨w0,w2,n,g,o⟩:=q64 M ⟨B5,XJ⟩;have n0:¬(a:Int)<0:=by omega
 have hk:a % 8<8:=Nat.mod_lt _ (by decide);simp only[ae,bc,w0,w2,lK,n0,n,Ff ha];refine C3.q (LF s f ((a / 8:Nat):Int) 2) λ v H1⟨z,h⟩=>?_;rw[z];have p:=s.em h;unfold Gs Rl Ca.put;cases hp:c.lI ((a / 8:Nat):Int) 2 with
 |none =>
  have m:¬(20:Int)=0:=by decide
  simp only[ae,bc,xm,g,m];exact⟨rfl,p,rZ h⟩
 |some i =>
  obtain⟨-,k,-⟩:=f.bC (yO hp).1;have D:=xf (show(0:Int)=0 from rfl);simp only[ae,bc,xm,g,o];refine C3.q (Xz p hu k) λ _ B⟨x,t⟩=>?_;have l:i<(c.use i).sl.length:=by show i<(c.sl.set i _).length;rw[xq];exact k
  have⟨C,A,r,w⟩:=x.cZ l (j:=4+a % 8) (by omega) (u:=.int .u64 y) rfl (e:={(c.use i).en i with d:=((c.use i).en i).d.put (a % 8) y}) (OP _ _ hk y);have e:(c.use i).set i {(c.use i).en i with d:=((c.use i).en i).d.put (a % 8) y} = {c with us:=c.us+1,sl:=c.sl.set i {c.en i with u:=c.us+1,d:=(c.en i).d.put (a % 8) y}}:=by
   rw[Cv k];unfold Ca.use Ca.set;simp only[List.set_set]
  rw[e]at r;simp only[ae,bc,PL ha,qt,ixA i (a % 8) hk,A];exact⟨rfl,r,vR (vR (rZ h) t) (vK w)⟩
def xcy(s:d8 H b sv c)(a:CI lines c)(line:Int)(wr:Bool):zj M ZF [.ptr b 0,.int .i64 line,.bool wr] H λ _ H'=>d8 H' b sv (c.mark line wr)/\Fr (nG b sv) H H':=by
 refine q4v ?_;obtain⟨w0,w2,B,D,k,p,l⟩:=q4w M ⟨B5,ZF⟩;have m:¬(20:Int)=0:=by decide
 have J:=xf (show(0:Int)=0 from rfl);cases wr with
 |false =>
  simp only[ae,bc,w0,w2];refine C3.q (LF s a line 0) λ v H1⟨z,f⟩=>?_;rw[z];have g:=s.em f;unfold Gs Ca.mark;rw[qv (by decide)];cases hp:c.lI line 0 with
  |none =>
   simp only[ae,bc,xm,D,m,p];exact⟨g,rZ f⟩
  |some i =>
   obtain⟨-,h,-⟩:=a.bC (yO hp).1;have⟨E,A,x,t⟩:=g.cZ h (j:=2) (by decide) (u:=.bool B4) rfl (e:={c.en i with r:=B4}) rfl;simp only[ae,bc,xm,D,qt,A,p];exact⟨x,vR (rZ f) (vK t)⟩
 |true =>
  simp only[ae,bc,w0,w2,B];refine C3.q (LF s a line 2) λ v H1⟨z,f⟩=>?_;rw[z];have g:=s.em f;unfold Gs Ca.mark;rw[xb rfl];cases hp:c.lI line 2 with
  |none =>
   simp only[ae,bc,xm,k,m,l];exact⟨g,rZ f⟩
  |some i =>
   obtain⟨-,h,-⟩:=a.bC (yO hp).1;have l3:Op.ah [.ptr (aD sv) (cM 21 sv i+3)] H1=B1 (.bool (c.en i).w):=g.ld h (by decide);dsimp only;cases hw:(c.en i).w with
   |true =>
    rw[xb rfl];rw[hw]at l3;simp only[ae,bc,xm,k,qt,l3,l];exact⟨g,rZ f⟩
   |false =>
    rw[qv (by decide)];rw[hw]at l3;have⟨E,A,x,t⟩:=g.cZ h (j:=3) (by decide) (u:=.bool B4) rfl (e:={c.en i with w:=B4}) rfl;have y:i<(c.set i {c.en i with w:=B4}).sl.length:=by show i<(c.sl.set i _).length;rw[xq];exact h
    have⟨I,G,C,F⟩:=x.SH y (j:=12) (n:=8) (u:=.agg (dE (c.en i).d)) (by rw[z6];exact wl _) (by rw[z6];exact Az _) (by decide) (e:={(c.set i {c.en i with w:=B4}).en i with o:=(c.en i).d}) (Jr _ _);rw[KI h,Ue]at C;simp only[ae,bc,xm,k,qt,l3,g.ldD h,A,G,l];exact⟨C,vR (vR (rZ f) (vK t)) (vK F)⟩
def tT(c:Ca)(line:Int):AV:=.tuple [.agg (dE (c.cV line).2),match c.lI line 2 with|none=>.int .i64 20|some _=>.int .i64 0]
def xeq(g:d8 H b sv c)(h:CI lines c)(line:Int):zj M UZ [.ptr b 0,.int .i64 line] H λ v H'=>v=tT c line/\d8 H' b sv (c.cV line).1/\Fr (nG b sv) H H':=by
 refine qxu ?_;obtain⟨w0,w4,p⟩:=qxv M ⟨B5,UZ⟩;have o:¬(20:Int)=0:=by decide
 have E:=xf (show(0:Int)=0 from rfl);have⟨H1,e1,r,n1,x⟩:=cI H (OR (dE .zero) yp);have A:=g.lt;have B:aD sv<H.au:=g.sl.lt;simp only[ae,bc,w0,lZ,<-e1];refine C3.q (LF (g.em r) h line 2) λ v k⟨C,l⟩=>?_;rw[C];have a:Fr Em H k:=r.trans l λ _ q=>q.elim;have z:=g.em a;have t:k.get H.au=B1 (OR (dE .zero) yp):=by rw[l.ai _ (by omega) id];exact x
 unfold Gs tT Ca.cV;cases hp:c.lI line 2 with
 |none =>
  have st:=ij t (wl _) (wl .zero) (Az _);have ld:=fC (xg k H.au (OR (dE .zero) yp)) (wl _);have fs:Fr Em H (k.set H.au (OR (dE .zero) yp)):=a.set (.inr (qm _)) _;simp only[ae,bc,xm,w4,o,lZ,D5,st,ld];exact⟨g.em fs,rZ fs⟩
 |some i =>
  obtain⟨-,m,-⟩:=h.bC (yO hp).1;have⟨f,D,w,s⟩:=z.cZ m (j:=1) (by decide) (u:=.int .i64 1) rfl (e:={c.en i with st:=1}) rfl;have n:i<(c.set i {c.en i with st:=1}).sl.length:=by show i<(c.sl.set i _).length;rw[xq];exact m
  have l3:=w.ldD n;rw[KI m]at l3;have n2:=l.au;have y:f.get H.au=B1 (OR (dE .zero) yp):=by rw[s.ai _ (by omega) (λ(q:H.au=aD sv)=>by omega)];exact t
  have st:=ij y (wl _) (wl (c.en i).d) (Az _);have ld:=fC (xg f H.au (OR (dE (c.en i).d) yp)) (wl _);have fo:Fr (On H.au) f (f.set H.au (OR (dE (c.en i).d) yp)):=(Fr.refl f).set (W:=On H.au) (.inl rfl) _;simp only[ae,bc,xm,w4,p,qt,D,l3,st,ld];exact⟨w.fr fo (λ(q:b=H.au)=>by omega) (λ(q:aD sv=H.au)=>by omega),(vR (rZ a) (vK s)).set (.inr (qm _)) _⟩
def xde(h:d8 H b sv c)(f:CI lines c)(line:Int)(x:L8):zj M UO [.ptr b 0,.int .i64 line,.agg (dE x)] H λ _ H'=>d8 H' b sv (c.cN line x)/\Fr (nG b sv) H H':=by
 refine qv6 ?_;obtain⟨w0,w4,g⟩:=qv7 M ⟨B5,UO⟩;have o:¬(20:Int)=0:=by decide
 have L:=xf (show(0:Int)=0 from rfl);have⟨H1,e1,r,n1,B⟩:=cI H (OR (dE x) yp);have E:=h.lt;have F:aD sv<H.au:=h.sl.lt;simp only[ae,bc,w0,<-e1];refine C3.q (LF (h.em r) f line 1) λ v p⟨G,k⟩=>?_;rw[G];have a:Fr Em H p:=r.trans k λ _ q=>q.elim;have w:=h.em a;have t:p.get H.au=B1 (OR (dE x) yp):=by rw[k.ai _ (by omega) id];exact B
 unfold Gs Ca.cN;cases hp:c.lI line 1 with
 |none =>
  simp only[ae,bc,xm,w4,o,g];exact⟨w,rZ a⟩
 |some i =>
  obtain⟨-,l,-⟩:=f.bC (yO hp).1;have⟨z,I,D,s⟩:=w.cZ l (j:=1) (by decide) (u:=.int .i64 2) rfl (e:={c.en i with st:=2}) rfl;have m:i<(c.set i {c.en i with st:=2}).sl.length:=by show i<(c.sl.set i _).length;rw[xq];exact l
  have⟨K,J,y,A⟩:=D.SH m (j:=4) (n:=8) (u:=.agg (dE x)) (by rw[z6];exact wl _) (by rw[z6];exact Az _) (by decide) (e:={(c.set i {c.en i with st:=2}).en i with d:=x}) (Jg _ _);rw[KI l,Ue]at y;have n2:=k.au;have C:z.get H.au=B1 (OR (dE x) yp):=by rw[s.ai _ (by omega) (λ(q:H.au=aD sv)=>by omega)];exact t
  simp only[ae,bc,xm,w4,qt,fC t (wl x),I,fC C (wl x),J,g];exact⟨y,vR (vR (rZ a) (vK s)) (vK A)⟩
def yL(c:Ca)(line:Int):AV:=.tuple [.agg (aE (c.drop line).2),match c.lI line 0 with|none=>.int .i64 20|some _=>.int .i64 0]
def Zp(h:d8 H b sv c)(j:CI lines c)(line:Int):zj M Xv [.ptr b 0,.int .i64 line] H λ v H'=>v=yL c line/\d8 H' b sv (c.drop line).1/\Fr (nG b sv) H H':=by
 refine q4p ?_;obtain⟨w0,w4,s⟩:=q4q M ⟨B5,Xv⟩;have r:¬(20:Int)=0:=by decide
 have Q:=xf (show(0:Int)=0 from rfl);have⟨H1,e1,u,n1,C⟩:=cI H (OR (aE .zero) xt);have I:=h.lt;have J:aD sv<H.au:=h.sl.lt;simp only[ae,bc,w0,eZ,<-e1];refine C3.q (LF (h.em u) j line 0) λ v a⟨K,l⟩=>?_;rw[K];have d:Fr Em H a:=u.trans l λ _ q=>q.elim;have y:=h.em d;have n2:=l.au;have w:a.get H.au=B1 (OR (aE .zero) xt):=by rw[l.ai _ (by omega) id];exact C
 unfold Gs yL Ca.drop;cases hp:c.lI line 0 with
 |none =>
  have st:=ij w (jt _) (jt .zero) (Aj _);have ld:=fC (xg a H.au (OR (aE .zero) xt)) (jt _);have fs:Fr Em H (a.set H.au (OR (aE .zero) xt)):=d.set (.inr (qm _)) _;simp only[ae,bc,xm,w4,r,eZ,D5,st,ld];exact⟨h.em fs,rZ fs⟩
 |some i =>
  obtain⟨-,z,-⟩:=j.bC (yO hp).1;have⟨f,B,m,P,D⟩:=cI a (OR (aE .zero) xt);have A:=ij D (jt _) (jt (c.en i)) (Aj _);obtain⟨t,g⟩:∃X,X=f.set a.au (OR (aE (c.en i)) xt):=⟨_,rfl⟩
  rw[<-g]at A;have n:Fr (On a.au) f t:=by rw[g];exact(Fr.refl f).set (W:=On a.au) (.inl rfl) _
  have F:=(y.em m).fr n (λ(q:b=a.au)=>by omega) (λ(q:aD sv=a.au)=>by omega);have⟨e,N,G,o⟩:=F.FQ z .zero;have E:e.get a.au=B1 (OR (aE (c.en i)) xt):=by rw[o.ai _ (by rw[g];show a.au<f.au;omega) (λ(q:a.au=aD sv)=>by omega),g,xg]
  have L:=fC E (jt (c.en i));have p:e.get H.au=B1 (OR (aE .zero) xt):=by rw[o.ai _ (by rw[g];show H.au<f.au;omega) (λ(q:H.au=aD sv)=>by omega),n.ai _ (by omega) (λ(q:H.au=a.au)=>by omega),m.ai _ (by omega) id];exact w
  have O:=ij p (jt _) (jt (c.en i)) (Aj _);have ld:=fC (xg e H.au (OR (aE (c.en i)) xt)) (jt _);have fo:Fr (On H.au) e (e.set H.au (OR (aE (c.en i)) xt)):=(Fr.refl e).set (W:=On H.au) (.inl rfl) _;have k:Fr (nG b sv) H t:=(vR (rZ d) (rZ m)).trans n λ x(q:x=a.au)=>.inr (by omega);simp only[ae,bc,xm,w4,s,qt,y.JH z,eZ,<-B,A,D5,N,L,O,ld];exact⟨G.fr fo (λ(q:b=H.au)=>by omega) (λ(q:aD sv=H.au)=>by omega),(vR k (vK o)).set (.inr (qm _)) _⟩
end
end Go.Am
namespace Go.Am
open Go.Proofs Ca
variable{M:ao}[MK M]
def qC(sv:AV)(o:Option Nat):AV:=match o with
 |none=>.nilp
 |some i=>eA sv i
def ah1(sv:AV)(o:Option Nat):aA (qC sv o)=true:=by cases o<;>rfl
def Cc{a:ar}{t d e:Nat}{x:AV}{o:bF}(g:a.get t=B1 (OR [x] e))(h:d≠t):Op.ah [.ptr t 0] (a.set d o)=B1 x:=by
 have f:(a.set d o).get t=B1 (OR [x] e):=by rw[jv h];exact g
 exact zg (xe f) 0
structure U8(c:Ca)(sv:AV)(line:Int)(t u:Nat)(i:Nat)(V:Nat->Prop)(Hx:ar):Prop where
 vt:V t
 vu:V u
 g:Hx.get t=B1 (OR [.nilp] yj)
 gu:Hx.get u=B1 (OR [qC sv ((c.iN line i).map (c.fr line + ·))] yj)
 lt:t<Hx.au
 YV:u<Hx.au
 no:∀k,k<i->c.free line k=B2
structure Wr(c:Ca)(sv:AV)(line:Int)(t:Nat)(V:Nat->Prop)(Hx:ar):Prop where
 vt:V t
 ex:∃k,k<c.ways/\dH (c.free line) c.ways=B1 k/\Hx.get t=B1 (OR [eA sv (c.fr line+k)] yj)
 lt:t<Hx.au
section
variable{H:ar}{b:Nat}{sv:AV}{c:Ca}{lines line:Int}
def xm5(hc:d8 H b sv c)(O:CI lines c)(hl:0<=line):zj M Ol [.ptr b 0,.int .i64 line] H λ v H'=>v=qC sv (c.room line)/\Fr Em H H':=by
 refine q43 ?_;have⟨w0,wa,wb,w2,t,w3,n,w5,w7,w12⟩:=qrh M ⟨B5,Ol⟩;obtain⟨H1,e1,f1,n1,-⟩:=cI H (OR [.nilp] yj);obtain⟨D,e2,U,-,-⟩:=cI H1 (OR [.nilp] yj);have f2:Fr Em H D:=f1.trans U λ _ q=>q.elim;have n2:D.au=H.au+2:=by rw[e2,xz,n1]
 have g1:D.get H.au=B1 (OR [.nilp] yj):=by rw[U.ai _ (by omega) id,e1,xr]
 have g2:D.get (H.au+1)=B1 (OR [.nilp] yj):=by rw[e2,<-n1,xr]
 simp only[ae,bc,w0,<-e1,w2,w3,<-e2,n1,w5,w7];refine C3.q (xhm b line) λ v H5⟨hv,hh⟩=>?_;obtain⟨H3,e3,f23,-,-⟩:=cI D (OR [.ptr b 0] DF);obtain⟨S,e4,Y,-,-⟩:=cI H3 (OR [.int .i64 line] bY);rw[<-e3,<-e4]at hh;rw[hv,hh];have L:Fr Em D S:=f23.trans Y λ _ q=>q.elim;have f4:Fr Em H S:=f2.trans L λ _ q=>q.elim;have n3:H3.au=H.au+3:=by rw[e3,xz,n2]
 have n4:S.au=H.au+4:=by rw[e4,xz,n3]
 have g3:S.get D.au=B1 (OR [.ptr b 0] DF):=by rw[Y.ai _ (by omega) id,e3,xr]
 have g4:S.get (D.au+1)=B1 (OR [.int .i64 line] bY):=by rw[show D.au+1=H3.au by omega,e4,xr]
 have hc4:=hc.em f4;have hlt:=hc.lt;have hsb:aD sv<H.au:=hc.sl.lt;have I:qE c sv line=(N7 c.ways).map λ k=>[eA sv (c.fr line+k)]:=by unfold qE;rw[qv (by omega)]
 refine iA.iter (fn:=Ur) (lp:=PT) (pa:=W7 0) (pb:=Wf 0) q0a sB.1 sB.2 (by decide) qxy qxz
  (xds hc4 O g3 g4 (by omega) (by omega)) (λ i V B=>U8 c sv line H.au (H.au+1) i V B) (λ e V B=>e=.ret/\Wr c sv line H.au V B) (λ x=>x=H.au\/x=H.au+1) (qm _) ?_ ?_ ?_ ?_ ?_ ?_ ?_ ?_
 .rintro x ((q|q|q)|q)
  .exact ⟨by omega,rfl,by omega⟩
  .exact ⟨by omega,rfl,by omega⟩
  .exact ⟨by omega,rfl,by omega⟩
  .exact q.elim
 .exact λ x hx=>by omega
 .exact ⟨.inl rfl,.inr rfl,by rw[L.ai _ (by omega) id];exact g1,by rw[L.ai _ (by omega) id];exact g2,by omega,by omega,λ k hk=>by omega⟩
 .exact λ i V Ha Hb h hs hn=>⟨h.vt,h.vu,by rw[hs _ h.vt];exact h.g,by rw[hs _ h.vu];exact h.gu,qn h.lt hn,qn h.YV hn,h.no⟩
 .rintro e V Ha Hb ⟨he,h⟩ hs hn;have⟨k,k1,k2,k3⟩:=h.ex;exact⟨he,h.vt,⟨k,k1,k2,by rw[hs _ h.vt];exact k3⟩,qn h.lt hn⟩
 .intro f i lr lb x hx hL2 V p a hV hf6 hnL hL6 hgL;rw[I,xj,xk]at hx;obtain⟨y,hy,rfl⟩:=hx;have F:i<c.ways:=by have:=(qo.1 hy).1;rw[jd]at this;exact this
  rw[js F]at hy;cases hy;refine⟨_,rfl,?_⟩;obtain⟨-,wa,wb,-,t,-,n,-⟩:=qrh M ⟨B1 f,Ol⟩;simp only[ae,bc,wa,zT];refine⟨hgL,?_⟩;have fx:Fr (On f) p (p.set f lb):=(Fr.refl p).set (W:=On f) (.inl rfl) _;have gL:(p.set f lb).get f=B1 lb:=xg ..;have J:(p.set f lb).au=p.au:=rfl;have hc6:d8 p b sv c:=hc4.fr hf6 (λ q=>q.elim (λ q=>by omega) id) (λ q=>q.elim (λ q=>by omega) id);have h7:d8 (p.set f lb) b sv c:=hc6.fr fx (λ(q:b=f)=>by omega) (λ(q:aD sv=f)=>by omega);have hLt:f≠H.au:=λ q=>hnL (by rw[q];exact a.vt);have hLu:f≠H.au+1:=λ q=>hnL (by rw[q];exact a.vu);have R:(p.set f lb).get H.au=B1 (OR [.nilp] yj):=by rw[jv hLt];exact a.g
  have s:(p.set f lb).get (H.au+1)=B1 (OR [qC sv ((c.iN line i).map (c.fr line + ·))] yj):=by rw[jv hLu];exact a.gu
  generalize p.set f lb=H7 at *;have hi:=O.lS line F;obtain⟨e,he⟩:∃e,e=c.en (c.fr line+i):=⟨_,rfl⟩
  have l1:Op.ah [.ptr (aD sv) (cM 21 sv (c.fr line+i)+1)] H7=B1 (.int .i64 e.st):=by rw[he];exact h7.ld hi (k:=1) (by decide)
  have l2:Op.ah [.ptr (aD sv) (cM 21 sv (c.fr line+i)+2)] H7=B1 (.bool e.r):=by rw[he];exact h7.ld hi (k:=2) (by decide)
  have l3:Op.ah [.ptr (aD sv) (cM 21 sv (c.fr line+i)+3)] H7=B1 (.bool e.w):=by rw[he];exact h7.ld hi (k:=3) (by decide)
  have K:∀e:En,(aE e)[20]? = B1 (.int .i64 e.u):=λ e=>by
   have⟨line,st,r,w,⟨d,hd⟩,⟨o,ho⟩,u⟩:=e
   match d,hd,o,ho with
   |[d0,d1,d2,d3,d4,d5,d6,d7],_,[o0,o1,o2,o3,o4,o5,o6,o7],_=>rfl
  have l20:∀k,c.fr line+k<c.sl.length->Op.ah [.ptr (aD sv) (cM 21 sv (c.fr line+k)+20)] H7=B1 (.int .i64 (c.en (c.fr line+k)).u):=λ k hk=>by rw[h7.ld hk (k:=20) (by decide),K]
  have C:c.free line i=(e.st == 0):=by rw[he];rfl
  have no':e.st≠0 -> ∀k,k<i+1->c.free line k=false:=λ Z k hk=>by
   by_cases q:k=i
   .rw [q,C];simp[Z]
   .exact a.no k (by omega)
  have z:Op.ah [.ptr (H.au+1) 0] H7=B1 (qC sv ((c.iN line i).map (c.fr line + ·))):=zg (xe s) 0;have l:c.iN line (i+1)=if e.r ||e.w then c.iN line i else match c.iN line i with
   |none=>B1 i
   |some j=>if e.u<(c.en (c.fr line+j)).u then B1 i else B1 j:=by rw[he];rfl
  -- it stays as it is
  have stay:e.st≠0->c.iN line (i+1)=c.iN line i->Qf (λ V B=>U8 c sv line H.au (H.au+1) (i+1) V B) (λ e V B=>e=.ret/\Wr c sv line H.au V B) f lb V p .normal [] [] H7:=λ Z hb =>
   ⟨rfl,gL,V,λ b hb=>⟨by rw[J];exact(hV b hb).1,.inl hb⟩,fx.mono λ x _ q=>.inr q,.inl ⟨rfl,a.vt,a.vu,R,by rw[hb];exact s,by rw[J];exact a.lt,by rw[J];exact a.YV,no' Z⟩⟩
  -- this one is taken
  obtain⟨H8,G⟩:∃X,X=H7.set (H.au+1) (OR [eA sv (c.fr line+i)] yj):=⟨_,rfl⟩
  have st:=Od s (u:=eA sv (c.fr line+i)) rfl;rw[<-G]at st;have take:e.st≠0->c.iN line (i+1)=B1 i->Qf (λ V B=>U8 c sv line H.au (H.au+1) (i+1) V B) (λ e V B=>e=.ret/\Wr c sv line H.au V B) f lb V p .normal [] [] H8:=λ Z hb =>
   ⟨rfl,by rw[G,jv (mM hLu)];exact gL,V,λ b hb=>⟨by rw[G];show b<H7.au;rw[J];exact(hV b hb).1,.inl hb⟩,by rw[G];exact(fx.mono λ x _ q=>.inr q).set (.inl (.inl a.vu)) _,.inl ⟨rfl,a.vt,a.vu,by rw[G,jv (by omega)];exact R,by rw[G,xg,hb];rfl,by rw[G];show H.au<H7.au;rw[J];exact a.lt,by rw[G];show H.au+1<H7.au;rw[J];exact a.YV,no' Z⟩⟩
  by_cases A:e.st=0
  .have stt:=Od R (u:=eA sv (c.fr line+i)) rfl;simp only[ae,bc,wb,qt,l1,xf A,stt];refine⟨rfl,?_,V,?_,?_,.inr ⟨trivial,rfl,a.vt,⟨i,F,N1 F (by rw[C];simp[A]) a.no,xg ..⟩,?_⟩⟩
   .rw [jv (mM hLt)];exact gL
   .exact λ b hb=>⟨by show b<H7.au;rw[J];exact(hV b hb).1,.inl hb⟩
   .exact (fx.mono λ x _ q=>.inr q).set (.inl (.inl a.vt)) _
   .show H.au<H7.au;rw[J];exact a.lt
  cases hr:e.r with
  |true =>
   rw[hr]at l2;simp only[ae,bc,wb,qt,l1,A,t,l2];exact stay A (by rw[l,hr];rfl)
  |false =>
   rw[hr]at l2;cases hw:e.w with
   |true =>
    rw[hw]at l3;simp only[ae,bc,wb,qt,l1,A,t,l2,l3];exact stay A (by rw[l,hr,hw];rfl)
   |false =>
    rw[hw]at l3;rw[hr,hw]at l;cases hb:c.iN line i with
    |none =>
     rw[hb]at z l;have z:Op.ah [.ptr (H.au+1) 0] H7=B1 .nilp:=z;simp only[ae,bc,wb,qt,l1,A,t,l2,l3,n,z,Qb,st];exact take A l
    |some j =>
     rw[hb]at z l;have z:Op.ah [.ptr (H.au+1) 0] H7=B1 (eA sv (c.fr line+j)):=z;have hj:=(Tn hb).1;have a1:=l20 i hi;rw[<-he]at a1;have a2:=l20 j (O.lS line (by omega))
     by_cases q:e.u<(c.en (c.fr line+j)).u
     .simp only[ae,bc,wb,qt,l1,A,t,l2,l3,n,z,y9,a1,a2,q,st];exact take A (by rw[l];simp[q])
     .simp only[ae,bc,wb,qt,l1,A,t,l2,l3,n,z,y9,a1,a2,q];exact stay A (by rw[l,hb];simp[q])
 .intro d V T hd1 hd2 Q P N a;have hno:=a.no;have s:=a.gu;rw[I,xu,jd]at hno s;have z:Op.ah [.ptr (H.au+1) 0] T=B1 (qC sv ((c.iN line c.ways).map (c.fr line + ·))):=zg (xe s) 0;have st:=Od a.g (u:=qC sv ((c.iN line c.ways).map (c.fr line + ·))) (ah1 ..);have E:d≠H.au:=λ q=>by have:=(N _ a.vt).2.2;omega
  have gd:(T.set H.au (OR [qC sv ((c.iN line c.ways).map (c.fr line + ·))] yj)).get d=B1 (.deferred (B1 [])):=by rw[jv (mM E)];exact Q
  have rd:Op.ah [.ptr H.au 0] ((T.set H.au (OR [qC sv ((c.iN line c.ways).map (c.fr line + ·))] yj)).set d (.deferred B5))=B1 (qC sv ((c.iN line c.ways).map (c.fr line + ·))):=Cc (xg ..) E;have m:c.room line=(c.iN line c.ways).map (c.fr line + ·):=by
   unfold Ca.room;rw[Ni hno]
  rw[<-m]at z st gd rd;simp only[ae,bc,w12,z,st,D4,Gg,rd];refine⟨gd,?_⟩;exact(((f4.trans (W':=λ x=>(x=H.au\/x=H.au+1)\/False) P λ x q=>q.elim (λ q=>.inr (by omega)) NT).set (.inr (by omega)) _).set (.inr (by omega)) _)
 .rintro e d V T hj hd1 hd2 Q P N ⟨he,hS⟩;subst he;have⟨k,k1,k2,k3⟩:=hS.ex;have E:d≠H.au:=λ q=>by have:=(N _ hS.vt).2.2;omega
  have rd:Op.ah [.ptr H.au 0] (T.set d (.deferred B5))=B1 (eA sv (c.fr line+k)):=Cc k3 E;have m:c.room line=B1 (c.fr line+k):=by unfold Ca.room;rw[k2]
  simp only[ae,bc,D4,Gg,rd];refine⟨Q,by rw[m];rfl,?_⟩;exact((f4.trans (W':=λ x=>(x=H.au\/x=H.au+1)\/False) P λ x q=>q.elim (λ q=>.inr (by omega)) NT).set (.inr (by omega)) _)
end
end Go.Am
namespace Go.Am
open Go.Proofs Ca
variable{M:ao}[MK M]
def bdE(line st:Int)(x:L8):Op.build (aE .zero) [(0,1),(1,1),(4,8)] [.int .i64 line,.int .i64 st,.agg (dE x)]=B1 (.agg (aE ⟨line,st,B2,B2,x,.zero,0⟩)):=by
 have⟨x,a⟩:=x
 match x,a with
 |[x0,x1,x2,x3,x4,x5,x6,x7],_=>rfl
def pK(c:Ca)(line st:Int)(x:L8):AV:=.tuple [.agg (aE (c.fill line st x).2.1),.bool (decide ((c.fill line st x).2.2=0/\(c.fill line st x).2.1.st≠0)),.int .i64 (c.fill line st x).2.2]
section
variable{H:ar}{b:Nat}{sv:AV}{c:Ca}{lines line:Int}
def xce(n:d8 H b sv c)(l:CI lines c)(hu:c.us+1<=1000000)(hl:0<=line){st:Int}(Q:st=1\/st=2)(x:L8) :
 zj M Ok [.ptr b 0,.int .i64 line,.int .i64 st,.agg (dE x)] H λ v H'=>v=pK c line st x/\d8 H' b sv (c.fill line st x).1/\Fr (nG b sv) H H':=by
 refine q4r ?_;obtain⟨w0,w2,U,T,u,V⟩:=q4s M ⟨B5,Ok⟩;obtain⟨H1,e1,f1,n1,-⟩:=cI H (OR (dE x) yp);obtain⟨m,e2,p,-,-⟩:=cI H1 (OR (aE .zero) xt);have z:Fr Em H m:=f1.trans p λ _ q=>q.elim;have n2:m.au=H.au+2:=by rw[e2,xz,n1]
 have g1:m.get H.au=B1 (OR (dE x) yp):=by rw[p.ai _ (by omega) id,e1,xr]
 have Y:m.get (H.au+1)=B1 (OR (aE .zero) xt):=by rw[e2,<-n1,xr]
 have nl:¬line<0:=by omega
 have hlt:=n.lt;have hsb:aD sv<H.au:=n.sl.lt
 -- an error
 have err:∀{g:ar}(k:Int),Fr Em m g->k≠0->(c.fill line st x).2.2=k->(c.fill line st x).1=c->(c.fill line st x).2.1=.zero ->
  Op.store 21 [.ptr (H.au+1) 0,.agg (aE .zero)] g=B1 (.undef,g.set (H.au+1) (OR (aE .zero) xt))/\Op.aw 21 [.ptr (H.au+1) 0] (g.set (H.au+1) (OR (aE .zero) xt))=B1 (.agg (aE .zero)) /\
  (AV.tuple [.agg (aE .zero),.bool B2,.int .i64 k]=pK c line st x/\d8 (g.set (H.au+1) (OR (aE .zero) xt)) b sv (c.fill line st x).1/\Fr (nG b sv) H (g.set (H.au+1) (OR (aE .zero) xt))):=by
  intro g k f hk h1 h2 h3;have gx:g.get (H.au+1)=B1 (OR (aE .zero) xt):=by rw[f.ai _ (by omega) id];exact Y
  have fs:Fr Em H (g.set (H.au+1) (OR (aE .zero) xt)):=(z.trans f λ _ q=>q.elim).set (.inr (by omega)) _;refine⟨ij gx (jt _) (jt .zero) (Aj _),fC (xg ..) (jt _),?_,by rw[h2];exact n.em fs,rZ fs⟩;unfold pK;rw[h1,h3];simp[hk]
 have r:∀{q:AV},W M ⟨B5,Ok⟩ (N' 16) B4 (eY 0 (fj (W M ⟨B5,Ok⟩ (N' 23)) (eU M [.dg 21 8,.tmp 9,.tmp 10] (uI λ v H'=>v=pK c line st x/\d8 H' b sv (c.fill line st x).1/\Fr (nG b sv) H H'))))
  [(21,q),(10,.int .i64 0),(9,.bool B2),(8,.ptr (H.au+1) 0),(7,.ptr H.au 0),(0,.ptr b 0),(1,.int .i64 line),(2,.int .i64 st),(3,.agg (dE x))] [] m:=by
  intro q;simp only[ae,bc,T];refine C3.q (VV (line:=line) (n.em z) l) λ v H3⟨R,J⟩=>?_;rw[R];unfold wE;cases hp:c.pos line with
  |some i =>
   have⟨s1,s2,S⟩:=err 21 J (by decide) (by unfold Ca.fill;rw[hp]) (by unfold Ca.fill;rw[hp]) (by unfold Ca.fill;rw[hp]);simp only[ae,bc,lK,eZ,D5,s1,s2];exact S
  |none =>
   simp only[ae,bc,uz,U];have G:=z.trans J λ _ q=>q.elim;refine C3.q (xm5 (n.em G) l hl) λ v a⟨R,f4⟩=>?_;rw[R];have e:=J.trans f4 λ _ q=>q.elim;cases hr:c.room line with
   |none =>
    have⟨s1,s2,S⟩:=err 22 e (by decide) (by unfold Ca.fill;rw[hp,hr]) (by unfold Ca.fill;rw[hp,hr]) (by unfold Ca.fill;rw[hp,hr]);unfold qC;simp only[ae,bc,u,Qb,eZ,D5,s1,s2];exact S
   |some i =>
    obtain⟨k,k1,k2,-⟩:=UE hr;have D:i<c.sl.length:=by rw[k2];exact l.lS line k1
    have o:=z.trans e λ _ q=>q.elim;have Z:=n.em o;have n4:=e.au;have⟨E,e5,A,n5,g5⟩:=cI a (OR (aE .zero) xt);have s6:=ij g5 (jt _) (jt (c.en i)) (Aj _);obtain⟨h,w⟩:∃X,X=E.set a.au (OR (aE (c.en i)) xt):=⟨_,rfl⟩
    rw[<-w]at s6;have B:Fr (On a.au) E h:=by rw[w];exact(Fr.refl E).set (W:=On a.au) (.inl rfl) _
    have n6:h.au=a.au+1:=by rw[w];exact n5
    have g6:h.get a.au=B1 (OR (aE (c.en i)) xt):=by rw[w,xg]
    have h6:d8 h b sv c:=(Z.em A).fr B (λ(q:b=a.au)=>by omega) (λ(q:aD sv=a.au)=>by omega);have K:h.get H.au=B1 (OR (dE x) yp):=by rw[B.ai _ (by omega) (λ(q:H.au=a.au)=>by omega),A.ai _ (by omega) id,e.ai _ (by omega) id];exact g1
    have L:h.get (H.au+1)=B1 (OR (aE .zero) xt):=by rw[B.ai _ (by omega) (λ(q:H.au+1=a.au)=>by omega),A.ai _ (by omega) id,e.ai _ (by omega) id];exact Y
    have⟨H7,s7,h7,f7⟩:=h6.FQ D ⟨line,st,B2,B2,x,.zero,0⟩;have P:i<(c.set i ⟨line,st,B2,B2,x,.zero,0⟩).sl.length:=by show i<(c.sl.set i _).length;rw[xq];exact D
    have l6:=fC K (wl x);unfold qC;simp only[ae,bc,u,y9,V,qt,Z.JH D,eZ,<-e5,s6,l6,bdE,s7];refine C3.q (Xz h7 hu P) λ _ d⟨h8,f8⟩=>?_;have j:Fr (nG b sv) h d:=vR (vK f7) f8;have nW:∀y,H.au<=y -> ¬nG b sv y:=λ y hy q=>q.elim (λ q=>by omega) λ q=>by omega
    have N:d.get a.au=B1 (OR (aE (c.en i)) xt):=by rw[j.ai _ (by omega) (nW _ (by omega))];exact g6
    have O:d.get (H.au+1)=B1 (OR (aE .zero) xt):=by rw[j.ai _ (by omega) (nW _ (by omega))];exact L
    have l8:=fC N (jt (c.en i));have s:Op.ah [.ptr a.au 1] d=B1 (.int .i64 (c.en i).st):=zg (xe N) 1;have s9:=ij O (jt _) (jt (c.en i)) (Aj _);have g9:(d.set (H.au+1) (OR (aE (c.en i)) xt)).get a.au=B1 (OR (aE (c.en i)) xt):=by rw[jv (by omega)];exact N
    have t:Op.ah [.ptr a.au 1] (d.set (H.au+1) (OR (aE (c.en i)) xt))=B1 (.int .i64 (c.en i).st):=zg (xe g9) 1;have l9:=fC (xg d (H.au+1) (OR (aE (c.en i)) xt)) (jt (c.en i));have F:c.fill line st x=({c with us:=c.us+1,sl:=c.sl.set i ⟨line,st,B2,B2,x,.zero,c.us+1⟩},c.en i,0):=by unfold Ca.fill;rw[hp,hr]
    have eu:(c.set i ⟨line,st,B2,B2,x,.zero,0⟩).use i = {c with us:=c.us+1,sl:=c.sl.set i ⟨line,st,B2,B2,x,.zero,c.us+1⟩}:=by
     unfold Ca.use;rw[KI D];unfold Ca.set;simp only[List.set_set]
    rw[eu]at h8;have fo:Fr (On (H.au+1)) d (d.set (H.au+1) (OR (aE (c.en i)) xt)):=(Fr.refl d).set (W:=On (H.au+1)) (.inl rfl) _;have I:Fr (nG b sv) H d:=vR ((vR (rZ o) (rZ A)).trans B λ y(q:y=a.au)=>.inr (by omega)) j;have end_:d8 (d.set (H.au+1) (OR (aE (c.en i)) xt)) b sv (c.fill line st x).1/\Fr (nG b sv) H (d.set (H.au+1) (OR (aE (c.en i)) xt)):=by
     rw[F];exact⟨h8.fr fo (λ(q:b=H.au+1)=>by omega) (λ(q:aD sv=H.au+1)=>by omega),I.set (.inr (by omega)) _⟩
    by_cases C:(c.en i).st=0
    .simp only[ae,bc,l8,s,xf C,s9,t,l9];refine⟨?_,end_⟩;unfold pK;rw[F];simp[C]
    .simp only[ae,bc,l8,s,C,s9,t,l9];refine⟨?_,end_⟩;unfold pK;rw[F];simp[C]
 rcases Q with rfl|rfl
 .have t1:=xf (show(1:Int)=1 from rfl);simp only[ae,bc,w0,<-e1,n1,eZ,<-e2,w2,y9,nl];exact r
 .have t1:¬(2:Int)=1:=by decide
  have t2:=xf (show(2:Int)=2 from rfl);simp only[ae,bc,w0,<-e1,n1,eZ,<-e2,w2,y9,nl,t1];exact r
end
end Go.Am
namespace Go.Am
open Go.Proofs Ca
variable{M:ao}[MK M]
def PG(p:Nat->Bool)(k:Nat):(N7 (k+1)).filter p=(N7 k).filter p++(if p k then[k]else[]):=by
 rw[List.range_succ,List.filter_append];congr 1;cases h:p k<;>simp[h]
def E_(p:Nat->Bool){k:Nat}:∀m:Nat,∃X,(N7 (k+m)).filter p=(N7 k).filter p++X
 |0=>⟨[],by simp⟩
 |m+1=>by
  obtain⟨X,a⟩:=E_ p m;rw[<-wq,PG,a];exact⟨X++(if p (k+m)then[k+m]else[]),by rw[jb]⟩
def XB(p:Nat->Bool){n k:Nat}(hk:k<n)(hp:p k=B4):((N7 n).filter p)[((N7 k).filter p).length]? = B1 k:=by
 obtain⟨m,rfl⟩:∃m,n=k+1+m:=⟨n-(k+1),by omega⟩
 have⟨X,a⟩:=E_ p (k:=k+1) m;rw[a,PG,hp];simp
def iO(c:Ca):List Nat:=(N7 c.sl.length).filter λ k=>(c.en k).st != 0
def kU(c:Ca)(sv:AV):List (List AV):=(iO c).map λ k=>[eA sv k]
def tr(b:Nat)(sv:AV)(c:Ca)(Hx:ar):Prop:=∃c',d8 Hx b sv c'/\c'.sl.length=c.sl.length /\ ∀k,(c'.en k).st=(c.en k).st
def q8c{H0:ar}{p b:Nat}{sv:AV}{c:Ca}(hp:H0.get p=B1 (OR [.ptr b 0] DF))(hpl:p<H0.au)(hl:c.sl.length<=40) :
 vA M ME [] [.ptr p 0] (λ x=>x=p) (λ _=>False) (tr b sv c) H0 (kU c sv):=by
 intro Y R S g H1 hnx hN s I loc U hI step;have⟨p1,p2,p3⟩:=hN p (.inl rfl)
 suffices h:zj M ME [.fn (.yield Y) [] [],.ptr p 0] H1 (Ic R S g (λ _=>False) H1 (kU c sv).length)by
  have⟨v,H',hc,W',m,q2,q3⟩:=h.elim;exact⟨v,H',W',hc,m,q2,q3⟩
 refine qxw ?_;obtain⟨w0,w1,w7,w9,l,A,C,B,O⟩:=qxx M ⟨B5,ME⟩;have lp:∀{d:ar},Fr g H1 d->Op.ah [.ptr p 0] d=B1 (.ptr b 0):=λ f=>by rw[zg (xe (by rw[f.ai _ (by omega) p3,p2];exact hp))];rfl
 have r0:=Fr.refl (W:=g) H1;have⟨c1,Q,G,h1s⟩:=hI 0 g H1 s;have l2:Op.ah [.ptr b 2] H1=B1 sv:=Q.Tx 2;have ln:Op.dp [sv]=B1 (.int .i64 ((c.sl.length:Nat):Int)):=by rw[<-G];exact(Q.sl.sl jt).len
 simp only[ae,bc,w0,w1,lp r0,y9,w7,w9,qt,l2,ln];refine dm.intro (λ n E d=>∃(i:Nat)(V:Nat->Prop),E=[(11,.int .i64 (i:Int)),(10,.int .i64 ((c.sl.length:Nat):Int)),(0,.fn (.yield Y) [] []),(1,.ptr p 0)]/\n=c.sl.length-i/\i<=c.sl.length/\Ov R g H1 d ((N7 i).filter λ k=>(c.en k).st != 0).length V) ?_ ?_
 .exact ⟨_,_,⟨0,g,rfl,rfl,x9 _,⟨s,λ b hb=>⟨I b hb,.inl hb⟩,Fr.refl _⟩⟩,by simp only[ae,bc]⟩
 rintro n E d ⟨i,V,rfl,rfl,hi,a⟩;rcases xw i c.sl.length with L|hge
 .have m:(i:Int)<((c.sl.length:Nat):Int):=by omega
  have⟨Z,F,hl',N⟩:=hI _ V d a.hR;have z:Op.ah [.ptr b 2] d=B1 sv:=F.Tx 2;have y:i<Z.sl.length:=by omega
  have ix:=F.ix y;have ls:Op.ah [.ptr (aD sv) (cM 21 sv i+1)] d=B1 (.int .i64 (c.en i).st):=by rw[<-N i];exact F.ld y (k:=1) (by decide)
  have X:ak .i64 ((i:Int)+1)=((i+1:Nat):Int):=by rw[ju (by omega) (by omega)];omega
  have T:=PG (λ k=>(c.en k).st != 0) i
  by_cases r:(c.en i).st=0
  .have j:((N7 (i+1)).filter λ k=>(c.en k).st != 0).length=((N7 i).filter λ k=>(c.en k).st != 0).length:=by rw[T];simp[r]
   simp only[ae,bc,l,m,A,B,lp a.fr,qt,z,ix,ls,xf r,C,X];exact⟨_,_,⟨i+1,V,rfl,rfl,by omega,by rw[j];exact a⟩,by simp only[ae,bc],by omega⟩
  .have j:((N7 (i+1)).filter λ k=>(c.en k).st != 0).length=((N7 i).filter λ k=>(c.en k).st != 0).length+1:=by rw[T];simp[r]
   have hg:(kU c sv)[((N7 i).filter λ k=>(c.en k).st != 0).length]? = B1 [eA sv i]:=by
    unfold kU iO;rw[xj,XB _ L (by simp[r])];rfl
   have⟨bb,P,D,hr,J,u,ht,hs⟩:=step _ _ hg V d a.hR a.hV (a.fr.mono λ _ _ q=>.inl q);have o:Fr g H1 P:=a.fr.trans J λ b q=>(a.hV b q).2;have t:∀b,D b->b<P.au/\(g b\/H1.au<=b):=λ b q=>⟨(u b q).1,(u b q).2.elim (λ w=>(a.hV b w).2) λ w=>.inr (zd a.fr.au w)⟩
   simp only[ae,bc,l,m,A,B,lp a.fr,qt,z,ix,ls,r,O];refine C3.tZ hr ?_;cases bb with
   |true =>
    simp only[ae,bc,C,X];exact⟨_,_,⟨i+1,D,rfl,rfl,by omega,⟨by rw[j];exact ht rfl,t,o⟩⟩,by simp only[ae,bc],by omega⟩
   |false =>
    simp only[ae,bc,D4];exact⟨D,o.mono λ _ _ q=>.inl q,t,.inr (hs rfl)⟩
 .have m:¬(i:Int)<((c.sl.length:Nat):Int):=by omega
  have K:i=c.sl.length:=by omega
  simp only[ae,bc,l,m,OK];refine⟨V,a.fr.mono λ _ _ q=>.inl q,a.hV,.inl ?_⟩;have e:(kU c sv).length=((N7 i).filter λ k=>(c.en k).st != 0).length:=by unfold kU iO;rw[xu,K]
  rw[e];exact a.hR
def xo{H:ar}(b:Nat):zj M qqj [.ptr b 0] H λ v H'=>v=.fn (.func ME) [] [.ptr H.au 0]/\H'=H.alloc (OR [.ptr b 0] DF):=by
 refine q41 ?_;have ca:AV.cells (.ptr b 0)=[.ptr b 0]:=rfl;have mk:Op.bB ME 0 [.ptr H.au 0]=B1 (.fn (.func ME) [] [.ptr H.au 0]):=rfl;simp only[ae,bc,q42,ca];rfl
structure FV(c:Ca)(g:En->En)(i:Nat)(c':Ca):Prop where
 fO:c'.fO=c.fO
 ways:c'.ways=c.ways
 us:c'.us=c.us
 len:c'.sl.length=c.sl.length
 en:∀k,k<c.sl.length->c'.en k=if k∈(iO c).take i then g (c.en k)else c.en k
def FV.zero(c:Ca)(g:En->En):FV c g 0 c:=⟨rfl,rfl,rfl,rfl,λ k hk=>by simp⟩
def xe0(c:Ca):(iO c).Nodup:=List.Nodup.sublist (List.filter_sublist) List.nodup_range
def PN{c:Ca}{k:Nat}:k∈iO c↔k<c.sl.length/\(c.en k).st≠0:=by
 unfold iO;rw[List.mem_filter,List.mem_range];simp
def xje{l:List Nat}(h:l.Nodup){i k:Nat}(hk:l[i]? = B1 k):k∉l.take i:=by
 intro hm;have⟨j,a⟩:=KM hm;rw[yv]at a;split at a
 .rename_i d;have e:=qo.1 a;have f:=qo.1 hk;exact List.pairwise_iff_getElem.1 h j i e.1 f.1 d (by rw[e.2,f.2])
 .cases a
def FV.step{c a:Ca}{g:En->En}{i k:Nat}(h:FV c g i a)(hk:(iO c)[i]? = B1 k):a.en k=c.en k/\FV c g (i+1) (a.set k (g (c.en k))):=by
 have hm:=PN.1 (zh hk);have hn:=xje (xe0 c) hk;have he:a.en k=c.en k:=by rw[h.en k hm.1,qv hn]
 refine⟨he,h.fO,h.ways,h.us,by show(a.sl.set k _).length=_;rw[xq];exact h.len,λ j d=>?_⟩;rw[BN (by rw[h.len];exact hm.1),vg,hk]
 by_cases q:k=j
 .subst q;rw[xb rfl,xb (by simp)]
 .rw [qv q,h.en j d];have:(j∈(iO c).take i++(B1 k).toList)↔j∈(iO c).take i:=by simp[mM q]
  by_cases w:j∈(iO c).take i
  .rw [xb w,xb (this.2 w)]
  .rw [qv w,qv λ z=>w (this.1 z)]
def FV.done{c d:Ca}{g:En->En}(h:FV c g (iO c).length d)(hg:∀e:En,e.st=0->g e=e):d = {c with sl:=c.sl.map g}:=by
 have a:d.sl=c.sl.map g:=by
  refine yr λ k=>?_;rcases xw k c.sl.length with q|q
  .rw [FA (by rw[h.len];exact q),xj,FA q,h.en k q,zq (qm _)]
   by_cases w:(c.en k).st=0
   .rw [qv (λ z=>(PN.1 z).2 w)];show B1 (c.en k)=B1 (g (c.en k));rw[hg _ w]
   .rw [xb (PN.2 ⟨q,w⟩)];rfl
  .rw [z4 (by rw[h.len];exact q),z4 (by rw[xu];exact q)]
 have⟨s,w,l,u⟩:=d;have f:=h.fO;have i:=h.ways;have j:=h.us;simp only at f i j a;subst f;subst i;subst j;subst a;rfl
structure K7(c:Ca)(g:En->En)(b:Nat)(sv:AV)(i:Nat)(V:Nat->Prop)(Hx:ar):Prop where
 vb:V b
 vs:V (aD sv)
 ex:∃c',d8 Hx b sv c'/\FV c g i c'
def d8.loc{a Hb:ar}{b:Nat}{sv:AV}{c:Ca}(h:d8 a b sv c)(g:Hb.get b=a.get b)(d:Hb.get (aD sv)=a.get (aD sv))(hn:a.au<=Hb.au):d8 Hb b sv c :=
 ⟨by rw[g];exact h.row,qn h.lt hn,by
  have⟨sb,e1,e2,e⟩:=h.sl;have f:aD sv=sb:=by rw[e1];rfl
  rw[f]at d;exact⟨sb,e1,qn e2 hn,by rw[d];exact e⟩,h.ne,h.s8,h.w4,h.us⟩
def K7.loc{c:Ca}{g:En->En}{b:Nat}{sv:AV}{i:Nat}{V:Nat->Prop}{a Hb:ar}(h:K7 c g b sv i V a)(hs:∀x,V x->Hb.get x=a.get x)(hn:a.au<=Hb.au):K7 c g b sv i V Hb:=by
 have⟨d,e,f⟩:=h.ex;exact⟨h.vb,h.vs,d,e.loc (hs _ h.vb) (hs _ h.vs) hn,f⟩
def K7.hI{c:Ca}{g:En->En}(hg:∀e:En,(g e).st=e.st){b:Nat}{sv:AV}{i:Nat}{V:Nat->Prop}{d:ar}(h:K7 c g b sv i V d):tr b sv c d:=by
 have⟨f,j,a⟩:=h.ex;refine⟨f,j,a.len,λ k=>?_⟩;rcases xw k c.sl.length with q|q
 .rw [a.en k q];split
  .exact hg _
  .rfl
 .rw [WQ q,WQ (by rw[a.len];exact q)]
section
variable{H:ar}{b:Nat}{sv:AV}{c:Ca}{lines line:Int}
def q31(G:d8 H b sv c)(hl:c.sl.length<=40):zj M NO [.ptr b 0] H λ _ H'=>d8 H' b sv c.bt/\Fr (nG b sv) H H':=by
 refine qxt ?_;have⟨w0,wa,wb,w2,U,X⟩:=V1 M ⟨B5,NO⟩;simp only[ae,bc,w0,w2,y9,U];refine C3.q (xo b) λ v H5⟨hv,hh⟩=>?_;have⟨H1,e1,Z,n1,g1⟩:=cI H (OR [.ptr b 0] DF);rw[<-e1]at hh;rw[hv,hh];have I:=G.em Z;have hlt:=G.lt;have hsb:aD sv<H.au:=G.sl.lt;refine iA.u5 (fn:=Sm) (lp:=QB) (pa:=Y9 0) (pb:=VU 0) qv4 uK.1 uK.2 (by decide) qt4 qt5
  (q8c (b:=b) (sv:=sv) (c:=c) g1 (by omega) hl) (λ i V Y=>K7 c rM b sv i V Y) (λ _ _ _=>False) (nG b sv) (qm _) ?_ ?_ ?_ ?_ ?_ ?_ ?_ ?_ ?_
 .rintro x (q|q)
  .exact ⟨by omega,rfl,λ w=>w.elim (λ w=>by omega) λ w=>by omega⟩
  .exact q.elim
 .exact λ x B=>B.elim (λ q=>by omega) λ q=>by omega
 .exact ⟨.inl rfl,.inr rfl,c,I,FV.zero c rM⟩
 .exact λ i V Ha Hb h hs hn=>h.loc hs hn
 .exact λ e V Ha Hb h _ _=>h
 .exact λ i V Y h=>h.hI Vu
 .intro f i lr lb x B hL2 V p s hV hf6 A hL6 O;unfold kU at B;rw[xj,xk]at B;obtain⟨k,hk,rfl⟩:=B;refine⟨_,rfl,?_⟩;obtain⟨-,wa,wb,-⟩:=V1 M ⟨B1 f,NO⟩;simp only[ae,bc,wa,zT];refine⟨O,?_⟩;have fx:Fr (On f) p (p.set f lb):=(Fr.refl p).set (W:=On f) (.inl rfl) _;have gL:(p.set f lb).get f=B1 lb:=xg ..;have nL:(p.set f lb).au=p.au:=rfl;have F:=s.loc (Hb:=p.set f lb) (λ y C=>by rw[jv (λ q:f=y=>A (by rw[q];exact C))]) (qm _);generalize p.set f lb=H7 at *;have⟨a,h7,ht⟩:=F.ex;have⟨L,S⟩:=ht.step hk;have hm:=PN.1 (zh hk);have l:k<a.sl.length:=by rw[ht.len];exact hm.1
  have⟨H8,s8,h8,f8⟩:=h7.cZ l (j:=2) (by decide) (u:=.bool B2) rfl (e:={a.en k with r:=B2}) rfl;have Q:k<(a.set k {a.en k with r:=B2}).sl.length:=by show k<(a.sl.set k _).length;rw[xq];exact l
  have⟨H9,s9,h9,f9⟩:=h8.cZ Q (j:=3) (by decide) (u:=.bool B2) rfl (e:={(a.set k {a.en k with r:=B2}).en k with w:=B2}) rfl;rw[KI l,Ue]at h9;have R:k<(a.set k {a.en k with r:=B2,w:=B2}).sl.length:=by show k<(a.sl.set k _).length;rw[xq];exact l
  have⟨t,T,m,D⟩:=h9.SH R (j:=12) (n:=8) (u:=.agg (dE .zero)) (by rw[z6];exact wl _) (by rw[z6];exact Az _) (by decide) (e:={(a.set k {a.en k with r:=B2,w:=B2}).en k with o:=.zero}) (Jr _ _);rw[KI l,Ue]at m;have ec:({a.en k with r:=B2,w:=B2,o:=.zero}:En)=rM (c.en k):=by rw[L];unfold rM;rw[qv hm.2]
  have m:d8 t b sv (a.set k (rM (c.en k))):=by rw[<-ec];exact m
  have g:Fr (On (aD sv)) H7 t:=(f8.trans f9 λ _ q=>.inl q).trans D λ _ q=>.inl q;have E:f≠aD sv:=λ q=>A (by rw[q];exact s.vs);have n710:=g.au;simp only[ae,bc,wb,lZ,D5,qt,s8,s9,T];refine⟨rfl,by rw[g.ai f (by omega) (λ(q:f=aD sv)=>E q)];exact gL,V,λ y C=>⟨by have:=(hV y C).1;omega,.inl C⟩,(fx.mono λ y _ q=>.inr q).trans g λ y(q:y=aD sv)=>.inl (.inl (by rw[q];exact s.vs)),.inl ⟨rfl,s.vb,s.vs,_,m,S⟩⟩
 .intro d V z hd1 hd2 P N hVd s;have⟨a,h1,h2⟩:=s.ex;have el:(kU c sv).length=(iO c).length:=by unfold kU;rw[xu]
  rw[el]at h2;have e:a=c.bt:=h2.done λ e h=>by unfold rM;rw[xb h]
  rw[e]at h1;have J:d≠b:=by omega
  have K:d≠aD sv:=by omega
  have fo:Fr (On d) z (z.set d (.deferred B5)):=(Fr.refl z).set (W:=On d) (.inl rfl) _;have fW:Fr (nG b sv) H z:=(rZ Z).trans N λ y q=>q.elim (λ w=>.inl w) NT;simp only[ae,bc,X,Gg];exact⟨P,h1.fr fo (λ(q:b=d)=>J q.symm) (λ(q:aD sv=d)=>K q.symm),fW.set (.inr (by omega)) _⟩
 .exact λ e d V z _ _ _ _ _ _ h=>h.elim
end
end Go.Am
namespace Go.Am
open Go.Proofs Ca
variable{M:ao}[MK M]
def mD(e:En):En:=if e.st≠0/\e.w=B4 then{e with d:=e.o}else e
def _U(e:En):(mD e).st=e.st:=by unfold mD;split<;>rfl
def ah5(e:En):rM (mD e)=back e:=by
 unfold rM back;rw[_U]
 by_cases h:e.st=0
 .rw [xb h,xb h];unfold mD;rw[qv λ q=>q.1 h]
 .rw [qv h,qv h];unfold mD
  by_cases hw:e.w=B4
  .rw [xb ⟨h,hw⟩,xb hw]
  .rw [qv (λ q=>hw q.2),qv hw]
def xig(c:Ca):Ca.bt {c with sl:=c.sl.map mD} = c.discard:=by
 unfold Ca.bt Ca.discard;simp only[zD];congr 1;exact List.map_congr_left λ e _=>ah5 e
section
variable{H:ar}{b:Nat}{sv:AV}{c:Ca}{lines line:Int}
def xb5(N:d8 H b sv c)(hl:c.sl.length<=40):zj M Ot [.ptr b 0] H λ _ H'=>d8 H' b sv c.discard/\Fr (nG b sv) H H':=by
 refine qv5 ?_;have⟨w0,wa,wb,w2,U,X⟩:=_J M ⟨B5,Ot⟩;simp only[ae,bc,w0,w2,y9,U];refine C3.q (xo b) λ v H5⟨hv,hh⟩=>?_;have⟨H1,e1,f1,n1,g1⟩:=cI H (OR [.ptr b 0] DF);rw[<-e1]at hh;rw[hv,hh];have O:=N.em f1;have hlt:=N.lt;have hsb:aD sv<H.au:=N.sl.lt;refine iA.u5 (fn:=Si) (lp:=Pj) (pa:=Wi 0) (pb:=VB 0) qt6 nB.1 nB.2 (by decide) qsm qsn
  (q8c (b:=b) (sv:=sv) (c:=c) g1 (by omega) hl) (λ i V Z=>K7 c mD b sv i V Z) (λ _ _ _=>False) (nG b sv) (qm _) ?_ ?_ ?_ ?_ ?_ ?_ ?_ ?_ ?_
 .rintro x (q|q)
  .exact ⟨by omega,rfl,λ w=>w.elim (λ w=>by omega) λ w=>by omega⟩
  .exact q.elim
 .exact λ x C=>C.elim (λ q=>by omega) λ q=>by omega
 .exact ⟨.inl rfl,.inr rfl,c,O,FV.zero c mD⟩
 .exact λ i V Ha Hb h hs hn=>h.loc hs hn
 .exact λ e V Ha Hb h _ _=>h
 .exact λ i V Z h=>h.hI _U
 .intro f i lr lb x C hL2 V p g hV hf6 B hL6 R;unfold kU at C;rw[xj,xk]at C;obtain⟨k,hk,rfl⟩:=C;refine⟨_,rfl,?_⟩;obtain⟨-,wa,wb,-⟩:=_J M ⟨B1 f,Ot⟩;simp only[ae,bc,wa,zT];refine⟨R,?_⟩;have fx:Fr (On f) p (p.set f lb):=(Fr.refl p).set (W:=On f) (.inl rfl) _;have gL:(p.set f lb).get f=B1 lb:=xg ..;have nL:(p.set f lb).au=p.au:=rfl;have L:=g.loc (Hb:=p.set f lb) (λ y t=>by rw[jv (λ q:f=y=>B (by rw[q];exact t))]) (qm _);generalize p.set f lb=H7 at *;have⟨a,E,ht⟩:=L.ex;have⟨l,r⟩:=ht.step hk;have hm:=PN.1 (zh hk);have m:k<a.sl.length:=by rw[ht.len];exact hm.1
  have K:f≠aD sv:=λ q=>B (by rw[q];exact g.vs);have lw:Op.ah [.ptr (aD sv) (cM 21 sv k+3)] H7=B1 (.bool (a.en k).w):=E.ld m (k:=3) (by decide);cases hw:(a.en k).w with
  |true =>
   rw[hw]at lw;have⟨H8,s8,J,G⟩:=E.SH m (j:=4) (n:=8) (u:=.agg (dE (a.en k).o)) (by rw[z6];exact wl _) (by rw[z6];exact Az _) (by decide) (e:={a.en k with d:=(a.en k).o}) (Jg _ _);have F:({a.en k with d:=(a.en k).o}:En)=mD (c.en k):=by
    have s:(c.en k).w=true:=by rw[<-l];exact hw
    rw[l];unfold mD;rw[xb ⟨hm.2,s⟩]
   have J:d8 H8 b sv (a.set k (mD (c.en k))):=by rw[<-F];exact J
   have n78:=G.au;simp only[ae,bc,wb,qt,lw,E.ldO m,s8];exact⟨rfl,by rw[G.ai f (by omega) (λ(q:f=aD sv)=>K q)];exact gL,V,λ y t=>⟨by have:=(hV y t).1;omega,.inl t⟩,(fx.mono λ y _ q=>.inr q).trans G λ y(q:y=aD sv)=>.inl (.inl (by rw[q];exact g.vs)),.inl ⟨rfl,g.vb,g.vs,_,J,r⟩⟩
  |false =>
   rw[hw]at lw;have F:a.set k (mD (c.en k))=a:=by
    have hu:mD (c.en k)=a.en k:=by
     have s:(c.en k).w=false:=by rw[<-l];exact hw
     unfold mD;rw[qv (λ q=>by rw[s]at q;exact Ql q.2),l]
    rw[hu];unfold Ca.set Ca.en;rw[qy m];simp
   rw[F]at r;simp only[ae,bc,wb,qt,lw];exact⟨rfl,gL,V,λ y t=>⟨by have:=(hV y t).1;omega,.inl t⟩,fx.mono λ y _ q=>.inr q,.inl ⟨rfl,g.vb,g.vs,_,E,r⟩⟩
 .intro d V Y hd1 P S Q hVd g;have⟨a,h1,I⟩:=g.ex;have el:(kU c sv).length=(iO c).length:=by unfold kU;rw[xu]
  rw[el]at I;have e:a = {c with sl:=c.sl.map mD}:=I.done λ e h=>by unfold mD;rw[qv λ q=>q.1 h]
  have z:d≠b:=by omega
  have A:d≠aD sv:=by omega
  have fW:Fr (nG b sv) H Y:=(rZ f1).trans Q λ y q=>q.elim (λ w=>.inl w) NT;simp only[ae,bc,X];refine C3.q (q31 h1 (by rw[I.len];exact hl)) λ _ D⟨h3,f3⟩=>?_;rw[e,xig]at h3;have T:D.get d=B1 (.deferred (B1 [])):=by rw[f3.ai d P (λ q=>q.elim z A)];exact S
  have fo:Fr (On d) D (D.set d (.deferred B5)):=(Fr.refl D).set (W:=On d) (.inl rfl) _;simp only[ae,bc,Gg];exact⟨T,h3.fr fo (λ(q:b=d)=>z q.symm) (λ(q:aD sv=d)=>A q.symm),(vR fW f3).set (.inr (by omega)) _⟩
 .exact λ e d V Y _ _ _ _ _ _ h=>h.elim
end
end Go.Am
namespace Go.Am
open Go.Proofs Ca
variable{M:ao}[MK M]
def pw(s w:Nat):Ca:=⟨s,w,Jv (s*w) .zero,0⟩
def Xj(s w k:Nat):(pw s w).en k=.zero:=by
 unfold Ca.en pw;simp only[SA];split<;>rfl
def ah3(lines:Int){s w:Nat}(hs:0<s)(hw:0<w):CI lines (pw s w) :=
 ⟨jc ..,hs,hw,λ i _ h=>by rw[Xj]at h;exact absurd rfl h,λ i j _ _ h=>by rw[Xj]at h;exact absurd rfl h⟩
def xfj(s w:Nat):(pw s w).plain:=λ i _ h=>by rw[Xj]at h;exact absurd rfl h
def xgu:∀n:Nat,(Jv n En.zero).flatMap aE=gf n (aE .zero)
 |0=>rfl
 |n+1=>by rw[QD,j0,xgu n];rfl
def sG(s w:Int):Prop:=1<=s/\s<=8/\1<=w/\w<=4
instance(s w:Int):Decidable (sG s w):=inferInstanceAs (Decidable (_/\_))
def Xr(H:ar)(s w:Int)(v:AV)(H':ar):Prop:=Fr Em H H'/\(¬sG s w/\v=.tuple [.nilp,.int .i64 2]\/sG s w /\ ∃b sv,v=.tuple [.ptr b 0,.int .i64 0]/\d8 H' b sv (pw s.toNat w.toNat)/\H.au<=b/\H.au<=aD sv)
def xi3{H:ar}(s w:Int):zj M Wg [.int .i64 s,.int .i64 w] H (Xr H s w):=by
 refine af6 ?_;obtain⟨w0,w2,j⟩:=ag5 M ⟨B5,Wg⟩
 by_cases f:s<1
 .simp only[ae,bc,w0,w2,f];exact⟨Fr.refl _,.inl ⟨λ q=>by have:=q.1;omega,rfl⟩⟩
 by_cases g:8<s
 .simp only[ae,bc,w0,w2,f,g];exact⟨Fr.refl _,.inl ⟨λ q=>by have:=q.2.1;omega,rfl⟩⟩
 by_cases h:w<1
 .simp only[ae,bc,w0,w2,f,g,h];exact⟨Fr.refl _,.inl ⟨λ q=>by have:=q.2.2.1;omega,rfl⟩⟩
 by_cases l:4<w
 .simp only[ae,bc,w0,w2,f,g,h,l];exact⟨Fr.refl _,.inl ⟨λ q=>by have:=q.2.2.2;omega,rfl⟩⟩
 obtain⟨a,rfl⟩:=jx (show 0<=s by omega);obtain⟨d,rfl⟩:=jx (show 0<=w by omega);have p:a*d<=8*4:=Nat.mul_le_mul (by omega) (by omega);have t:ak .i64 ((a:Int)*(d:Int))=((a*d:Nat):Int):=by rw[<-Int.natCast_mul];exact ju (by omega) (by omega)
 have mk:=iu xt 160 (aE .zero) (a*d) .i64 .i64 (by omega) (by omega);rw[<-xgu]at mk;obtain⟨H1,e1,n,n1,-⟩:=cI H (OR ((Jv (a*d) En.zero).flatMap aE) xt);obtain⟨sv,e⟩:∃sv:AV,sv=.slice H.au 0 (a*d) (a*d):=⟨_,rfl⟩
 have i:Op.sliceTo (a*d) (a*d) H.au=sv:=by rw[e];rfl
 have r:aD sv=H.au:=by rw[e];rfl
 have m:Op.build [.int .i64 0,.int .i64 0,.nils,.int .i64 0] [(0,1),(1,1),(2,1)] [.int .i64 (a:Int),.int .i64 (d:Int),sv]=B1 (.agg (FG (pw a d) sv)):=by rw[e];rfl
 obtain⟨u,e2,k,-,o⟩:=cI H1 (OR (FG (pw a d) sv) hK);simp only[ae,bc,w0,w2,f,g,h,l,j,t,eZ,mk,i,<-e1,m,<-e2];refine⟨n.trans k λ _ q=>q.elim,.inr ⟨⟨by omega,by omega,by omega,by omega⟩,_,sv,rfl,⟨o,by rw[e2,xz];omega,⟨H.au,?_,?_,?_⟩,by omega,by show a<=8;omega,by show d<=4;omega,⟨uj _,by show(0:Int)<=1000000;decide⟩⟩,by omega,by omega⟩⟩
 .show sv=.slice H.au 0 (Jv (a*d) En.zero).length (Jv (a*d) En.zero).length;rw[jc];exact e
 .rw [e2,xz];omega
 .rw [k.ai _ (by omega) id,e1,xr];rfl
end Go.Am
