import Derived.Test.YtlepagkkolnmoaaGreatDoorAmWZd
import Derived.Test.YtlepagkkolnmoaaGreatDoorAmWZf
import Derived.Test.YtlepagkkolnmoaaGreatDoorAmWZe
set_option linter.defProp false
set_option linter.unusedVariables false
set_option linter.unusedSimpArgs false
set_option linter.unusedSectionVars false
set_option maxRecDepth 100000
open BitVec renaming ofInt→Aa
open Bool renaming noConfusion→Ql,false→B2,true→B4
open False renaming elim→OH
open Go renaming IntKind→Pl
open List renaming range→N1,replicate→JV
open Nat renaming beq→J3,ble→Ow,blt→QS
open Option renaming none→B5,some→B1
open Nat renaming reduceEqDiff→bc
namespace Go.Am
def gV(x:Nat):List AV:=[.int .i64 (x:Int)]
def ah2(x:Nat):(gV x).length=1:=rfl
def OI(l:List Nat):l.flatMap gV=l.map λ(x:Nat)=>AV.int .i64 (x:Int):=by
 induction l with
 |nil=>rfl
 |cons a l ih=>rw[j5,ih];rfl
def vG(l:List Nat):(l.flatMap gV).length=l.length:=by rw[OI,xu]
structure mD(e:Nat)(H0 H:ar)(v:AV)(xs:List Nat):Prop where
 own:(v=.nils/\xs=[]) \/ ∃b m rest,v=.gslice b 0 m 1 0 xs.length/\b<H.au/\H0.au<=b/\m=xs.length+rest.length/\H.get b=B1 (.grown m 1 (xs.flatMap gV++rest) e (0,0))
 fr:Fr Em H0 H
section
variable{e:Nat}{H0 H:ar}{v:AV}{xs:List Nat}
def mD.nil(e:Nat)(H:ar):mD e H H .nils []:=⟨.inl ⟨rfl,rfl⟩,Fr.refl H⟩
def mD.fresh(h:mD e H0 H v xs):∀b,aN v b->H0.au<=b/\b<H.au:=by
 rintro b ⟨a,rfl⟩;rcases h.own with⟨rfl,_⟩|⟨b,m,rest,rfl,c,d,_⟩
 .exact (a rfl).elim
 .exact ⟨d,c⟩
def mD.sl(h:mD e H0 H v xs):bX gV 1 H v xs:=by
 rcases h.own with⟨rfl,rfl⟩|⟨b,m,rest,rfl,a,d,f,c⟩
 .exact ⟨rfl,rfl⟩
 .refine ⟨by rw[vG,Nat.mul_one],rfl,rfl,by omega,.inr ⟨a,_,YQ c,?_⟩⟩;rw[sO,xb (by rw[xe,vG];omega),wx,y8,Nat.mul_one,ki (by rw[vG];exact qm _),zp (by rw[vG];exact qm _)]
def mD.vF{H':ar}{W:Nat->Prop}(h:mD e H0 H v xs)(f:Fr W H H')(c:Fr Em H0 H')(hw:∀b,aN v b -> ¬W b):mD e H0 H' v xs:=by
 refine⟨?_,c⟩;rcases h.own with q|⟨b,m,rest,rfl,a,d,g,i⟩
 .exact .inl q
 .exact .inr ⟨b,m,rest,rfl,qn a f.au,d,g,by rw[f.ah b a (hw b ⟨by simp,rfl⟩)];exact i⟩
def mD.em{H':ar}(h:mD e H0 H v xs)(f:Fr Em H H'):mD e H0 H' v xs:=h.vF f (h.fr.em f) λ _ _ q=>q
def mD.cut(h:mD e H0 H v xs){k:Nat}(hk:k<=xs.length){z:Int}(i:z=k)(kk:Pl) :
 ∃g,Op.aB 1 [B5,B1 0,B5] [v,.int kk z]=B1 g/\mD e H0 H g (xs.take k) /\ ∀b,aN g b->aN v b:=by
 rcases h.own with⟨rfl,rfl⟩|⟨b,m,rest,rfl,j,l,p,o⟩
 .have:k=0:=by simpa using hk
  subst this;refine⟨.nils,?_,⟨.inl ⟨rfl,rfl⟩,h.fr⟩,λ b hb=>hb⟩;have c:bound B5 0 0=B1 0:=rfl;simp[Op.aB,arg,kE,dv,c,qM i (qm 0)]
 .have e1:∀n,J3 n n=true:=λ n=>by simp
  have a:∀d m,bound B5 d m=B1 d:=λ _ _=>rfl;have f:=vf (show k<=m-0 by omega);refine⟨.gslice b (0+0) m 1 (cond (J3 0 0) 0 (0*1)) (k-0),by simp only[Op.aB,arg,kE,jb,qr,dv,a,qM i (show k<=m-0 by omega),e1,f,vf (x9 m),js,xw],⟨.inr ⟨b,m,(xs.drop k).flatMap gV++rest,?_,j,l,?_,?_⟩,h.fr⟩,λ b hb=>⟨by simp,hb.2⟩⟩
  .rw [jd,Nh hk];rfl
  .rw [jd,xe,vG,jg];omega
  .rw [o,<-zy,<-ym,vd]
def mD.push(h:mD e H0 H v xs){x:Nat}{zero:List AV}{bytes:Nat}(G:zero.length=1)(D:(xs.length+1)*bytes<=140737488355328)(u:xs.length+1<=140737488355328){K:bC->(Nat->AV)->Bool->AV->ar->Prop}{m:Bool}
 (hk:∀A H',mD e H0 H' A (xs ++ [x])->Fr (aN v) H H'->(∀b,aN A b->aN v b\/H.au<=b)->K (.row [.int .i64 (x:Int)] e (0,0) B4) (Op.sliceTo 1 1) m A H') :
 jO m (Op.buildSlice e 1 zero [(0,1)] [.int .i64 (x:Int)]) λ g o mk=>jO g (Op.append e 1 bytes [v,mk H.au] (H.alloc o)) (K o mk):=by
 have hb:Op.buildSlice e 1 zero [(0,1)] [.int .i64 (x:Int)]=B1 (.row [.int .i64 (x:Int)] e (0,0) B4,Op.sliceTo 1 1):=iu e 1 zero (.int .i64 (x:Int)) G rfl;rw[hb];have f:Fr Em H (H.alloc (.row [.int .i64 (x:Int)] e (0,0) B4)):=(Fr.refl H).alloc _;have k:Sl (H.alloc (.row [.int .i64 (x:Int)] e (0,0) B4)) 1 (Op.sliceTo 1 1 H.au) 1 [.int .i64 (x:Int)]:=CY rfl;have e1:∀n,J3 n n=true:=λ n=>by simp
 have ha:aQ [AV.int .i64 (x:Int)]=true:=rfl;have j:QS 0 1=true:=rfl;have l:J3 1 0=false:=rfl;have d:=Ts D u;refine jO.intro rfl ?_;rcases h.own with⟨rfl,rfl⟩|⟨b,i,rest,rfl,I,y,z,J⟩
 .have d:fits 1 bytes=true:=by simpa using d
  refine jO.intro (a:=.gslice (H.au+1) 0 1 1 0 1) (b:=(H.alloc (.row [.int .i64 (x:Int)] e (0,0) B4)).alloc (.grown 1 1 [.int .i64 (x:Int)] e (0,0))) ?_ (hk _ _ ⟨.inr ⟨H.au+1,1,[],rfl,?_,?_,rfl,?_⟩,?_⟩ ((f.alloc _).mono λ _ _ q=>q.elim) λ b hb=>.inr ?_)
  .simp only[Op.append,k.fy,k.first,qr,ha,xw,de,l,zm,d,j,js,dB,zg]
  .rw [zg,zg];omega
  .have:=h.fr.au;omega
  .exact xt ..
  .exact (h.fr.em f).alloc _
  .rw [hb.2];show H.au<=H.au+1;omega
 .have p:(H.alloc (.row [.int .i64 (x:Int)] e (0,0) B4)).get b=B1 (.grown i 1 (xs.flatMap gV++rest) e (0,0)):=by rw[wN I];exact J
  cases rest with
  |nil =>
   have hm:i=xs.length:=by simpa using z
   subst hm;have s:Ow (0+xs.length+1) xs.length=false:=by cases E:Ow (0+xs.length+1) xs.length with|false=>rfl|true=>rw[sH]at E;omega
   have t:=vf (show 0+xs.length<=xs.length by omega);have B:=vf (x9 (xs.length*1));refine jO.intro (a:=.gslice (H.au+1) 0 (xs.length+1) 1 0 (xs.length+1)) (b:=((H.alloc (.row [.int .i64 (x:Int)] e (0,0) B4)).kill b).alloc (.grown (xs.length+1) 1 (xs.flatMap gV ++ [.int .i64 (x:Int)]) e (0,0))) ?_ (hk _ _ ⟨.inr ⟨H.au+1,xs.length+1,[],?_,?_,?_,?_,?_⟩,?_⟩ ?_ λ b hb=>.inr ?_)
   .simp only[Op.append,k.fy,k.first,qr,ha,xw,de,zm,e1,t,j,js,s,d,p,B,dB,Gv,zg,pD,zt,J3]
   .rw [xe];rfl
   .rw [zg,Gv,zg];omega
   .have:=h.fr.au;omega
   .rw [xe];rfl
   .rw [zt,ym];have:=xt ((H.alloc (.row [.int .i64 (x:Int)] e (0,0) B4)).kill b) (.grown (xs.length+1) 1 (xs.flatMap gV ++ [.int .i64 (x:Int)]) e (0,0));rw[Gv,zg]at this;exact this
   .exact ((h.fr.em f).kill (.inr y)).alloc _
   .exact (Fr.kill (W:=aN (AV.gslice b 0 xs.length 1 0 xs.length)) (f.mono λ _ _ q=>q.elim) (.inl ⟨by simp,rfl⟩)).alloc _
   .rw [hb.2];show H.au<=H.au+1;omega
  |cons r rest =>
   have s:=vf (show 0+xs.length+1<=i by simp at z;omega);have t:=vf (show 0+xs.length<=i by omega);have w:(H.alloc (.row [.int .i64 (x:Int)] e (0,0) B4)).store b ((0+xs.length)*1) [.int .i64 (x:Int)]=B1 ((H.alloc (.row [.int .i64 (x:Int)] e (0,0) B4)).set b (.grown i 1 ((xs ++ [x]).flatMap gV++rest) e (0,0))):=by
    have F:eD (0,0) ((0+xs.length)*1) (cS [AV.int .i64 (x:Int)])=true:=by simp[eD]
    simp only[ar.store,ha,xw,p,F,FV];rw[xb (by rw[xe,vG];simp),qr];congr 4;rw[yr,Nat.mul_one,ki (by rw[vG];exact qm _),zp (by rw[vG];exact qm _),ym]
    .rfl
    .rw [yr,Nat.mul_one,show[AV.int .i64 (x:Int)].length=1 from rfl,BE,jr (by rw[vG];omega),vG];simp
   refine jO.intro (a:=.gslice b 0 i 1 0 (xs.length+1)) (b:=(H.alloc (.row [.int .i64 (x:Int)] e (0,0) B4)).set b (.grown i 1 ((xs ++ [x]).flatMap gV++rest) e (0,0))) ?_ (hk _ _ ⟨.inr ⟨b,i,rest,?_,?_,y,?_,?_⟩,?_⟩ ?_ λ c C=>.inl ⟨by simp,C.2⟩)
   .simp only[Op.append,k.fy,k.first,qr,ha,xw,de,l,zm,e1,t,j,js,s,w]
   .rw [xe];rfl
   .rw [qI,zg];omega
   .rw [xe];simp at z⊢;omega
   .exact xj ..
   .exact (h.fr.em f).set (.inr y) _
   .exact Fr.set (W:=aN (AV.gslice b 0 i 1 0 xs.length)) (f.mono λ _ _ q=>q.elim) (.inl ⟨by simp,rfl⟩) _
end
end Go.Am
namespace Go.Am
def Uf{len size b o:Nat}{k:Pl}{j:Int}{i:Nat}(c:j=i)(a:i<len):Op.aY len size [.ptr b o,.int k j]=B1 (.ptr b (o+i*size)):=by
 simp only[Op.aY,MF c a,qr]
def Qz{k:Pl}{a:Nat}{b:Int}(hb:0<b):Op.bin .rem [.int k (a:Int),.int k b]=B1 (.int k ((a % b.toNat:Nat):Int)):=by
 rw[sL k _ _ (by omega),P4 (by omega)];congr 2;rw[Int.natCast_emod];congr 1;omega
namespace Lang
def ints(l:List Nat):List Int:=l.map λ(n:Nat)=>(n:Int)
end Lang
end Go.Am
namespace Go.Am
def PF(k k':Pl)(a:Int)(n:Nat):Op.bin .shr [.int k a,.int k' n]=B1 (.int k (a.fdiv (2 ^ (min n k.bits)))):=by
 have e:Av (n:Int) 0=false:=by rw[JM];simp
 simp only[Op.bin,nC,dZ,xw,tw,e,zm,FO]
def Ke(k k':Pl)(a:Int)(n:Nat):Op.bin .shl [.int k a,.int k' n]=B1 (.int k (aj k (a*2 ^ (min n k.bits)))):=by
 have e:Av (n:Int) 0=false:=by rw[JM];simp
 simp only[Op.bin,nC,dZ,xw,tw,e,zm,FO]
end Go.Am
namespace Go.Am
namespace Lang
structure i9 where
 op:Int
 a:Int
 b:Int
 c:Int
 Ay:Int
def FM(o:Nat)(x y:Int):Int :=
 if o=4 then aj .u64 (x+y)else if o=5 then aj .u64 (x-y)else if o=6 then aj .u64 (x*y)
 else if o=7 then aj .u64 ((Aa 64 x &&& Aa 64 y).toNat)else if o=8 then aj .u64 ((Aa 64 x ^^^ Aa 64 y).toNat)
 else if o=9 then aj .u64 (x*2 ^ (y % 64).toNat)else aj .u64 (x / 2 ^ (y % 64).toNat)
structure oA where
 kind:Int
 au:Int
 pq:Int
 value:Int
 addr:Int
def iz:oA:=⟨0,0,0,0,0⟩
def pI(op:Nat):List UInt8 :=
 if op=2 then[65,73]else if op=3 then[65,66]else if 4<=op/\op<=10 then[65,66,67]
 else if op=11\/op=12\/op=14\/op=15\/op=16 then[65,66,73]else if op=13 then[73]else[]
def i9.mM(i:i9):Prop:=1<=i.op/\i.op<=18/\(65∈pI i.op.toNat->0<=i.a/\i.a<8)/\(66∈pI i.op.toNat->0<=i.b/\i.b<8)/\(67∈pI i.op.toNat->0<=i.c/\i.c<8)
instance(i:i9):Decidable i.mM:=inferInstanceAs (Decidable (_/\_))
def pP(n:Int):Nat:=(Aa 64 n &&& 7#64).toNat
def rg(rs:List Int)(n:Int):Int:=rs.getD (pP n) 0
def oe(i:i9)(pc:Int)(q:Bool):oA:=if q=B4 then(if i.Ay<0\/1024<i.Ay then iz else⟨2,i.Ay,0,0,0⟩)else⟨2,pc+1,0,0,0⟩
def i9.fV(i:i9)(rs:List Int)(pc:Int):oA :=
 if¬i.mM\/pc<0\/1024<=pc then iz
 else if i.op=1 then⟨7,pc+1,0,0,0⟩
 else if i.op=2 then⟨1,pc+1,i.a,aj .u64 i.Ay,0⟩
 else if i.op=3 then⟨1,pc+1,i.a,rg rs i.b,0⟩
 else if i.op<=10 then⟨1,pc+1,i.a,FM i.op.toNat (rg rs i.b) (rg rs i.c),0⟩
 else if i.op=11 then⟨3,pc+1,i.a,0,aj .u64 (rg rs i.b+aj .u64 i.Ay)⟩
 else if i.op=12 then⟨4,pc+1,0,rg rs i.a,aj .u64 (rg rs i.b+aj .u64 i.Ay)⟩
 else if i.op=13 then oe i pc B4
 else if i.op=14 then oe i pc (decide (rg rs i.a=rg rs i.b))
 else if i.op=15 then oe i pc (decide (rg rs i.a≠rg rs i.b))
 else if i.op=16 then oe i pc (decide (rg rs i.a<rg rs i.b))
 else if i.op=17 then⟨5,pc+1,0,0,0⟩
 else⟨6,pc+1,0,0,0⟩
end Lang
end Go.Am
namespace Go.Am
def pF(AP:ak)(g:Nat)(pre cap:List AV)(N O:Nat->Prop)(H0:ar)(xs:List (List AV)):Prop :=
 ∀(L:Nat)(R:Nat->(Nat->Prop)->ar->Prop)(S:(Nat->Prop)->ar->Prop)(W0:Nat->Prop)(H:ar),
  H0.au<=H.au->(∀b,N b\/O b->b<H0.au/\H.get b=H0.get b /\ ¬W0 b)->R 0 W0 H->(∀b,W0 b->b<H.au) ->
  (∀i W H H',R i W H->(∀b,W b->H'.get b=H.get b)->H.au<=H'.au->R i W H')->(∀W H H',S W H->(∀b,W b->H'.get b=H.get b)->H.au<=H'.au->S W H') ->
  (∀(i:Nat)x,xs[i]? = B1 x -> ∀W H',R i W H'->(∀b,W b->b<H'.au/\(W0 b\/H.au<=b))->Fr (λ b=>W0 b\/O b) H H' ->
   ∃bb H'' W',sD AP L x H' (.ret (.bool bb)) H''/\Fr W H' H''/\(∀b,W' b->b<H''.au/\(W b\/H'.au<=b))/\(bb=B4->R (i+1) W' H'')/\(bb=B2->S W' H'')) ->
  ∃v H' W',CALL AP g (pre++(.fn (.yield L) [] []::cap)) H (.ret v) H'/\Fr (λ b=>W0 b\/O b) H H'/\(∀b,W' b->b<H'.au/\(W0 b\/H.au<=b))/\(R xs.length W' H'\/S W' H')
section
variable{AP:ak}
def xmz{f:Nat}{fn:bV}{k:Nat}{lp:dM}(hf:AP.func f=B1 fn)(hk:nth fn.loops k=B1 lp){tm:T AV}{aZ:List aM}{up:Option aG}{H:ar}{Q:cG}
 {g:Nat} {pre cap:List AV} {N O:Nat->Prop} {H0:ar} {xs:List (List AV)} (mY:pF AP g pre cap N O H0 xs)
 (P:Nat->(Nat->Prop)->ar->Prop) (K:aX->(Nat->Prop)->ar->Prop) (n:Nat->Prop)
 (hn:H0.au<=H.au) (hN:∀b,N b\/O b->b<H0.au/\H.get b=H0.get b /\ ¬n b) (y:∀b,n b->b<H.au) (h0:P 0 n H)
 (loc:∀i W H H',P i W H->(∀b,W b->H'.get b=H.get b)->H.au<=H'.au->P i W H') (z:∀e W H H',K e W H->(∀b,W b->H'.get b=H.get b)->H.au<=H'.au->K e W H')
 (R:∀(L d i:Nat)x,xs[i]? = B1 x->H.au<=L -> ∀W H1,P i W H1->(∀b,W b->b<H1.au/\(n b\/H.au<=b))->Fr (λ b=>n b\/O b) H H1 -> ¬W L->L<H1.au->H1.get L=B1 (.loop .ready B5 f k tm d) ->
  ∃U,Ml tm lp.params x=B1 U/\WP AP ⟨B1 L,f⟩ lp.assign ⟨U,[],B5,H1⟩ λ e cW=>e=.normal/\cW.H.get L=B1 (.loop .ready B5 f k tm d) /\
   WP AP ⟨B1 L,f⟩ lp.body ⟨cW.tm,cW.aZ,cW.up,cW.H.set L (.loop .busy B5 f k tm d)⟩ λ e2 a=>a.aZ=[]/\a.H.get L=B1 (.loop .busy B5 f k tm d) /\
    ∃W':Nat->Prop,(∀b,W' b->b<a.H.au/\(W b\/H1.au<=b))/\Fr (λ b=>W b\/b=L) H1 a.H/\(e2=.normal/\P (i+1) W' a.H\/gE e2/\K e2 W' a.H))
 (Z:∀d W' H',H.au<=d->d<H'.au->H'.get d=B1 (.deferred (B1 []))->Fr (λ b=>n b\/O b) H H'->(∀b,W' b->b<H'.au/\(n b\/H.au<=b)/\b≠d)->P xs.length W' H'->Q .normal ⟨tm,.jJ d::aZ,up,H'⟩)
 (S:∀e d W' H',gE e->H.au<=d->d<H'.au->H'.get d=B1 (.deferred (B1 []))->Fr (λ b=>n b\/O b) H H'->(∀b,W' b->b<H'.au/\(n b\/H.au<=b)/\b≠d)->K e W' H'->Q e ⟨tm,.jJ d::aZ,up,H'⟩) :
 J0 AP ⟨B5,f⟩ k ⟨tm,aZ,up,H⟩ Q (.fn (.func g) pre cap):=by
 let d:=H.au
 let L:=H.au+1
 let Hd:=H.alloc (.deferred (B1 []))
 let HL:=Hd.alloc (.loop .ready B5 f k tm d)
 have c:HL.au=H.au+2:=rfl;have hgL:HL.get L=B1 (.loop .ready B5 f k tm d):=xt Hd _;have hgd:HL.get d=B1 (.deferred (B1 [])):=by rw[show HL.get d=Hd.get d from wN (by show H.au<H.au+1;omega) _];exact xt H _
 have hfr0:Fr Em H HL:=((Fr.refl H).alloc _).alloc _;have hold:∀b,b<H.au->HL.get b=H.get b:=λ b hb=>hfr0.ah b hb (λ q=>q);have⟨v,H',W',hc,D,C,hres⟩:=mY L
  (λ i W H'=>∃V:Nat->Prop,(∀b,V b->W b)/\W L /\ ¬V L /\ ¬W d/\(∀b,W b->V b\/b=L)/\P i V H'/\H'.get L=B1 (.loop .ready B5 f k tm d)/\L<H'.au)
  (λ W H'=>∃(V:Nat->Prop)(e:aX)(j:ic),(∀b,V b->W b)/\W L /\ ¬V L /\ ¬W d/\(∀b,W b->V b\/b=L)/\gE e/\kY e=B1 j/\K e V H'/\H'.get L=B1 (.loop .done (B1 j) f k tm d)/\L<H'.au)
  (λ b=>n b\/b=L) HL (by rw[c];omega)
  (λ b hb=>by
   have⟨h1,h2,h3⟩:=hN b hb;exact⟨h1,by rw[hold b (by omega)];exact h2,λ q=>q.elim h3 λ q=>by have:L=H.au+1:=rfl;omega⟩)
  ⟨n,λ b hb=>.inl hb,.inr rfl,λ q=>by have:=y _ q;have:L=H.au+1:=rfl;omega,λ q=>q.elim (λ q=>by have:=y _ q;have:d=H.au:=rfl;omega) λ q=>by have:d=H.au:=rfl;have:L=H.au+1:=rfl;omega,
   λ b hb=>hb,loc 0 n H HL h0 (λ b hb=>hold b (y b hb)) (by rw[c];omega),hgL,by rw[c];show H.au+1<H.au+2;omega⟩
  (λ b hb=>hb.elim (λ q=>by have:=y b q;rw[c];omega) λ q=>by rw[c,q];show H.au+1<H.au+2;omega)
  (λ i W H1 t⟨V,v1,v2,w,v4,X,v6,B,F⟩hs hle=>⟨V,v1,v2,w,v4,X,loc i V H1 t v6 (λ b hb=>hs b (v1 b hb)) hle,by rw[hs L v2];exact B,qn F hle⟩)
  (λ W H1 t⟨V,e,j,v1,v2,w,v4,X,v6,B,F,v9,v10⟩hs hle=>⟨V,e,j,v1,v2,w,v4,X,v6,B,z e V H1 t F (λ b hb=>hs b (v1 b hb)) hle,by rw[hs L v2];exact v9,qn v10 hle⟩)
  (λ i x hx W H1⟨V,v1,v2,w,v4,X,v6,B,F⟩hb G=>by
   have hLn0:L=H.au+1:=rfl;have hfr1:Fr (λ b=>n b\/O b) H H1:=⟨ze (by rw[c];omega) G.au,λ b hb hw=>by rw[G.ah b (by rw[c];omega) (λ q=>q.elim (λ q=>q.elim (λ q=>hw (.inl q)) λ q=>by omega) λ q=>hw (.inr q)),hold b hb]⟩
   have hbV:∀b,V b->b<H1.au/\(n b\/H.au<=b):=λ b q=>⟨(hb b (v1 b q)).1,(hb b (v1 b q)).2.elim (λ r=>r.elim .inl λ r=>by subst r;exact(w q).elim) λ r=>.inr (by rw[c]at r;omega)⟩
   have⟨U,hbp,hw⟩:=R L d i x hx (by show H.au<=H.au+1;omega) V H1 v6 hbV hfr1 w F B;obtain⟨e,t,hr,bb,rfl,l,k1,k2,k3,k4⟩:=W2 (Q:=λ e t=>∃bb,e=.ret (.bool bb) /\ ∃l:Nat->Prop,Fr W H1 t/\(∀b,l b->b<t.au/\(W b\/H1.au<=b)) /\
    (bb=B4 -> ∃V:Nat->Prop,(∀b,V b->l b)/\l L /\ ¬V L /\ ¬l d/\(∀b,l b->V b\/b=L)/\P (i+1) V t/\t.get L=B1 (.loop .ready B5 f k tm d)/\L<t.au) /\
    (bb=B2 -> ∃(V:Nat->Prop)(e:aX)(j:ic),(∀b,V b->l b)/\l L /\ ¬V L /\ ¬l d/\(∀b,l b->V b\/b=L)/\gE e/\kY e=B1 j/\K e V t/\t.get L=B1 (.loop .done (B1 j) f k tm d)/\L<t.au)) B hf hk hbp
    (pV hw λ e cW⟨he,hgl,hw2⟩=>by
     subst he;show bQ aH (beginRound cW.H L) _;have:beginRound cW.H L=B1 (cW.H.set L (.loop .busy B5 f k tm d)):=by unfold beginRound;rw[hgl]
     rw[this];refine pV hw2 λ e2 a⟨hd2,hg2,W',w1,w2,w3⟩=>⟨hd2,?_⟩
     have M:L<a.H.au:=qn F w2.au;have hd1:d<H1.au:=by have:d=H.au:=rfl;have:L=H.au+1:=rfl;omega
     have fin:∀s p,Fr W H1 (a.H.set L (.loop s p f k tm d)):=λ s p=>⟨w2.au,λ b hb hw=>by
      rw[ar.aJ,qt (by rintro rfl;exact hw v2)];exact w2.ah b hb λ q=>q.elim (λ q=>hw (v1 b q)) λ q=>hw (by rw[q];exact v2)⟩
     have hW'L:∀b,(W' b/\b≠L)->(a.H.set L (.loop .ready B5 f k tm d)).get b=a.H.get b:=λ b hb=>by rw[ar.aJ,qt (λ q=>hb.2 q.symm)]
     have E:¬W' L:=λ q=>by
      rcases(w1 L q).2 with q|q
      .exact w q
      .omega
     have hnd:¬W' d:=λ q=>by
      rcases(w1 d q).2 with q|q
      .exact v4 (v1 d q)
      .omega
     have u:d≠L:=by show H.au≠H.au+1;omega
     have bounds:∀b,(W' b\/b=L)->b<a.H.au/\(W b\/H1.au<=b):=λ b hb=>hb.elim (λ q=>⟨(w1 b q).1,(w1 b q).2.imp (v1 b) id⟩) λ q=>by subst q;exact⟨M,.inl v2⟩
     rcases w3 with⟨rfl,w3⟩|⟨hj,w3⟩
     .show bQ aH (cO a.H L (cond B4 .ready .done) B5) _;have:cO a.H L .ready B5=B1 (a.H.set L (.loop .ready B5 f k tm d)):=by unfold cO;rw[hg2]
      rw[xw,this];refine⟨B4,rfl,λ b=>W' b\/b=L,fin _ _,bounds,λ _=>⟨W',λ b hb=>.inl hb,.inr rfl,E,λ q=>q.elim hnd u,λ b hb=>hb,loc _ _ _ _ w3 (λ b hb=>by rw[ar.aJ,qt (by rintro rfl;exact E hb)]) (qm _),xj _ _ _,M⟩,λ h=>by cases h⟩
     .obtain ⟨j,hj2⟩:∃j,kY e2=B1 j:=by cases e2<;>first|exact hj.elim|exact⟨_,rfl⟩
      have hnn:zZ e2=false:=by cases e2<;>first|exact hj.elim|rfl
      have m:∀(A:Prop),(bQ aH (cO a.H L (cond (zZ e2) .ready .done) (kY e2)) λ H=>∃bb,(bH.ret (.bool (zZ e2))=.ret (.bool bb)) /\ ∃l:Nat->Prop,Fr W H1 H/\(∀b,l b->b<H.au/\(W b\/H1.au<=b)) /\
       (bb=B4 -> ∃V:Nat->Prop,(∀b,V b->l b)/\l L /\ ¬V L /\ ¬l d/\(∀b,l b->V b\/b=L)/\P (i+1) V H/\H.get L=B1 (.loop .ready B5 f k tm d)/\L<H.au) /\
       (bb=B2 -> ∃(V:Nat->Prop)(e:aX)(j:ic),(∀b,V b->l b)/\l L /\ ¬V L /\ ¬l d/\(∀b,l b->V b\/b=L)/\gE e/\kY e=B1 j/\K e V H/\H.get L=B1 (.loop .done (B1 j) f k tm d)/\L<H.au)):=λ _=>by
       have:cO a.H L .done (B1 j)=B1 (a.H.set L (.loop .done (B1 j) f k tm d)):=by unfold cO;rw[hg2]
       rw[hnn,hj2,zm,this];refine⟨B2,rfl,λ b=>W' b\/b=L,fin _ _,bounds,λ h=>(by cases h),λ _=>⟨W',e2,j,λ b hb=>.inl hb,.inr rfl,E,λ q=>q.elim hnd u,λ b hb=>hb,hj,hj2,z _ _ _ _ w3 (λ b hb=>by rw[ar.aJ,qt (by rintro rfl;exact E hb)]) (qm _),xj _ _ _,M⟩⟩
      cases e2 with
      |normal=>exact hj.elim
      |panic _=>exact hj.elim
      |exit _=>exact m True
      |goto _=>exact m True
      |ret=>exact m True)
   exact⟨bb,t,l,hr,k1,k2,k3,k4⟩)
 have u:d≠L:=by show H.au≠H.au+1;omega
 have hdW:¬((n d\/d=L)\/O d):=λ q=>q.elim (λ q=>q.elim (λ q=>by have:=y _ q;have:d=H.au:=rfl;omega) u) λ q=>by have:=(hN d (.inr q)).1;have:d=H.au:=rfl;omega
 have I:H'.get d=B1 (.deferred (B1 [])):=by rw[D.ah d (by rw[c];show H.au<H.au+2;omega) hdW];exact hgd
 have Y:d<H'.au:=qn (by rw[c];show H.au<H.au+2;omega) D.au;have J:∀(o:bC),Fr (λ b=>n b\/O b) H (H'.set L o):=λ o=>⟨ze (by rw[c];omega) D.au,λ b hb hw=>by
  have:L=H.au+1:=rfl;rw[ar.aJ,qt (by omega),D.ah b (by rw[c];omega) (λ q=>q.elim (λ q=>q.elim (λ q=>hw (.inl q)) λ q=>by omega) λ q=>hw (.inr q)),hold b hb]⟩
 refine⟨.ret v,H',hc,?_⟩;rcases hres with⟨V,v1,v2,w,v4,X,v6,B,F⟩|⟨V,e,j,v1,v2,w,v4,X,v6,B,F,v9,v10⟩
 .refine ⟨.ready,B5,f,k,tm,d,B,by simp,?_⟩;refine Z d V _ (qm _) Y (by rw[ar.aJ,qt (λ q=>u q.symm)];exact I) (J _) (λ b hb=>⟨(C b (v1 b hb)).1,?_,λ q=>v4 (by rw[<-q];exact v1 b hb)⟩) (loc _ _ _ _ v6 (λ b hb=>by rw[ar.aJ,qt (by rintro rfl;exact w hb)]) (qm _));rcases(C b (v1 b hb)).2 with q|q
  .exact q.imp id λ q=>by subst q;exact(w hb).elim
  .rw [c]at q;exact .inr (by omega)
 .refine ⟨.done,B1 j,f,k,tm,d,v9,by simp,?_⟩;have he:rN (B1 j)=e:=by cases e<;>first|exact v6.elim|(cases B;rfl)
  rw[he];refine S e d V _ v6 (qm _) Y (by rw[ar.aJ,qt (λ q=>u q.symm)];exact I) (J _) (λ b hb=>⟨(C b (v1 b hb)).1,?_,λ q=>v4 (by rw[<-q];exact v1 b hb)⟩) (z _ _ _ _ F (λ b hb=>by rw[ar.aJ,qt (by rintro rfl;exact w hb)]) (qm _));rcases(C b (v1 b hb)).2 with q|q
  .exact q.imp id λ q=>by subst q;exact(w hb).elim
  .rw [c]at q;exact .inr (by omega)
def xX:List Nat->List AV->Env->Option Env
 |[],[],E=>B1 E
 |t::ts,v::vs,E=>xX ts vs ((t,v)::E)
 |_,_,_=>B5
def Ve(M:ak)(ctx:Ctx)(b:Kp×ai)(L:Nat)(lr lb:bC)(Q:aI):aI:=λ e E D H=>match e with
 | .normal=>H.get L=B1 lr/\W M ctx b B4 Q E D (H.set L lb)
 |_=>False
def AG(M:ak)(ctx:Ctx)(b:Kp×ai)(L:Nat)(lr lb:bC)(Q:aI)(E:Env)(D:List aM)(H:ar):Ve M ctx b L lr lb Q .normal E D H=(H.get L=B1 lr/\W M ctx b B4 Q E D (H.set L lb)):=propext kq
def OY(P:(Nat->Prop)->ar->Prop)(PS:aX->(Nat->Prop)->ar->Prop)(L:Nat)(lb:bC)(W:Nat->Prop)(H1:ar):aI:=λ e _ D H=>D=[]/\H.get L=B1 lb /\
 ∃W':Nat->Prop,(∀b,W' b->b<H.au/\(W b\/H1.au<=b))/\Fr (λ b=>W b\/b=L) H1 H/\(e=.normal/\P W' H\/gE e/\PS e W' H)
def fZ.cons{ks:List Nat}{E:Env}{tm:T AV}(h:fZ ks E tm){t:Nat}(v:AV)(c:bF t ks=B4):fZ ks ((t,v)::E) (tm.set t v):=λ u x hu=>by
 rw[wX]at hu;split at hu
 .rename_i e;subst e;cases hu;exact⟨by rw[T.aJ,xb rfl],c⟩
 .rename_i e;have⟨a,b⟩:=h u x hu;exact⟨by rw[T.aJ,qt e,a],b⟩
def Vd{ks:List Nat}:∀{ts:List Nat}{vs:List AV}{E b:Env}{tm:T AV},fZ ks E tm->(∀t∈ts,bF t ks=B4)->xX ts vs E=B1 b -> ∃a,Ml tm ts vs=B1 a/\fZ ks b a
 |[],[],E,b,tm,h,ht,hb=>by cases hb;exact⟨tm,rfl,h⟩
 |[],_::_,_,_,_,_,_,hb=>nomatch hb
 |_::_,[],_,_,_,_,_,hb=>nomatch hb
 |t::ts,v::vs,E,b,tm,h,ht,hb=>Vd (ts:=ts) (vs:=vs) (h.cons v (ht t (Js ..))) (λ u hu=>ht u (ww _ hu)) hb
def iE.iter{f:Nat}{fn:bV}{k:Nat}{lp:dM}(hf:AP.func f=B1 fn)(hk:nth fn.loops k=B1 lp){ks:List Nat}{ts:List Nat}(hp:lp.params=ts)(R:∀t∈ts,bF t ks=B4){pa pb:Kp×ai}(ha:pa.1.ah=ks/\pa.2=lp.assign)(hb:pb.1.ah=ks/\pb.2=lp.body)
 {E:Env} {D:List aM} {H:ar} {Q:aI} {g:Nat} {pre cap:List AV} {N O:Nat->Prop} {H0:ar} {xs:List (List AV)} (mY:pF AP g pre cap N O H0 xs)
 (P:Nat->(Nat->Prop)->ar->Prop) (j:aX->(Nat->Prop)->ar->Prop) (a:Nat->Prop)
 (hn:H0.au<=H.au) (hN:∀b,N b\/O b->b<H0.au/\H.get b=H0.get b /\ ¬a b) (C:∀b,a b->b<H.au) (p:P 0 a H)
 (loc:∀i W H H',P i W H->(∀b,W b->H'.get b=H.get b)->H.au<=H'.au->P i W H') (n:∀e W H H',j e W H->(∀b,W b->H'.get b=H.get b)->H.au<=H'.au->j e W H')
 (c:∀(L i:Nat)(lr lb:bC)x,xs[i]? = B1 x->H.au<=L -> ∀W' H1,P i W' H1->(∀b,W' b->b<H1.au/\(a b\/H.au<=b))->Fr (λ b=>a b\/O b) H H1 -> ¬W' L->L<H1.au->H1.get L=B1 lr ->
  ∃o,xX ts x E=B1 o/\W AP ⟨B1 L,f⟩ pa B4 (Ve AP ⟨B1 L,f⟩ pb L lr lb (OY (P (i+1)) j L lb W' H1)) o [] H1)
 (l:∀d W' H',H.au<=d->d<H'.au->H'.get d=B1 (.deferred (B1 []))->Fr (λ b=>a b\/O b) H H'->(∀b,W' b->b<H'.au/\(a b\/H.au<=b)/\b≠d)->P xs.length W' H'->Q .normal E (.jJ d::D) H')
 (h:∀e d W' H',gE e->H.au<=d->d<H'.au->H'.get d=B1 (.deferred (B1 []))->Fr (λ b=>a b\/O b) H H'->(∀b,W' b->b<H'.au/\(a b\/H.au<=b)/\b≠d)->j e W' H'->Q e E (.jJ d::D) H') :
 iE AP ks ⟨B5,f⟩ k E D H Q (.fn (.func g) pre cap):=by
 intro tm up he;refine xmz hf hk mY P j a hn hN C p loc n ?_ (λ d W' H' q r s u w y=>⟨rfl,rfl,l d W' H' q r s u w y⟩) (λ e d W' H' p q r s u w y=>⟨rfl,rfl,h e d W' H' p q r s u w y⟩);intro L d i x hx hL W' H1 hP hW I M B K;have⟨o,A,hw⟩:=c L i (.loop .ready B5 f k tm d) (.loop .busy B5 f k tm d) x hx hL W' H1 hP hW I M B K;have⟨T,F,G⟩:=Vd he R A;refine⟨T,by rw[hp];exact F,?_⟩;rw[lS]at hw;have:=W3.wp _ _ (qm _) (up:=B5) hw (by rw[ha.1];exact G);rw[ha.2]at this;refine pV this λ e cW⟨S,X,z,U⟩=>?_;cases e with
 |normal =>
  have⟨hg,m⟩:=U;refine⟨rfl,hg,?_⟩;rw[lS]at m;have:=W3.wp _ _ (qm _) (up:=B5) m (show fZ pb.1.ah X cW.tm by rw[hb.1,<-ha.1];exact z);rw[hb.2]at this;rw[S];refine pV this λ e2 st2⟨V,E2,Z,hd,J,Y,k1,k2,k3⟩=>⟨hd,J,Y,k1,k2,k3⟩
 |_=>exact U.elim
def G6(rs:List ei)(Q:bH->ar->Prop)(E:Env)(d:Nat)(H:ar):eX AP rs Q .ret E [.jJ d] H=(H.get d=B1 (.deferred (B1 []))/\jK E (H.set d (.deferred B5)) rs λ l=>Q (.ret (jN l)) (H.set d (.deferred B5))):=propext kq
end
end Go.Am
namespace Go.Am
structure Act where
 kind:Int
 core:Int
 n:Int
deriving DecidableEq
def Act.enc(a:Act):List AV:=[.int .i64 a.kind,.int .i64 a.core,.int .i64 a.n]
def Act.len(a:Act):a.enc.length=3:=rfl
def Act.one(a:Act):aQ a.enc=true:=rfl
def xU(b0 b1 b2:Int):Act:=⟨b0 % 4+1,b1 % 4,b2⟩
def bM:List Int->List Act
 |b0::b1::b2::r=>xU b0 b1 b2::bM r
 |_=>[]
def Bytes(bs:List Int):Prop:=∀b∈bs,0<=b/\b<256
def O9:∀(bs:List Int),(bM bs).length=bs.length / 3
 |b0::b1::b2::r=>by rw[bM,zq,O9 r];simp only[zq];omega
 |[]=>rfl
 |[_]=>by simp[bM]
 |[_,_]=>by simp[bM]
def τ:∀(bs:List Int)(i:Nat),3*i+2<bs.length -> ∃a b c,bs[3*i]? = B1 a/\bs[3*i+1]? = B1 b/\bs[3*i+2]? = B1 c/\(bM bs)[i]? = B1 (xU a b c)
 |a::b::c::r,0,h=>⟨a,b,c,rfl,rfl,rfl,rfl⟩
 |a::b::c::r,i+1,h=>by
  obtain⟨d,f,g,j,k,l,m⟩:=τ r i (by simp only[zq]at h;omega);exact⟨d,f,g,j,k,l,m⟩
 |[],i,h=>by simp at h
 |[_],i,h=>by simp at h
 |[_,_],i,h=>by simp at h;omega
def Bytes.get{bs:List Int}(h:Bytes bs){i:Nat}{b:Int}(hb:bs[i]? = B1 b):0<=b/\b<256:=h b (zj hb)
def Jy{b:Int}(h:0<=b):b.tmod 4=b % 4:=P4 h
end Go.Am
namespace Go.Am
def uA(AP:ak)(g:Nat)(pre cap:List AV)(N O:Nat->Prop)(I:ar->Prop)(H0:ar)(xs:List (List AV)):Prop :=
 ∀(L:Nat)(R:Nat->(Nat->Prop)->ar->Prop)(S:(Nat->Prop)->ar->Prop)(W0:Nat->Prop)(H:ar),
  H0.au<=H.au->(∀b,N b\/O b->b<H0.au/\H.get b=H0.get b /\ ¬W0 b)->R 0 W0 H->(∀b,W0 b->b<H.au) ->
  (∀i W H H',R i W H->(∀b,W b->H'.get b=H.get b)->H.au<=H'.au->R i W H')->(∀W H H',S W H->(∀b,W b->H'.get b=H.get b)->H.au<=H'.au->S W H') ->
  (∀i W H',R i W H'->I H') ->
  (∀(i:Nat)x,xs[i]? = B1 x -> ∀W H',R i W H'->(∀b,W b->b<H'.au/\(W0 b\/H.au<=b))->Fr (λ b=>W0 b\/O b) H H' ->
   ∃bb H'' W',sD AP L x H' (.ret (.bool bb)) H''/\Fr W H' H''/\(∀b,W' b->b<H''.au/\(W b\/H'.au<=b))/\(bb=B4->R (i+1) W' H'')/\(bb=B2->S W' H'')) ->
  ∃v H' W',CALL AP g (pre++(.fn (.yield L) [] []::cap)) H (.ret v) H'/\Fr (λ b=>W0 b\/O b) H H'/\(∀b,W' b->b<H'.au/\(W0 b\/H.au<=b))/\(R xs.length W' H'\/S W' H')
section
variable{AP:ak}
def xmy{f:Nat}{fn:bV}{k:Nat}{lp:dM}(hf:AP.func f=B1 fn)(hk:nth fn.loops k=B1 lp){tm:T AV}{aZ:List aM}{up:Option aG}{H:ar}{Q:cG}
 {g:Nat} {pre cap:List AV} {N O:Nat->Prop} {I:ar->Prop} {H0:ar} {xs:List (List AV)} (mY:uA AP g pre cap N O I H0 xs)
 (P:Nat->(Nat->Prop)->ar->Prop) (M:aX->(Nat->Prop)->ar->Prop) (n:Nat->Prop)
 (hn:H0.au<=H.au) (hN:∀b,N b\/O b->b<H0.au/\H.get b=H0.get b /\ ¬n b) (y:∀b,n b->b<H.au) (h0:P 0 n H)
 (loc:∀i W H H',P i W H->(∀b,W b->H'.get b=H.get b)->H.au<=H'.au->P i W H') (z:∀e W H H',M e W H->(∀b,W b->H'.get b=H.get b)->H.au<=H'.au->M e W H') (hI:∀i W H,P i W H->I H)
 (S:∀(L d i:Nat)x,xs[i]? = B1 x->H.au<=L -> ∀W H1,P i W H1->(∀b,W b->b<H1.au/\(n b\/H.au<=b))->Fr (λ b=>n b\/O b) H H1 -> ¬W L->L<H1.au->H1.get L=B1 (.loop .ready B5 f k tm d) ->
  ∃X,Ml tm lp.params x=B1 X/\WP AP ⟨B1 L,f⟩ lp.assign ⟨X,[],B5,H1⟩ λ e cW=>e=.normal/\cW.H.get L=B1 (.loop .ready B5 f k tm d) /\
   WP AP ⟨B1 L,f⟩ lp.body ⟨cW.tm,cW.aZ,cW.up,cW.H.set L (.loop .busy B5 f k tm d)⟩ λ e2 a=>a.aZ=[]/\a.H.get L=B1 (.loop .busy B5 f k tm d) /\
    ∃W':Nat->Prop,(∀b,W' b->b<a.H.au/\(W b\/H1.au<=b))/\Fr (λ b=>W b\/b=L) H1 a.H/\(e2=.normal/\P (i+1) W' a.H\/gE e2/\M e2 W' a.H))
 (hend:∀d W' H',H.au<=d->d<H'.au->H'.get d=B1 (.deferred (B1 []))->Fr (λ b=>n b\/O b) H H'->(∀b,W' b->b<H'.au/\(n b\/H.au<=b)/\b≠d)->P xs.length W' H'->Q .normal ⟨tm,.jJ d::aZ,up,H'⟩)
 (U:∀e d W' H',gE e->H.au<=d->d<H'.au->H'.get d=B1 (.deferred (B1 []))->Fr (λ b=>n b\/O b) H H'->(∀b,W' b->b<H'.au/\(n b\/H.au<=b)/\b≠d)->M e W' H'->Q e ⟨tm,.jJ d::aZ,up,H'⟩) :
 J0 AP ⟨B5,f⟩ k ⟨tm,aZ,up,H⟩ Q (.fn (.func g) pre cap):=by
 let d:=H.au
 let L:=H.au+1
 let Hd:=H.alloc (.deferred (B1 []))
 let HL:=Hd.alloc (.loop .ready B5 f k tm d)
 have c:HL.au=H.au+2:=rfl;have hgL:HL.get L=B1 (.loop .ready B5 f k tm d):=xt Hd _;have hgd:HL.get d=B1 (.deferred (B1 [])):=by rw[show HL.get d=Hd.get d from wN (by show H.au<H.au+1;omega) _];exact xt H _
 have hfr0:Fr Em H HL:=((Fr.refl H).alloc _).alloc _;have hold:∀b,b<H.au->HL.get b=H.get b:=λ b hb=>hfr0.ah b hb (λ q=>q);have⟨v,H',W',hc,E,D,hres⟩:=mY L
  (λ i W H'=>∃V:Nat->Prop,(∀b,V b->W b)/\W L /\ ¬V L /\ ¬W d/\(∀b,W b->V b\/b=L)/\P i V H'/\H'.get L=B1 (.loop .ready B5 f k tm d)/\L<H'.au)
  (λ W H'=>∃(V:Nat->Prop)(e:aX)(j:ic),(∀b,V b->W b)/\W L /\ ¬V L /\ ¬W d/\(∀b,W b->V b\/b=L)/\gE e/\kY e=B1 j/\M e V H'/\H'.get L=B1 (.loop .done (B1 j) f k tm d)/\L<H'.au)
  (λ b=>n b\/b=L) HL (by rw[c];omega)
  (λ b hb=>by
   have⟨h1,h2,h3⟩:=hN b hb;exact⟨h1,by rw[hold b (by omega)];exact h2,λ q=>q.elim h3 λ q=>by have:L=H.au+1:=rfl;omega⟩)
  ⟨n,λ b hb=>.inl hb,.inr rfl,λ q=>by have:=y _ q;have:L=H.au+1:=rfl;omega,λ q=>q.elim (λ q=>by have:=y _ q;have:d=H.au:=rfl;omega) λ q=>by have:d=H.au:=rfl;have:L=H.au+1:=rfl;omega,
   λ b hb=>hb,loc 0 n H HL h0 (λ b hb=>hold b (y b hb)) (by rw[c];omega),hgL,by rw[c];show H.au+1<H.au+2;omega⟩
  (λ b hb=>hb.elim (λ q=>by have:=y b q;rw[c];omega) λ q=>by rw[c,q];show H.au+1<H.au+2;omega)
  (λ i W H1 t⟨V,v1,v2,u,v4,Y,v6,B,C⟩hs hle=>⟨V,v1,v2,u,v4,Y,loc i V H1 t v6 (λ b hb=>hs b (v1 b hb)) hle,by rw[hs L v2];exact B,qn C hle⟩)
  (λ W H1 t⟨V,e,j,v1,v2,u,v4,Y,v6,B,C,v9,v10⟩hs hle=>⟨V,e,j,v1,v2,u,v4,Y,v6,B,z e V H1 t C (λ b hb=>hs b (v1 b hb)) hle,by rw[hs L v2];exact v9,qn v10 hle⟩)
  (λ i W H1⟨V,v1,v2,u,v4,Y,v6,B,C⟩=>hI i V H1 v6)
  (λ i x hx W H1⟨V,v1,v2,u,v4,Y,v6,B,C⟩hb G=>by
   have hLn0:L=H.au+1:=rfl;have hfr1:Fr (λ b=>n b\/O b) H H1:=⟨ze (by rw[c];omega) G.au,λ b hb hw=>by rw[G.ah b (by rw[c];omega) (λ q=>q.elim (λ q=>q.elim (λ q=>hw (.inl q)) λ q=>by omega) λ q=>hw (.inr q)),hold b hb]⟩
   have hbV:∀b,V b->b<H1.au/\(n b\/H.au<=b):=λ b q=>⟨(hb b (v1 b q)).1,(hb b (v1 b q)).2.elim (λ r=>r.elim .inl λ r=>by subst r;exact(u q).elim) λ r=>.inr (by rw[c]at r;omega)⟩
   have⟨X,hbp,hw⟩:=S L d i x hx (by show H.au<=H.au+1;omega) V H1 v6 hbV hfr1 u C B;obtain⟨e,t,hr,bb,rfl,l,k1,k2,k3,k4⟩:=W2 (Q:=λ e t=>∃bb,e=.ret (.bool bb) /\ ∃l:Nat->Prop,Fr W H1 t/\(∀b,l b->b<t.au/\(W b\/H1.au<=b)) /\
    (bb=B4 -> ∃V:Nat->Prop,(∀b,V b->l b)/\l L /\ ¬V L /\ ¬l d/\(∀b,l b->V b\/b=L)/\P (i+1) V t/\t.get L=B1 (.loop .ready B5 f k tm d)/\L<t.au) /\
    (bb=B2 -> ∃(V:Nat->Prop)(e:aX)(j:ic),(∀b,V b->l b)/\l L /\ ¬V L /\ ¬l d/\(∀b,l b->V b\/b=L)/\gE e/\kY e=B1 j/\M e V t/\t.get L=B1 (.loop .done (B1 j) f k tm d)/\L<t.au)) B hf hk hbp
    (pV hw λ e cW⟨he,hgl,hw2⟩=>by
     subst he;show bQ aH (beginRound cW.H L) _;have:beginRound cW.H L=B1 (cW.H.set L (.loop .busy B5 f k tm d)):=by unfold beginRound;rw[hgl]
     rw[this];refine pV hw2 λ e2 a⟨hd2,hg2,W',w1,w2,w3⟩=>⟨hd2,?_⟩
     have R:L<a.H.au:=qn C w2.au;have hd1:d<H1.au:=by have:d=H.au:=rfl;have:L=H.au+1:=rfl;omega
     have fin:∀s p,Fr W H1 (a.H.set L (.loop s p f k tm d)):=λ s p=>⟨w2.au,λ b hb hw=>by
      rw[ar.aJ,qt (by rintro rfl;exact hw v2)];exact w2.ah b hb λ q=>q.elim (λ q=>hw (v1 b q)) λ q=>hw (by rw[q];exact v2)⟩
     have hW'L:∀b,(W' b/\b≠L)->(a.H.set L (.loop .ready B5 f k tm d)).get b=a.H.get b:=λ b hb=>by rw[ar.aJ,qt (λ q=>hb.2 q.symm)]
     have F:¬W' L:=λ q=>by
      rcases(w1 L q).2 with q|q
      .exact u q
      .omega
     have hnd:¬W' d:=λ q=>by
      rcases(w1 d q).2 with q|q
      .exact v4 (v1 d q)
      .omega
     have w:d≠L:=by show H.au≠H.au+1;omega
     have bounds:∀b,(W' b\/b=L)->b<a.H.au/\(W b\/H1.au<=b):=λ b hb=>hb.elim (λ q=>⟨(w1 b q).1,(w1 b q).2.imp (v1 b) id⟩) λ q=>by subst q;exact⟨R,.inl v2⟩
     rcases w3 with⟨rfl,w3⟩|⟨hj,w3⟩
     .show bQ aH (cO a.H L (cond B4 .ready .done) B5) _;have:cO a.H L .ready B5=B1 (a.H.set L (.loop .ready B5 f k tm d)):=by unfold cO;rw[hg2]
      rw[xw,this];refine⟨B4,rfl,λ b=>W' b\/b=L,fin _ _,bounds,λ _=>⟨W',λ b hb=>.inl hb,.inr rfl,F,λ q=>q.elim hnd w,λ b hb=>hb,loc _ _ _ _ w3 (λ b hb=>by rw[ar.aJ,qt (by rintro rfl;exact F hb)]) (qm _),xj _ _ _,R⟩,λ h=>by cases h⟩
     .obtain ⟨j,hj2⟩:∃j,kY e2=B1 j:=by cases e2<;>first|exact hj.elim|exact⟨_,rfl⟩
      have hnn:zZ e2=false:=by cases e2<;>first|exact hj.elim|rfl
      have m:∀(A:Prop),(bQ aH (cO a.H L (cond (zZ e2) .ready .done) (kY e2)) λ H=>∃bb,(bH.ret (.bool (zZ e2))=.ret (.bool bb)) /\ ∃l:Nat->Prop,Fr W H1 H/\(∀b,l b->b<H.au/\(W b\/H1.au<=b)) /\
       (bb=B4 -> ∃V:Nat->Prop,(∀b,V b->l b)/\l L /\ ¬V L /\ ¬l d/\(∀b,l b->V b\/b=L)/\P (i+1) V H/\H.get L=B1 (.loop .ready B5 f k tm d)/\L<H.au) /\
       (bb=B2 -> ∃(V:Nat->Prop)(e:aX)(j:ic),(∀b,V b->l b)/\l L /\ ¬V L /\ ¬l d/\(∀b,l b->V b\/b=L)/\gE e/\kY e=B1 j/\M e V H/\H.get L=B1 (.loop .done (B1 j) f k tm d)/\L<H.au)):=λ _=>by
       have:cO a.H L .done (B1 j)=B1 (a.H.set L (.loop .done (B1 j) f k tm d)):=by unfold cO;rw[hg2]
       rw[hnn,hj2,zm,this];refine⟨B2,rfl,λ b=>W' b\/b=L,fin _ _,bounds,λ h=>(by cases h),λ _=>⟨W',e2,j,λ b hb=>.inl hb,.inr rfl,F,λ q=>q.elim hnd w,λ b hb=>hb,hj,hj2,z _ _ _ _ w3 (λ b hb=>by rw[ar.aJ,qt (by rintro rfl;exact F hb)]) (qm _),xj _ _ _,R⟩⟩
      cases e2 with
      |normal=>exact hj.elim
      |panic _=>exact hj.elim
      |exit _=>exact m True
      |goto _=>exact m True
      |ret=>exact m True)
   exact⟨bb,t,l,hr,k1,k2,k3,k4⟩)
 have w:d≠L:=by show H.au≠H.au+1;omega
 have hdW:¬((n d\/d=L)\/O d):=λ q=>q.elim (λ q=>q.elim (λ q=>by have:=y _ q;have:d=H.au:=rfl;omega) w) λ q=>by have:=(hN d (.inr q)).1;have:d=H.au:=rfl;omega
 have J:H'.get d=B1 (.deferred (B1 [])):=by rw[E.ah d (by rw[c];show H.au<H.au+2;omega) hdW];exact hgd
 have Z:d<H'.au:=qn (by rw[c];show H.au<H.au+2;omega) E.au;have K:∀(o:bC),Fr (λ b=>n b\/O b) H (H'.set L o):=λ o=>⟨ze (by rw[c];omega) E.au,λ b hb hw=>by
  have:L=H.au+1:=rfl;rw[ar.aJ,qt (by omega),E.ah b (by rw[c];omega) (λ q=>q.elim (λ q=>q.elim (λ q=>hw (.inl q)) λ q=>by omega) λ q=>hw (.inr q)),hold b hb]⟩
 refine⟨.ret v,H',hc,?_⟩;rcases hres with⟨V,v1,v2,u,v4,Y,v6,B,C⟩|⟨V,e,j,v1,v2,u,v4,Y,v6,B,C,v9,v10⟩
 .refine ⟨.ready,B5,f,k,tm,d,B,by simp,?_⟩;refine hend d V _ (qm _) Z (by rw[ar.aJ,qt (λ q=>w q.symm)];exact J) (K _) (λ b hb=>⟨(D b (v1 b hb)).1,?_,λ q=>v4 (by rw[<-q];exact v1 b hb)⟩) (loc _ _ _ _ v6 (λ b hb=>by rw[ar.aJ,qt (by rintro rfl;exact u hb)]) (qm _));rcases(D b (v1 b hb)).2 with q|q
  .exact q.imp id λ q=>by subst q;exact(u hb).elim
  .rw [c]at q;exact .inr (by omega)
 .refine ⟨.done,B1 j,f,k,tm,d,v9,by simp,?_⟩;have he:rN (B1 j)=e:=by cases e<;>first|exact v6.elim|(cases B;rfl)
  rw[he];refine U e d V _ v6 (qm _) Z (by rw[ar.aJ,qt (λ q=>w q.symm)];exact J) (K _) (λ b hb=>⟨(D b (v1 b hb)).1,?_,λ q=>v4 (by rw[<-q];exact v1 b hb)⟩) (z _ _ _ _ C (λ b hb=>by rw[ar.aJ,qt (by rintro rfl;exact u hb)]) (qm _));rcases(D b (v1 b hb)).2 with q|q
  .exact q.imp id λ q=>by subst q;exact(u hb).elim
  .rw [c]at q;exact .inr (by omega)
def iE.uz{f:Nat}{fn:bV}{k:Nat}{lp:dM}(hf:AP.func f=B1 fn)(hk:nth fn.loops k=B1 lp){ks:List Nat}{ts:List Nat}(hp:lp.params=ts)(S:∀t∈ts,bF t ks=B4){pa pb:Kp×ai}(ha:pa.1.ah=ks/\pa.2=lp.assign)(hb:pb.1.ah=ks/\pb.2=lp.body)
 {E:Env} {D:List aM} {H:ar} {Q:aI} {g:Nat} {pre cap:List AV} {N O:Nat->Prop} {I:ar->Prop} {H0:ar} {xs:List (List AV)} (mY:uA AP g pre cap N O I H0 xs)
 (P:Nat->(Nat->Prop)->ar->Prop) (j:aX->(Nat->Prop)->ar->Prop) (a:Nat->Prop)
 (hn:H0.au<=H.au) (hN:∀b,N b\/O b->b<H0.au/\H.get b=H0.get b /\ ¬a b) (C:∀b,a b->b<H.au) (p:P 0 a H)
 (loc:∀i W H H',P i W H->(∀b,W b->H'.get b=H.get b)->H.au<=H'.au->P i W H') (n:∀e W H H',j e W H->(∀b,W b->H'.get b=H.get b)->H.au<=H'.au->j e W H') (hI:∀i W H,P i W H->I H)
 (c:∀(L i:Nat)(lr lb:bC)x,xs[i]? = B1 x->H.au<=L -> ∀W' H1,P i W' H1->(∀b,W' b->b<H1.au/\(a b\/H.au<=b))->Fr (λ b=>a b\/O b) H H1 -> ¬W' L->L<H1.au->H1.get L=B1 lr ->
  ∃o,xX ts x E=B1 o/\W AP ⟨B1 L,f⟩ pa B4 (Ve AP ⟨B1 L,f⟩ pb L lr lb (OY (P (i+1)) j L lb W' H1)) o [] H1)
 (l:∀d W' H',H.au<=d->d<H'.au->H'.get d=B1 (.deferred (B1 []))->Fr (λ b=>a b\/O b) H H'->(∀b,W' b->b<H'.au/\(a b\/H.au<=b)/\b≠d)->P xs.length W' H'->Q .normal E (.jJ d::D) H')
 (h:∀e d W' H',gE e->H.au<=d->d<H'.au->H'.get d=B1 (.deferred (B1 []))->Fr (λ b=>a b\/O b) H H'->(∀b,W' b->b<H'.au/\(a b\/H.au<=b)/\b≠d)->j e W' H'->Q e E (.jJ d::D) H') :
 iE AP ks ⟨B5,f⟩ k E D H Q (.fn (.func g) pre cap):=by
 intro tm up he;refine xmy hf hk mY P j a hn hN C p loc n hI ?_ (λ d W' H' q r s u w y=>⟨rfl,rfl,l d W' H' q r s u w y⟩) (λ e d W' H' p q r s u w y=>⟨rfl,rfl,h e d W' H' p q r s u w y⟩);intro L d i x hx hL W' H1 hP hW J R B M;have⟨o,A,hw⟩:=c L i (.loop .ready B5 f k tm d) (.loop .busy B5 f k tm d) x hx hL W' H1 hP hW J R B M;have⟨U,F,G⟩:=Vd he S A;refine⟨U,by rw[hp];exact F,?_⟩;rw[lS]at hw;have:=W3.wp _ _ (qm _) (up:=B5) hw (by rw[ha.1];exact G);rw[ha.2]at this;refine pV this λ e cW⟨T,Y,z,V⟩=>?_;cases e with
 |normal =>
  have⟨hg,m⟩:=V;refine⟨rfl,hg,?_⟩;rw[lS]at m;have:=W3.wp _ _ (qm _) (up:=B5) m (show fZ pb.1.ah Y cW.tm by rw[hb.1,<-ha.1];exact z);rw[hb.2]at this;rw[T];refine pV this λ e2 st2⟨X,E2,hE2,hd,K,Z,k1,k2,k3⟩=>⟨hd,K,Z,k1,k2,k3⟩
 |_=>exact V.elim
end
end Go.Am
namespace Go.Am
def xcu{α:Type}{L E:List α}{p size:Nat}(c:E.length=size)(hp:p+size<=L.length)(h:∀r,r<size->L[p+r]? = E[r]?):L=L.take p++(E++L.drop (p+size)):=by
 have a:(L.drop p).take size=E:=by
  refine yu λ r=>?_;rcases xx r size with q|q
  .rw [yw,xb q,vc,h r q]
  .rw [z4 (by rw[jd];omega),z4 (by omega)]
 have b:L.drop p=E++L.drop (p+size):=by
  rw[<-a,<-Ax,vd]
 rw[<-b,vd]
def Fo{α:Type}{L E cs:List α}{p size j n:Nat}(d:E.length=size)(f:cs.length=n)(g:j+n<=size)(hp:p+size<=L.length)(h:∀r,r<size->L[p+r]? = E[r]?) :
 L.take (p+j)++cs++L.drop (p+j+n)=L.take p++((E.take j++cs++E.drop (j+n))++L.drop (p+size)):=by
 obtain⟨A,a⟩:∃A,A=L.take p:=⟨_,rfl⟩
 obtain⟨B,c⟩:∃B,B=L.drop (p+size):=⟨_,rfl⟩
 have hl:A.length=p:=by rw[a,jd];omega
 have b:=xcu d hp h;rw[<-a,<-c]at b;rw[<-a,<-c];have e1:L.take (p+j)=A++E.take j:=by
  rw[b,Oh,hl,zp (by omega),ve,ki (by omega)]
 have e2:L.drop (p+j+n)=E.drop (j+n)++B:=by
  rw[b,BE,hl,jr (by omega),jc,show p+j+n-p=j+n by omega,y9 (by omega)]
 rw[e1,e2];simp
section
variable{α:Type}{enc:α->List AV}{size:Nat}{H:ar}{v:AV}{xs:List α}
def xlo(hs:∀x,(enc x).length=size){i:Nat}{x y:α}(a:xs[i]? = B1 x){j n:Nat}{cs:List AV}(b:cs.length=n)(d:j+n<=size)(f:enc y=(enc x).take j++cs++(enc x).drop (j+n)) :
 (xs.flatMap enc).take (i*size+j)++cs++(xs.flatMap enc).drop (i*size+j+n)=(xs.set i y).flatMap enc:=by
 have c:=CK a;have hb:(i+1)*size<=xs.length*size:=jo _ c;rw[vE]at hb;have hl:=IZ hs xs;rw[Fo (E:=enc x) (size:=size) (hs x) b d (by omega) (λ r hr=>JG hs xs a hr),<-f,Tr hs xs a];simp[zy]
def gU.Io{e:Nat}(hs:∀x,(enc x).length=size)(h:gU enc e size H v xs){i:Nat}{x y:α}(d:xs[i]? = B1 x){j n:Nat}{u:AV}(hu:u.cells.length=n)(ho:aQ u.cells=B4)(l:j+n<=size)(m:enc y=(enc x).take j++u.cells++(enc x).drop (j+n)) :
 ∃H',Op.store n [.ptr (aC v) (cX size v i+j),u] H=B1 (.undef,H')/\gU enc e size H' v (xs.set i y)/\Fr (On (aC v)) H H':=by
 obtain⟨b,rfl,f,g⟩:=h;have k:=CK d;have hl:=IZ hs xs;have hb:(i+1)*size<=xs.length*size:=jo _ k;rw[vE]at hb;have c:=wW g (o:=i*size+j) (n:=n) (v:=u) hu (by omega) ho;have a:cX size (AV.slice b 0 xs.length xs.length) i=i*size:=by simp[cX]
 rw[a];refine⟨_,c,⟨b,?_,f,?_⟩,(Fr.refl H).set (W:=On b) (.inl rfl) _⟩
 .rw [xq]
 .rw [xj,xlo hs d hu l m]
def gU.Pk{e:Nat}(hs:∀x,(enc x).length=size)(ho:∀x,aQ (enc x)=B4)(h:gU enc e size H v xs){i:Nat}{x:α}(a:xs[i]? = B1 x)(y:α) :
 ∃H',Op.store size [.ptr (aC v) (cX size v i),.agg (enc y)] H=B1 (.undef,H')/\gU enc e size H' v (xs.set i y)/\Fr (On (aC v)) H H':=by
 have:=h.Io hs a (y:=y) (j:=0) (n:=size) (u:=.agg (enc y)) (by rw[z7];exact hs y) (by rw[z7];exact ho y) (by omega) (by
  rw[z7,yq,jc,jr (by rw[hs];omega),zt])
 rw[vj]at this;exact this
end
end Go.Am
namespace Go.Am
open Go.Proofs Ca
variable{M:ak}[MK M]
abbrev uW(x:Int):AV:=.int .u64 x
def aD(e:En):List AV:=.int .i64 e.line::.int .i64 e.st::.bool e.r::.bool e.w::(e.d.l.map uW++(e.o.l.map uW ++ [.int .i64 e.u]))
def jx(e:En):(aD e).length=21:=by simp[aD,e.d.h,e.o.h]
def zY(e:En):aQ (aD e)=true:=by
 rw[vz];unfold aD;simp[az]
def Nq{H:ar}{s e:Nat}{a:AV}(h:H.get s=B1 (OR [a] e)){u:AV}(hu:az u=B4):Op.store 1 [.ptr s 0,u] H=B1 (.undef,H.set s (OR [u] e)):=by
 have d:u.cells=[u]:=by cases u<;>first|rfl|cases hu
 have:=wW h (o:=0) (n:=1) (v:=u) (by rw[d];rfl) (by simp) (by rw[d,vz];simpa using hu);rw[this,d];rfl
def QM(b:ai)(Q:aI)(E:Env)(D:List aM)(H:ar):kK b Q .normal E D H=Q .normal E D H:=rfl
def EN(b:ai)(Q:aI)(E:Env)(D:List aM)(H:ar):kK b Q .ret E D H=Q .ret E D H:=rfl
def FK(c:Ca)(sv:AV):List AV:=[.int .i64 (c.fQ:Int),.int .i64 (c.ways:Int),sv,.int .i64 c.us]
abbrev eA(sv:AV)(i:Nat):AV:=.ptr (aC sv) (cX 21 sv i)
structure dY(H:ar)(b:Nat)(sv:AV)(c:Ca):Prop where
 row:H.get b=B1 (OR (FK c sv) We)
 lt:b<H.au
 sl:gU aD xv 21 H sv c.sl
 ne:aC sv≠b
 s8:c.fQ<=8
 w4:c.ways<=4
 us:0<=c.us/\c.us<=1000000
def dY.em{H H':ar}{b:Nat}{sv:AV}{c:Ca}(h:dY H b sv c)(f:Fr Em H H'):dY H' b sv c:=⟨by rw[f.ah _ h.lt id];exact h.row,qn h.lt f.au,h.sl.fr f id,h.ne,h.s8,h.w4,h.us⟩
def dY.fr{H H':ar}{W:Nat->Prop}{b:Nat}{sv:AV}{c:Ca}(h:dY H b sv c)(f:Fr W H H')(a:¬W b)(d:¬W (aC sv)):dY H' b sv c:=⟨by rw[f.ah _ h.lt a];exact h.row,qn h.lt f.au,h.sl.fr f d,h.ne,h.s8,h.w4,h.us⟩
def dY.ix{H:ar}{b:Nat}{sv:AV}{c:Ca}(h:dY H b sv c){i:Nat}(a:i<c.sl.length):Op.aP 21 [sv,.int .i64 (i:Int)]=B1 (eA sv i):=(h.sl.sl jx).idx (FN a) rfl .i64
def dY.ld{H:ar}{b:Nat}{sv:AV}{c:Ca}(h:dY H b sv c){i:Nat}(a:i<c.sl.length){k:Nat}(hk:k<21):Op.ae [.ptr (aC sv) (cX 21 sv i+k)] H=(aD (c.en i))[k]?:=(h.sl.sl jx).ae jx (FN a) hk
def dY.zB{H:ar}{b:Nat}{sv:AV}{c:Ca}(h:dY H b sv c){i:Nat}(a:i<c.sl.length):Op.ae [.ptr (aC sv) (cX 21 sv i)] H=B1 (.int .i64 (c.en i).line):=(h.sl.sl jx).iS jx (FN a) (by decide)
def vg(b o:Nat)(H:ar):Op.eq .ptr B2 [.ptr b o,.nilp] H=B1 (.bool B2):=rfl
def lQ(b o:Nat)(H:ar):Op.eq .ptr B4 [.ptr b o,.nilp] H=B1 (.bool B4):=rfl
def Sc(H:ar):Op.eq .ptr B2 [.nilp,.nilp] H=B1 (.bool B4):=rfl
def ur(H:ar):Op.eq .ptr B4 [.nilp,.nilp] H=B1 (.bool B2):=rfl
def HX(R:Nat->(Nat->Prop)->ar->Prop)(S:(Nat->Prop)->ar->Prop)(W0 O:Nat->Prop)(H:ar)(n:Nat)(v:AV)(H':ar):Prop:=∃W':Nat->Prop,Fr (λ b=>W0 b\/O b) H H'/\(∀b,W' b->b<H'.au/\(W0 b\/H.au<=b))/\(R n W' H'\/S W' H')
def pY(c:Ca)(sv:AV)(line:Int):List (List AV):=if line<0 then[]else(N1 c.ways).map λ k=>[eA sv (c.fr line+k)]
structure Oi(R:Nat->(Nat->Prop)->ar->Prop)(W0:Nat->Prop)(H1 Hx:ar)(i:Nat)(V:Nat->Prop):Prop where
 hR:R i V Hx
 hV:∀b,V b->b<Hx.au/\(W0 b\/H1.au<=b)
 fr:Fr W0 H1 Hx
def xdm{H0:ar}{p q b:Nat}{sv:AV}{c:Ca}{lines line:Int}(g:dY H0 b sv c)(e:CI lines c)(hp:H0.get p=B1 (OR [.ptr b 0] BT))(hq:H0.get q=B1 (OR [.int .i64 line] bU))(hpl:p<H0.au)(hql:q<H0.au) :
 pF M Lr [] [.ptr p 0,.ptr q 0] (λ x=>x=p\/x=q\/x=b) (λ _=>False) H0 (pY c sv line):=by
 intro Y R S d H1 hnx A m r loc O step;have⟨p1,p2,p3⟩:=A p (.inl (.inl rfl));have⟨Q,F,G⟩:=A q (.inl (.inr (.inl rfl)));have⟨b1,T,U⟩:=A b (.inl (.inr (.inr rfl)))
 suffices h:zk M Lr [.fn (.yield Y) [] [],.ptr p 0,.ptr q 0] H1 (HX R S d (λ _=>False) H1 (pY c sv line).length)by
  have⟨v,H',g,W',Q,F,G⟩:=h.elim;exact⟨v,H',W',g,Q,F,G⟩
 refine q0c ?_;obtain⟨w0,w6,u,I,J⟩:=q0d M ⟨B5,Lr⟩;have lp:∀{a:ar},Fr d H1 a->Op.ae [.ptr p 0] a=B1 (.ptr b 0):=λ f=>by rw[zh (xf (by rw[f.ah _ (by omega) p3,p2];exact hp))];rfl
 have P:∀{a:ar},Fr d H1 a->Op.ae [.ptr q 0] a=B1 (.int .i64 line):=λ f=>by rw[zh (xf (by rw[f.ah _ (by omega) G,F];exact hq))];rfl
 have lb:∀{a:ar}(k:Nat),Fr d H1 a->Op.ae [.ptr b k] a=(FK c sv)[k]?:=λ k f=>zh (xf (by rw[f.ah _ (by omega) U,T];exact g.row)) k;have j:=Fr.refl (W:=d) H1
 by_cases hl:line<0
 .simp only[aa,bc,w0,lp j,vg,P j,hl];exact⟨d,Fr.refl _,λ b hb=>⟨r b hb,.inl hb⟩,.inl (by unfold pY;rw[xb hl];exact m)⟩
 have D:(pY c sv line)=(N1 c.ways).map λ k=>[eA sv (c.fr line+k)]:=by unfold pY;rw[qt hl]
 rw[D]at step⊢;rw[xu,jf];have l0:Op.ae [.ptr b 0] H1=B1 (.int .i64 (c.fQ:Int)):=lb 0 j;have l1:Op.ae [.ptr b 1] H1=B1 (.int .i64 (c.ways:Int)):=lb 1 j;have rm:Op.bin .rem [.int .i64 line,.int .i64 (c.fQ:Int)]=B1 (.int .i64 ((line.toNat % c.fQ:Nat):Int)):=by
  have:=e.s0;obtain⟨n,rfl⟩:=jt (HD.1 hl);rw[sL .i64 _ _ (by omega)];rfl
 have N:line.toNat % c.fQ<c.fQ:=Nat.mod_lt _ e.s0;have h8:=g.s8;have X:=g.w4;have B:(line.toNat % c.fQ)*c.ways<=7*4:=Nat.mul_le_mul (by omega) X;have wm:aj .i64 (((line.toNat % c.fQ:Nat):Int)*(c.ways:Int))=((c.fr line:Nat):Int):=by
  rw[<-Int.natCast_mul];exact kc (by omega) (by omega)
 have L:c.fr line<=28:=B;simp only[aa,bc,w0,lp j,vg,qv,P j,hl,w6,l0,l1,rm,wm];refine dD.intro (λ n E a=>∃(i:Nat)(V:Nat->Prop),E=[(27,.int .i64 (i:Int)),(26,.int .i64 (c.ways:Int)),(4,.int .i64 ((c.fr line:Nat):Int)),(0,.fn (.yield Y) [] []),(1,.ptr p 0)]/\n=c.ways-i/\i<=c.ways/\Oi R d H1 a i V) ?_ ?_
 .exact ⟨_,_,⟨0,d,rfl,rfl,x9 _,⟨m,λ b hb=>⟨r b hb,.inl hb⟩,Fr.refl _⟩⟩,by simp only[aa,bc]⟩
 rintro n E a ⟨i,V,rfl,rfl,hi,hI⟩;rcases xx i c.ways with t|hge
 .have z:(i:Int)<(c.ways:Int):=by omega
  have l2:Op.ae [.ptr b 2] a=B1 sv:=lb 2 hI.fr;have wi:aj .i64 (((c.fr line:Nat):Int)+(i:Int))=((c.fr line+i:Nat):Int):=by rw[kc (by omega) (by omega)];omega
  have ix:=g.ix (e.lH line t);have⟨bb,K,y,hr,Z,s,ht,hs⟩:=step i [eA sv (c.fr line+i)] (by rw[xk,jp t];rfl) V a hI.hR hI.hV (hI.fr.mono λ _ _ q=>.inl q);have l:Fr d H1 K:=hI.fr.trans Z λ b q=>(hI.hV b q).2;have o:∀b,y b->b<K.au/\(d b\/H1.au<=b):=λ b q=>⟨(s b q).1,(s b q).2.elim (λ w=>(hI.hV b w).2) λ w=>.inr (ze hI.fr.au w)⟩
  have wj:aj .i64 ((i:Int)+1)=((i+1:Nat):Int):=by rw[kc (by omega) (by omega)];omega
  simp only[aa,bc,u,z,I,lp hI.fr,qv,l2,wi,ix];refine C3.tH hr ?_;cases bb with
  |true =>
   simp only[aa,bc,J,wj];exact⟨_,_,⟨i+1,y,rfl,rfl,by omega,⟨ht rfl,o,l⟩⟩,by simp only[aa,bc],by omega⟩
  |false =>
   simp only[aa,bc];exact⟨y,l.mono λ _ _ q=>.inl q,o,.inr (hs rfl)⟩
 .have z:¬(i:Int)<(c.ways:Int):=by omega
  have C:i=c.ways:=by omega
  simp only[aa,bc,u,z];exact⟨V,hI.fr.mono λ _ _ q=>.inl q,hI.hV,.inl (by rw[<-C];exact hI.hR)⟩
def ν{H:ar}(b:Nat)(line:Int):zk M _Y [.ptr b 0,.int .i64 line] H λ v H'=>v=.fn (.func Lr) [] [.ptr H.au 0,.ptr (H.au+1) 0]/\H'=(H.alloc (OR [.ptr b 0] BT)).alloc (OR [.int .i64 line] bU):=by
 refine q65 ?_;obtain⟨H1,e1,-,n1,-⟩:=cE H (OR [.ptr b 0] BT);have ca:AV.cells (.ptr b 0)=[.ptr b 0]:=rfl;have a:AV.cells (.int .i64 line)=[.int .i64 line]:=rfl;have mk:Op.bt Lr 0 [.ptr H.au 0,.ptr (H.au+1) 0]=B1 (.fn (.func Lr) [] [.ptr H.au 0,.ptr (H.au+1) 0]):=rfl;simp only[aa,bc,q66,ca,a,<-e1,n1];rfl
structure uL(c:Ca)(line:Int)(t:Nat)(i:Nat)(V:Nat->Prop)(Hx:ar):Prop where
 vt:V t
 g:Hx.get t=B1 (OR [.nilp] yi)
 lt:t<Hx.au
 no:∀k,k<i->c.mY line k=B2
structure AtS(c:Ca)(sv:AV)(line:Int)(t:Nat)(V:Nat->Prop)(Hx:ar):Prop where
 vt:V t
 ex:∃k,k<c.ways/\dF (c.mY line) c.ways=B1 k/\Hx.get t=B1 (OR [eA sv (c.fr line+k)] yi)
 lt:t<Hx.au
def wJ(c:Ca)(sv:AV)(line:Int):AV:=match c.pos line with
 |none=>.nilp
 |some i=>eA sv i
def Vr{H:ar}{b:Nat}{sv:AV}{c:Ca}{lines line:Int}(hc:dY H b sv c)(s:CI lines c):zk M OE [.ptr b 0,.int .i64 line] H λ v H'=>v=wJ c sv line/\Fr Em H H':=by
 refine q9u ?_;have⟨w0,wa,wb,w2,w7⟩:=_7 M ⟨B5,OE⟩;obtain⟨H1,e1,f1,n1,-⟩:=cE H (OR [.int .i64 line] bU);obtain⟨p,e2,I,-,-⟩:=cE H1 (OR [.nilp] yi);have f2:Fr Em H p:=f1.trans I λ _ q=>q.elim;have n2:p.au=H.au+2:=by rw[e2,zg,n1]
 have g1:p.get H.au=B1 (OR [.int .i64 line] bU):=by rw[I.ah _ (by omega) id,e1,xt]
 have g2:p.get (H.au+1)=B1 (OR [.nilp] yi):=by rw[e2,<-n1,xt]
 have cl:AV.cells (.int .i64 line)=[.int .i64 line]:=rfl;have l1:Op.ae [.ptr H.au 0] p=B1 (.int .i64 line):=zh (xf g1) 0;simp only[aa,bc,w0,cl,<-e1,<-e2,n1,w2,l1];refine C3.q (ν b line) λ v H5⟨hv,Q⟩=>?_;obtain⟨T,X,Z,-,-⟩:=cE p (OR [.ptr b 0] BT);obtain⟨E,Y,J,-,-⟩:=cE T (OR [.int .i64 line] bU);rw[<-X,<-Y]at Q;rw[hv,Q];have r:Fr Em p E:=Z.trans J λ _ q=>q.elim;have f4:Fr Em H E:=f2.trans r λ _ q=>q.elim;have n3:T.au=H.au+3:=by rw[X,zg,n2]
 have n4:E.au=H.au+4:=by rw[Y,zg,n3]
 have g3:E.get p.au=B1 (OR [.ptr b 0] BT):=by rw[J.ah _ (by omega) id,X,xt]
 have g4:E.get (p.au+1)=B1 (OR [.int .i64 line] bU):=by rw[show p.au+1=T.au by omega,Y,xt]
 have L:=hc.em f4;have hlt:=hc.lt;have hsb:aC sv<H.au:=hc.sl.lt;have kp:∀{j:ar},Fr (λ x=>(x=H.au+1)\/False) E j->dY j b sv c/\Op.ae [.ptr H.au 0] j=B1 (.int .i64 line):=λ f =>
  ⟨L.fr f (λ q=>q.elim (λ q=>by omega) id) (λ q=>q.elim (λ q=>by omega) id),zh (xf (by rw[f.ah H.au (by omega) (λ q=>q.elim (λ q=>by omega) id),r.ah _ (by omega) id];exact g1)) 0⟩
 have res:∀{d:Nat}{j:ar}{x:AV},j.get (H.au+1)=B1 (OR [x] yi)->d≠H.au+1->Op.ae [.ptr (H.au+1) 0] (j.set d (.deferred B5))=B1 x:=λ g hd=>by
  rw[zh (xf (by rw[j9 hd];exact g))];rfl
 refine iE.iter (fn:=TM) (lp:=P8) (pa:=Y2 0) (pb:=f0 0) q64 J'.1 J'.2 (by decide) q4z q40
  (xdm L s g3 g4 (by omega) (by omega)) (λ i V j=>uL c line (H.au+1) i V j) (λ e V j=>e=.ret/\AtS c sv line (H.au+1) V j) (λ x=>x=H.au+1) (qm _) ?_ ?_ ?_ ?_ ?_ ?_ ?_ ?_
 .rintro x ((q|q|q)|q)
  .exact ⟨by omega,rfl,by omega⟩
  .exact ⟨by omega,rfl,by omega⟩
  .exact ⟨by omega,rfl,by omega⟩
  .exact q.elim
 .exact λ x F=>by omega
 .exact ⟨rfl,by rw[r.ah _ (by omega) id];exact g2,by omega,λ k hk=>by omega⟩
 .exact λ i V Ha Hb h hs hn=>⟨h.vt,by rw[hs _ h.vt];exact h.g,qn h.lt hn,h.no⟩
 .rintro e V Ha Hb ⟨he,h⟩ hs hn;have⟨k,k1,R,k3⟩:=h.ex;exact⟨he,h.vt,⟨k,k1,R,by rw[hs _ h.vt];exact k3⟩,qn h.lt hn⟩
 .intro a i lr lb x F hL2 V l m hV N hnL hL6 hgL;unfold pY at F;split at F
  .simp at F
  rename_i hl;rw[xk,xm]at F;obtain⟨y,hy,rfl⟩:=F;have w:i<c.ways:=by have:=(qo.1 hy).1;rw[jf]at this;exact this
  rw[jp w]at hy;cases hy;refine⟨_,rfl,?_⟩;obtain⟨-,wa,wb,-⟩:=_7 M ⟨B1 a,OE⟩;simp only[aa,bc,wa,AG];refine⟨hgL,?_⟩;have fx:Fr (On a) l (l.set a lb):=(Fr.refl l).set (W:=On a) (.inl rfl) _;have gL:(l.set a lb).get a=B1 lb:=xj ..;have S:(l.set a lb).au=l.au:=rfl;have⟨hc6,lq6⟩:=kp N;have h7:dY (l.set a lb) b sv c:=hc6.fr fx (λ(q:b=a)=>by omega) (λ(q:aC sv=a)=>by omega);have P:Op.ae [.ptr H.au 0] (l.set a lb)=B1 (.int .i64 line):=by
   have hg:(l.set a lb).get H.au=l.get H.au:=by rw[j9 (by omega)]
   exact zh (xf (by rw[hg,N.ah H.au (by omega) (λ q=>q.elim (λ q=>by omega) id),r.ah _ (by omega) id];exact g1)) 0
  have K:a≠H.au+1:=λ q=>hnL (by rw[q];exact m.vt);have O:(l.set a lb).get (H.au+1)=B1 (OR [.nilp] yi):=by rw[j9 K];exact m.g
  generalize l.set a lb=H7 at *;have hi:=s.lH line w;obtain⟨e,he⟩:∃e,e=c.en (c.fr line+i):=⟨_,rfl⟩
  have l0:Op.ae [.ptr (aC sv) (cX 21 sv (c.fr line+i))] H7=B1 (.int .i64 e.line):=by rw[he];exact h7.zB hi
  have l1:Op.ae [.ptr (aC sv) (cX 21 sv (c.fr line+i)+1)] H7=B1 (.int .i64 e.st):=by rw[he];exact h7.ld hi (k:=1) (by decide)
  have n:c.mY line i=(e.st != 0 && e.line == line):=by rw[he];rfl
  have stay:c.mY line i=B2->OY (λ V j=>uL c line (H.au+1) (i+1) V j) (λ e V j=>e=.ret/\AtS c sv line (H.au+1) V j) a lb V l .normal [] [] H7:=λ Q =>
   ⟨rfl,gL,V,λ b hb=>⟨by rw[S];exact(hV b hb).1,.inl hb⟩,fx.mono λ x _ q=>.inr q,.inl ⟨rfl,m.vt,O,by rw[S];exact m.lt,λ k hk=>by
    by_cases q:k=i
    .rw [q];exact Q
    .exact m.no k (by omega)⟩⟩
  by_cases G:e.st=0
  .simp only[aa,bc,wb,qv,l1,xg G];exact stay (by rw[n,G];rfl)
  by_cases z:e.line=line
  .have st:=Nq O (u:=eA sv (c.fr line+i)) rfl;simp only[aa,bc,wb,qv,l1,G,l0,P,xg z,st];refine⟨rfl,?_,V,?_,?_,.inr ⟨trivial,rfl,m.vt,⟨i,w,Nz w (by rw[n];simp[G,z]) m.no,xj ..⟩,?_⟩⟩
   .rw [j9 (mO K)];exact gL
   .exact λ b hb=>⟨by show b<H7.au;rw[S];exact(hV b hb).1,.inl hb⟩
   .exact (fx.mono λ x _ q=>.inr q).set (.inl (.inl m.vt)) _
   .show H.au+1<H7.au;rw[S];exact m.lt
  .simp only[aa,bc,wb,qv,l1,G,l0,P,z];exact stay (by rw[n];simp[z])
 .intro d V U hd1 hd2 C B A m;have st:=Nq m.g (u:=.nilp) rfl;have t:d≠H.au+1:=λ q=>by have:=(A _ m.vt).2.2;omega
  have gd:(U.set (H.au+1) (OR [.nilp] yi)).get d=B1 (.deferred (B1 [])):=by rw[j9 (mO t)];exact C
  have rd:=res (d:=d) (xj U (H.au+1) (OR [.nilp] yi)) t;have o:c.pos line=none:=by
   unfold Ca.pos;split
   .rfl
   .rename_i hl;have D:=m.no;unfold pY at D;rw[qt hl,xu,jf]at D;rw[NS D];rfl
  simp only[aa,bc,w7,st,G6,rd];refine⟨gd,?_,?_⟩
  .unfold wJ;rw[o]
  .exact (((f4.trans (W':=λ x=>x=H.au+1\/False) B λ x q=>q.elim (λ q=>.inr (by omega)) OH).set (.inr (by omega)) _).set (.inr (by omega)) _)
 .rintro e d V U hj hd1 hd2 C B A ⟨he,hS⟩;subst he;have⟨k,k1,R,k3⟩:=hS.ex;have t:d≠H.au+1:=λ q=>by have:=(A _ hS.vt).2.2;omega
  have rd:=res (d:=d) k3 t;have o:wJ c sv line=eA sv (c.fr line+k):=by
   unfold wJ Ca.pos
   by_cases hl:line<0
   .exfalso;obtain⟨G,z,-⟩:=KI R;unfold Ca.mY at z;simp only[zd,bne_iff_ne,ne_eq,G2]at z;have:=(s.ok _ (s.lH line k1) z.1).2.1;omega
   .rw [qt hl,R];rfl
  simp only[aa,bc,G6,rd];refine⟨C,o.symm,?_⟩;exact((f4.trans (W':=λ x=>x=H.au+1\/False) B λ x q=>q.elim (λ q=>.inr (by omega)) OH).set (.inr (by omega)) _)
end Go.Am
namespace Go.Am
open Go.Proofs Ca
variable{M:ak}[MK M]
def iv{H:ar}{b e n:Nat}{l x:List AV}(h:H.get b=B1 (OR l e))(hl:l.length=n)(d:x.length=n)(a:aQ x=B4):Op.store n [.ptr b 0,.agg x] H=B1 (.undef,H.set b (OR x e)):=by
 have st:=wW h (o:=0) (n:=n) (v:=.agg x) (by rw[z7];exact d) (by omega) (by rw[z7];exact a);rw[st,z7,yq,jc,jr (by omega),zt]
def fq{H:ar}{b e n:Nat}{l:List AV}(h:H.get b=B1 (OR l e))(hl:l.length=n):Op.av n [.ptr b 0] H=B1 (.agg l):=by
 rw[tT (xf h) (by omega),y8,zp (by omega)]
def Ah(l:List AV):Op.build l [] []=B1 (.agg l):=rfl
def eZ:[AV.int .i64 0,.int .i64 0,.bool B2,.bool B2,.int .u64 0,.int .u64 0,.int .u64 0,.int .u64 0,.int .u64 0,.int .u64 0,.int .u64 0,.int .u64 0,.int .u64 0,.int .u64 0,.int .u64 0,.int .u64 0,.int .u64 0,.int .u64 0,.int .u64 0,.int .u64 0,.int .i64 0]=aD .zero:=rfl
abbrev dy(d:L8):List AV:=d.l.map uW
def lj(d:L8):(dy d).length=8:=by simp[dy,d.h]
def Ae(d:L8):aQ (dy d)=true:=by rw[vz];simp[dy,az]
def lZ:[AV.int .u64 0,.int .u64 0,.int .u64 0,.int .u64 0,.int .u64 0,.int .u64 0,.int .u64 0,.int .u64 0]=dy .zero:=rfl
def nA(b:Nat)(sv:AV):Nat->Prop:=λ x=>x=b\/x=aC sv
section
variable{H:ar}{b:Nat}{sv:AV}{c:Ca}{lines line:Int}
def dY.set(h:dY H b sv c){i:Nat}{e:En}{H':ar}(hs:gU aD xv 21 H' sv (c.sl.set i e))(f:Fr (On (aC sv)) H H'):dY H' b sv (c.set i e) :=
 ⟨by rw[f.ah _ h.lt (λ q:b=aC sv=>h.ne q.symm)];exact h.row,qn h.lt f.au,hs,h.ne,h.s8,h.w4,h.us⟩
def dY.cW(h:dY H b sv c){i:Nat}(g:i<c.sl.length){j:Nat}(k:j<21){u:AV}(hu:az u=B4){e:En}(he:aD e=(aD (c.en i)).set j u):∃H',Op.store 1 [.ptr (aC sv) (cX 21 sv i+j),u] H=B1 (.undef,H')/\dY H' b sv (c.set i e)/\Fr (On (aC sv)) H H':=by
 have⟨H',d,f,a⟩:=h.sl.As jx (FN g) k hu he;exact⟨H',d,h.set f a,a⟩
def dY.Uy(h:dY H b sv c){i:Nat}(g:i<c.sl.length){j n:Nat}{u:AV}(hu:u.cells.length=n)(ho:aQ u.cells=B4)(k:j+n<=21){e:En}(he:aD e=(aD (c.en i)).take j++u.cells++(aD (c.en i)).drop (j+n)):∃H',Op.store n [.ptr (aC sv) (cX 21 sv i+j),u] H=B1 (.undef,H')/\dY H' b sv (c.set i e)/\Fr (On (aC sv)) H H':=by
 have⟨H',d,f,a⟩:=h.sl.Io jx (FN g) hu ho k he;exact⟨H',d,h.set f a,a⟩
def dY.Ga(h:dY H b sv c){i:Nat}(g:i<c.sl.length)(e:En):∃H',Op.store 21 [.ptr (aC sv) (cX 21 sv i),.agg (aD e)] H=B1 (.undef,H')/\dY H' b sv (c.set i e)/\Fr (On (aC sv)) H H':=by
 have⟨H',d,f,a⟩:=h.sl.Pk jx zY (FN g) e;exact⟨H',d,h.set f a,a⟩
def dY.stU(h:dY H b sv c){u:Int}(hu:0<=u/\u<=1000000):∃H',Op.store 1 [.ptr b 3,.int .i64 u] H=B1 (.undef,H')/\dY H' b sv {c with us:=u}/\Fr (On b) H H':=by
 have st:=wW h.row (o:=3) (n:=1) (v:=.int .i64 u) rfl (by simp[FK]) rfl;have e:(FK c sv).take 3++(AV.int .i64 u).cells++(FK c sv).drop (3+1)=FK {c with us:=u} sv:=rfl;rw[e]at st;have f:Fr (On b) H (H.set b (OR (FK {c with us:=u} sv) We)):=(Fr.refl H).set (W:=On b) (.inl rfl) _;exact⟨_,st,⟨xj ..,h.lt,h.sl.fr f λ(q:aC sv=b)=>h.ne q,h.ne,h.s8,h.w4,hu⟩,f⟩
def dY.TS(h:dY H b sv c)(k:Nat):Op.ae [.ptr b k] H=(FK c sv)[k]?:=zh (xf h.row) k
def dY.J6(h:dY H b sv c){i:Nat}(a:i<c.sl.length):Op.av 21 [.ptr (aC sv) (cX 21 sv i)] H=B1 (.agg (aD (c.en i))):=(h.sl.sl jx).av jx (by decide) (FN a)
def dY.cells(h:dY H b sv c){i:Nat}(a:i<c.sl.length){j n:Nat}(l:j+n<=21):Op.av n [.ptr (aC sv) (cX 21 sv i+j)] H=B1 (.agg (((aD (c.en i)).drop j).take n)):=by
 have⟨sb,e,k,d⟩:=h.sl;have hb:aC sv=sb:=by rw[e];rfl
 have ho:cX 21 sv i=i*21:=by rw[e];simp[cX]
 have g:(i+1)*21<=c.sl.length*21:=jo _ a;have hl:=IZ jx c.sl;rw[hb,ho,tT (xf d) (by omega)];have hm:=xcu (L:=c.sl.flatMap aD) (E:=aD (c.en i)) (p:=i*21) (size:=21) (jx _) (by omega) (λ r hr=>JG jx c.sl (FN a) hr);have f:((c.sl.flatMap aD).take (i*21)).length=i*21:=by rw[jd];omega
 have e1:(c.sl.flatMap aD).drop (i*21+j)=(aD (c.en i)).drop j++(c.sl.flatMap aD).drop (i*21+21):=by
  conv=>lhs;rw[hm]
  rw[BE,f,jr (by omega),jc,ve,y9 (by rw[jx];omega)]
 rw[e1,ki (by rw[jg,jx];omega)]
def dY.ldD(h:dY H b sv c){i:Nat}(a:i<c.sl.length):Op.av 8 [.ptr (aC sv) (cX 21 sv i+4)] H=B1 (.agg (dy (c.en i).d)):=by
 rw[h.cells a (by decide)];have:((aD (c.en i)).drop 4).take 8=dy (c.en i).d:=by
  show((dy (c.en i).d++(dy (c.en i).o ++ [AV.int .i64 (c.en i).u]))).take 8=_;rw[List.take_left' (lj _)]
 rw[this]
def dY.ldO(h:dY H b sv c){i:Nat}(a:i<c.sl.length):Op.av 8 [.ptr (aC sv) (cX 21 sv i+12)] H=B1 (.agg (dy (c.en i).o)):=by
 rw[h.cells a (by decide)];have:((aD (c.en i)).drop 12).take 8=dy (c.en i).o:=by
  have e:(aD (c.en i)).drop 12=(dy (c.en i).d++(dy (c.en i).o ++ [AV.int .i64 (c.en i).u])).drop 8:=rfl;rw[e,List.drop_left' (lj _),List.take_left' (lj _)]
 rw[this]
def Ip(c:Ca)(sv:AV)(line st:Int):AV:=match c.lF line st with
 |none=>.tuple [.nilp,.int .i64 20]
 |some i=>.tuple [eA sv i,.int .i64 0]
def LH(k:dY H b sv c)(e:CI lines c)(line st:Int):zk M U1 [.ptr b 0,.int .i64 line,.int .i64 st] H λ v H'=>v=Ip c sv line st/\Fr Em H H':=by
 refine q9v ?_;obtain⟨w0,w2,h,a,f⟩:=q9w M ⟨B5,U1⟩;simp only[aa,bc,w0,w2,vg,h];refine C3.q (Vr (line:=line) k e) λ v H1⟨m,d⟩=>?_;rw[m];unfold wJ Ip lF;cases hp:c.pos line with
 |none =>
  simp only[aa,bc,a,Sc];exact d
 |some i =>
  obtain⟨-,l,-⟩:=e.bA hp;have l1:Op.ae [.ptr (aC sv) (cX 21 sv i+1)] H1=B1 (.int .i64 (c.en i).st):=(k.em d).ld l (by decide)
  by_cases g:st=0
  .subst g;simp only[aa,bc,a,vg,f];exact d
  by_cases j:(c.en i).st=st
  .simp only[aa,bc,a,vg,g,qv,l1,xg j,f];exact d
  .simp only[aa,bc,a,vg,g,qv,l1,j];exact d
abbrev CaQ(H:ar)(b:Nat)(sv:AV)(c':Ca)(r:AV):AV->ar->Prop:=λ v H'=>v=r/\dY H' b sv c'/\Fr (nA b sv) H H'
def vF{H1 a:ar}(f:Fr (On (aC sv)) H1 a):Fr (nA b sv) H1 a:=f.mono λ _ _ q=>.inr q
def frB{H1 a:ar}(f:Fr (On b) H1 a):Fr (nA b sv) H1 a:=f.mono λ _ _ q=>.inl q
def rY{H1 a:ar}(f:Fr Em H1 a):Fr (nA b sv) H1 a:=f.mono λ _ _ q=>q.elim
def vW{H1 a d:ar}(f:Fr (nA b sv) H1 a)(g:Fr (nA b sv) a d):Fr (nA b sv) H1 d:=f.trans g λ _ q=>.inl q
def Xz(a:dY H b sv c)(hu:c.us+1<=1000000){i:Nat}(n:i<c.sl.length):zk M qst [.ptr b 0,eA sv i] H λ _ H'=>dY H' b sv (c.use i)/\Fr (nA b sv) H H':=by
 refine q67 ?_;have l3:Op.ae [.ptr b 3] H=B1 (.int .i64 c.us):=a.TS 3;have:=a.us;have w1:aj .i64 (c.us+1)=c.us+1:=kc (by omega) (by omega);have⟨H1,s1,g,h⟩:=a.stU (u:=c.us+1) (by omega);have f:Op.ae [.ptr b 3] H1=B1 (.int .i64 (c.us+1)):=g.TS 3;have⟨p,s2,l,k⟩:=g.cW n (j:=20) (by decide) (u:=.int .i64 (c.us+1)) rfl (e:={c.en i with u:=c.us+1}) (by
  show aD {c.en i with u:=c.us+1} = (aD (c.en i)).set 20 _;have⟨line,st,r,w,⟨d,m⟩,⟨o,ho⟩,u⟩:=c.en i
  match d,m,o,ho with
  |[d0,d1,d2,d3,d4,d5,d6,d7],_,[o0,o1,o2,o3,o4,o5,o6,o7],_=>rfl)
 simp only[aa,bc,q68,qv,l3,w1,s1,f,s2];exact⟨l,vW (frB h) (vF k)⟩
def sT(c:Ca)(line:Int):AV:=match c.find line with
 |none=>.tuple [.agg (aD .zero),.bool B2]
 |some e=>.tuple [.agg (aD e),.bool B4]
def SZ(k:dY H b sv c)(d:CI lines c)(line:Int):zk M j3 [.ptr b 0,.int .i64 line] H λ v H'=>v=sT c line/\Fr Em H H':=by
 refine q4t ?_;obtain⟨w0,w4,f⟩:=q4u M ⟨B5,j3⟩;have⟨H1,e1,g,n1,l⟩:=cE H (OR (aD .zero) xv);simp only[aa,bc,w0,eZ,<-e1];refine C3.q (Vr (line:=line) (k.em g) d) λ v e⟨n,h⟩=>?_;rw[n];have j:e.get H.au=B1 (OR (aD .zero) xv):=by rw[h.ah _ (by omega) id];exact l
 have a:Fr Em H e:=g.trans h λ _ q=>q.elim;unfold wJ sT Ca.find;cases hp:c.pos line with
 |none =>
  have st:=iv j (jx _) (jx .zero) (zY _);have ld:=fq (xj e H.au (OR (aD .zero) xv)) (jx _);simp only[aa,bc,w4,Sc,eZ,Ah,st,ld];exact⟨rfl,a.set (.inr (qm _)) _⟩
 |some i =>
  obtain⟨-,m,-⟩:=d.bA hp;have le:=(k.em a).J6 m;have st:=iv j (jx _) (jx (c.en i)) (zY _);have ld:=fq (xj e H.au (OR (aD (c.en i)) xv)) (jx _);simp only[aa,bc,w4,vg,f,qv,le,st,ld];exact⟨rfl,a.set (.inr (qm _)) _⟩
end
end Go.Am
namespace Go.Am
open Go.Proofs Ca
variable{M:ak}[MK M]
def RQ(e:En)(k:Nat)(hk:k<8)(y:Int):aD {e with d:=e.d.put k y} = (aD e).set (4+k) (uW y):=by
 have⟨line,st,r,w,⟨d,a⟩,⟨o,ho⟩,u⟩:=e
 match d,a,o,ho with
 |[d0,d1,d2,d3,d4,d5,d6,d7],_,[o0,o1,o2,o3,o4,o5,o6,o7],_ =>
  rcases(show k=0\/k=1\/k=2\/k=3\/k=4\/k=5\/k=6\/k=7 by omega)with rfl|rfl|rfl|rfl|rfl|rfl|rfl|rfl<;>rfl
def Kw(e:En)(k:Nat)(hk:k<8):(aD e)[4+k]? = B1 (uW (e.d.get k)):=by
 have⟨line,st,r,w,⟨d,a⟩,⟨o,ho⟩,u⟩:=e
 match d,a,o,ho with
 |[d0,d1,d2,d3,d4,d5,d6,d7],_,[o0,o1,o2,o3,o4,o5,o6,o7],_ =>
  rcases(show k=0\/k=1\/k=2\/k=3\/k=4\/k=5\/k=6\/k=7 by omega)with rfl|rfl|rfl|rfl|rfl|rfl|rfl|rfl<;>rfl
def Jf(e:En)(x:L8):aD {e with d:=x} = (aD e).take 4++(AV.agg (dy x)).cells++(aD e).drop (4+8):=by
 have⟨line,st,r,w,⟨d,a⟩,⟨o,ho⟩,u⟩:=e
 match d,a,o,ho with
 |[d0,d1,d2,d3,d4,d5,d6,d7],_,[o0,o1,o2,o3,o4,o5,o6,o7],_=>rfl
def J9(e:En)(x:L8):aD {e with o:=x} = (aD e).take 12++(AV.agg (dy x)).cells++(aD e).drop (12+8):=by
 have⟨line,st,r,w,⟨d,a⟩,⟨o,ho⟩,u⟩:=e
 match d,a,o,ho with
 |[d0,d1,d2,d3,d4,d5,d6,d7],_,[o0,o1,o2,o3,o4,o5,o6,o7],_ =>
  have⟨x,f⟩:=x
  match x,f with
  |[x0,x1,x2,x3,x4,x5,x6,x7],_=>rfl
section
variable{H:ar}{b:Nat}{sv:AV}{c:Ca}{lines line:Int}
def Db{a:Nat}(h:a<1000000):Op.bin .quo [.int .i64 (a:Int),.int .i64 8]=B1 (.int .i64 ((a / 8:Nat):Int)):=by
 rw[QK .i64 _ _ (by decide),Int.tdiv_eq_ediv_of_nonneg (by omega),kc (by omega) (by omega)];rfl
def Qi{a:Nat}(h:a<1000000):Op.bin .rem [.int .i64 (a:Int),.int .i64 8]=B1 (.int .i64 ((a % 8:Nat):Int)):=Qz (by decide)
def ixA(i k:Nat)(hk:k<8):Op.aY 8 1 [.ptr (aC sv) (cX 21 sv i+4),.int .i64 (k:Int)]=B1 (.ptr (aC sv) (cX 21 sv i+(4+k))):=by
 have:=Uf (len:=8) (size:=1) (b:=aC sv) (o:=cX 21 sv i+4) (k:=.i64) (j:=(k:Int)) (i:=k) rfl hk;rw[this,Nat.mul_one,wT]
def M8{i:Nat}(a:i<c.sl.length)(e:En):(c.set i e).en i=e:=by rw[BD a,xb rfl]
def T5(c:Ca)(i:Nat)(e e':En):(c.set i e).set i e'=c.set i e':=by unfold Ca.set;simp only[List.set_set]
def EL{i:Nat}(a:i<c.sl.length):(c.use i).en i = {c.en i with u:=c.us+1}:=by
 show(c.set i {c.en i with u:=c.us+1}).en i=_;exact M8 a _
def xN(c:Ca)(a:Nat):AV:=match c.pos ((a / 8:Nat):Int)with
 |none=>.tuple [.int .u64 0,.int .i64 20]
 |some i=>.tuple [.int .u64 ((c.en i).d.get (a % 8)),.int .i64 0]
def sg(p:dY H b sv c)(e:CI lines c)(hu:c.us+1<=1000000){a:Nat}(ha:a<1000000):zk M Yt [.ptr b 0,.int .i64 (a:Int)] H (CaQ H b sv (c.word a).1 (xN c a)):=by
 refine q4x ?_;obtain⟨w0,w2,l,f,m⟩:=q4y M ⟨B5,Yt⟩;have n0:¬(a:Int)<0:=by omega
 have hk:a % 8<8:=Nat.mod_lt _ (by decide);simp only[aa,bc,w0,w2,lQ,n0,l,Db ha];refine C3.q (LH p e ((a / 8:Nat):Int) 0) λ v H1⟨t,g⟩=>?_;rw[t];have n:=p.em g;unfold Ip xN Ca.word;rw[sI];cases hp:c.pos ((a / 8:Nat):Int)with
 |none =>
  have k:¬(20:Int)=0:=by decide
  simp only[aa,bc,xp,f,k];exact⟨rfl,n,rY g⟩
 |some i =>
  obtain⟨-,h,-⟩:=e.bA hp;have u:=xg (show(0:Int)=0 from rfl);simp only[aa,bc,xp,f,m];refine C3.q (Xz n hu h) λ _ r⟨o,s⟩=>?_;have j:i<(c.use i).sl.length:=by show i<(c.sl.set i _).length;rw[xq];exact h
  have ld:Op.ae [.ptr (aC sv) (cX 21 sv i+(4+a % 8))] r=B1 (uW ((c.en i).d.get (a % 8))):=by
   rw[o.ld j (by omega),EL h,Kw _ _ hk]
  simp only[aa,bc,Qi ha,qv,ixA i (a % 8) hk,ld];exact⟨rfl,o,vW (rY g) s⟩
def RJ(c:Ca)(a:Nat):AV:=match c.lF ((a / 8:Nat):Int) 2 with
 |none=>.int .i64 20
 |some _=>.int .i64 0
def xhb(s:dY H b sv c)(f:CI lines c)(hu:c.us+1<=1000000){a:Nat}(ha:a<1000000)(y:Int):zk M UY [.ptr b 0,.int .i64 (a:Int),.int .u64 y] H (CaQ H b sv (c.put a y) (RJ c a)):=by
 refine q62 ?_;obtain⟨w0,w2,n,g,o⟩:=q63 M ⟨B5,UY⟩;have n0:¬(a:Int)<0:=by omega
 have hk:a % 8<8:=Nat.mod_lt _ (by decide);simp only[aa,bc,w0,w2,lQ,n0,n,Db ha];refine C3.q (LH s f ((a / 8:Nat):Int) 2) λ v H1⟨z,h⟩=>?_;rw[z];have p:=s.em h;unfold Ip RJ Ca.put;cases hp:c.lF ((a / 8:Nat):Int) 2 with
 |none =>
  have m:¬(20:Int)=0:=by decide
  simp only[aa,bc,xp,g,m];exact⟨rfl,p,rY h⟩
 |some i =>
  obtain⟨-,k,-⟩:=f.bA (xT hp).1;have D:=xg (show(0:Int)=0 from rfl);simp only[aa,bc,xp,g,o];refine C3.q (Xz p hu k) λ _ B⟨x,t⟩=>?_;have l:i<(c.use i).sl.length:=by show i<(c.sl.set i _).length;rw[xq];exact k
  have⟨C,A,r,w⟩:=x.cW l (j:=4+a % 8) (by omega) (u:=.int .u64 y) rfl (e:={(c.use i).en i with d:=((c.use i).en i).d.put (a % 8) y}) (RQ _ _ hk y);have e:(c.use i).set i {(c.use i).en i with d:=((c.use i).en i).d.put (a % 8) y} = {c with us:=c.us+1,sl:=c.sl.set i {c.en i with u:=c.us+1,d:=(c.en i).d.put (a % 8) y}}:=by
   rw[EL k];unfold Ca.use Ca.set;simp only[List.set_set]
  rw[e]at r;simp only[aa,bc,Qi ha,qv,ixA i (a % 8) hk,A];exact⟨rfl,r,vW (vW (rY h) t) (vF w)⟩
def a_(s:dY H b sv c)(a:CI lines c)(line:Int)(wr:Bool):zk M XD [.ptr b 0,.int .i64 line,.bool wr] H λ _ H'=>dY H' b sv (c.mark line wr)/\Fr (nA b sv) H H':=by
 refine q4v ?_;obtain⟨w0,w2,B,D,k,p,l⟩:=q4w M ⟨B5,XD⟩;have m:¬(20:Int)=0:=by decide
 have J:=xg (show(0:Int)=0 from rfl);cases wr with
 |false =>
  simp only[aa,bc,w0,w2];refine C3.q (LH s a line 0) λ v H1⟨z,f⟩=>?_;rw[z];have g:=s.em f;unfold Ip Ca.mark;rw[qt (by decide)];cases hp:c.lF line 0 with
  |none =>
   simp only[aa,bc,xp,D,m,p];exact⟨g,rY f⟩
  |some i =>
   obtain⟨-,h,-⟩:=a.bA (xT hp).1;have⟨E,A,x,t⟩:=g.cW h (j:=2) (by decide) (u:=.bool B4) rfl (e:={c.en i with r:=B4}) rfl;simp only[aa,bc,xp,D,qv,A,p];exact⟨x,vW (rY f) (vF t)⟩
 |true =>
  simp only[aa,bc,w0,w2,B];refine C3.q (LH s a line 2) λ v H1⟨z,f⟩=>?_;rw[z];have g:=s.em f;unfold Ip Ca.mark;rw[xb rfl];cases hp:c.lF line 2 with
  |none =>
   simp only[aa,bc,xp,k,m,l];exact⟨g,rY f⟩
  |some i =>
   obtain⟨-,h,-⟩:=a.bA (xT hp).1;have l3:Op.ae [.ptr (aC sv) (cX 21 sv i+3)] H1=B1 (.bool (c.en i).w):=g.ld h (by decide);dsimp only;cases hw:(c.en i).w with
   |true =>
    rw[xb rfl];rw[hw]at l3;simp only[aa,bc,xp,k,qv,l3,l];exact⟨g,rY f⟩
   |false =>
    rw[qt (by decide)];rw[hw]at l3;have⟨E,A,x,t⟩:=g.cW h (j:=3) (by decide) (u:=.bool B4) rfl (e:={c.en i with w:=B4}) rfl;have y:i<(c.set i {c.en i with w:=B4}).sl.length:=by show i<(c.sl.set i _).length;rw[xq];exact h
    have⟨I,G,C,F⟩:=x.Uy y (j:=12) (n:=8) (u:=.agg (dy (c.en i).d)) (by rw[z7];exact lj _) (by rw[z7];exact Ae _) (by decide) (e:={(c.set i {c.en i with w:=B4}).en i with o:=(c.en i).d}) (J9 _ _);rw[M8 h,T5]at C;simp only[aa,bc,xp,k,qv,l3,g.ldD h,A,G,l];exact⟨C,vW (vW (rY f) (vF t)) (vF F)⟩
def tG(c:Ca)(line:Int):AV:=.tuple [.agg (dy (c.cR line).2),match c.lF line 2 with|none=>.int .i64 20|some _=>.int .i64 0]
def xem(g:dY H b sv c)(h:CI lines c)(line:Int):zk M XA [.ptr b 0,.int .i64 line] H λ v H'=>v=tG c line/\dY H' b sv (c.cR line).1/\Fr (nA b sv) H H':=by
 refine qxs ?_;obtain⟨w0,w4,p⟩:=qxt M ⟨B5,XA⟩;have o:¬(20:Int)=0:=by decide
 have E:=xg (show(0:Int)=0 from rfl);have⟨H1,e1,r,n1,x⟩:=cE H (OR (dy .zero) yp);have A:=g.lt;have B:aC sv<H.au:=g.sl.lt;simp only[aa,bc,w0,lZ,<-e1];refine C3.q (LH (g.em r) h line 2) λ v k⟨C,l⟩=>?_;rw[C];have a:Fr Em H k:=r.trans l λ _ q=>q.elim;have z:=g.em a;have t:k.get H.au=B1 (OR (dy .zero) yp):=by rw[l.ah _ (by omega) id];exact x
 unfold Ip tG Ca.cR;cases hp:c.lF line 2 with
 |none =>
  have st:=iv t (lj _) (lj .zero) (Ae _);have ld:=fq (xj k H.au (OR (dy .zero) yp)) (lj _);have fs:Fr Em H (k.set H.au (OR (dy .zero) yp)):=a.set (.inr (qm _)) _;simp only[aa,bc,xp,w4,o,lZ,Ah,st,ld];exact⟨g.em fs,rY fs⟩
 |some i =>
  obtain⟨-,m,-⟩:=h.bA (xT hp).1;have⟨f,D,w,s⟩:=z.cW m (j:=1) (by decide) (u:=.int .i64 1) rfl (e:={c.en i with st:=1}) rfl;have n:i<(c.set i {c.en i with st:=1}).sl.length:=by show i<(c.sl.set i _).length;rw[xq];exact m
  have l3:=w.ldD n;rw[M8 m]at l3;have n2:=l.au;have y:f.get H.au=B1 (OR (dy .zero) yp):=by rw[s.ah _ (by omega) (λ(q:H.au=aC sv)=>by omega)];exact t
  have st:=iv y (lj _) (lj (c.en i).d) (Ae _);have ld:=fq (xj f H.au (OR (dy (c.en i).d) yp)) (lj _);have fo:Fr (On H.au) f (f.set H.au (OR (dy (c.en i).d) yp)):=(Fr.refl f).set (W:=On H.au) (.inl rfl) _;simp only[aa,bc,xp,w4,p,qv,D,l3,st,ld];exact⟨w.fr fo (λ(q:b=H.au)=>by omega) (λ(q:aC sv=H.au)=>by omega),(vW (rY a) (vF s)).set (.inr (qm _)) _⟩
def xc8(h:dY H b sv c)(f:CI lines c)(line:Int)(x:L8):zk M hY [.ptr b 0,.int .i64 line,.agg (dy x)] H λ _ H'=>dY H' b sv (c.cQ line x)/\Fr (nA b sv) H H':=by
 refine qvy ?_;obtain⟨w0,w4,g⟩:=qvz M ⟨B5,hY⟩;have o:¬(20:Int)=0:=by decide
 have L:=xg (show(0:Int)=0 from rfl);have⟨H1,e1,r,n1,B⟩:=cE H (OR (dy x) yp);have E:=h.lt;have F:aC sv<H.au:=h.sl.lt;simp only[aa,bc,w0,<-e1];refine C3.q (LH (h.em r) f line 1) λ v p⟨G,k⟩=>?_;rw[G];have a:Fr Em H p:=r.trans k λ _ q=>q.elim;have w:=h.em a;have t:p.get H.au=B1 (OR (dy x) yp):=by rw[k.ah _ (by omega) id];exact B
 unfold Ip Ca.cQ;cases hp:c.lF line 1 with
 |none =>
  simp only[aa,bc,xp,w4,o,g];exact⟨w,rY a⟩
 |some i =>
  obtain⟨-,l,-⟩:=f.bA (xT hp).1;have⟨z,I,D,s⟩:=w.cW l (j:=1) (by decide) (u:=.int .i64 2) rfl (e:={c.en i with st:=2}) rfl;have m:i<(c.set i {c.en i with st:=2}).sl.length:=by show i<(c.sl.set i _).length;rw[xq];exact l
  have⟨K,J,y,A⟩:=D.Uy m (j:=4) (n:=8) (u:=.agg (dy x)) (by rw[z7];exact lj _) (by rw[z7];exact Ae _) (by decide) (e:={(c.set i {c.en i with st:=2}).en i with d:=x}) (Jf _ _);rw[M8 l,T5]at y;have n2:=k.au;have C:z.get H.au=B1 (OR (dy x) yp):=by rw[s.ah _ (by omega) (λ(q:H.au=aC sv)=>by omega)];exact t
  simp only[aa,bc,xp,w4,qv,fq t (lj x),I,fq C (lj x),J,g];exact⟨y,vW (vW (rY a) (vF s)) (vF A)⟩
def yP(c:Ca)(line:Int):AV:=.tuple [.agg (aD (c.drop line).2),match c.lF line 0 with|none=>.int .i64 20|some _=>.int .i64 0]
def Zz(h:dY H b sv c)(j:CI lines c)(line:Int):zk M U7 [.ptr b 0,.int .i64 line] H λ v H'=>v=yP c line/\dY H' b sv (c.drop line).1/\Fr (nA b sv) H H':=by
 refine q4p ?_;obtain⟨w0,w4,s⟩:=q4q M ⟨B5,U7⟩;have r:¬(20:Int)=0:=by decide
 have Q:=xg (show(0:Int)=0 from rfl);have⟨H1,e1,u,n1,C⟩:=cE H (OR (aD .zero) xv);have I:=h.lt;have J:aC sv<H.au:=h.sl.lt;simp only[aa,bc,w0,eZ,<-e1];refine C3.q (LH (h.em u) j line 0) λ v a⟨K,l⟩=>?_;rw[K];have d:Fr Em H a:=u.trans l λ _ q=>q.elim;have y:=h.em d;have n2:=l.au;have w:a.get H.au=B1 (OR (aD .zero) xv):=by rw[l.ah _ (by omega) id];exact C
 unfold Ip yP Ca.drop;cases hp:c.lF line 0 with
 |none =>
  have st:=iv w (jx _) (jx .zero) (zY _);have ld:=fq (xj a H.au (OR (aD .zero) xv)) (jx _);have fs:Fr Em H (a.set H.au (OR (aD .zero) xv)):=d.set (.inr (qm _)) _;simp only[aa,bc,xp,w4,r,eZ,Ah,st,ld];exact⟨h.em fs,rY fs⟩
 |some i =>
  obtain⟨-,z,-⟩:=j.bA (xT hp).1;have⟨f,B,m,P,D⟩:=cE a (OR (aD .zero) xv);have A:=iv D (jx _) (jx (c.en i)) (zY _);obtain⟨t,g⟩:∃X,X=f.set a.au (OR (aD (c.en i)) xv):=⟨_,rfl⟩
  rw[<-g]at A;have n:Fr (On a.au) f t:=by rw[g];exact(Fr.refl f).set (W:=On a.au) (.inl rfl) _
  have F:=(y.em m).fr n (λ(q:b=a.au)=>by omega) (λ(q:aC sv=a.au)=>by omega);have⟨e,N,G,o⟩:=F.Ga z .zero;have E:e.get a.au=B1 (OR (aD (c.en i)) xv):=by rw[o.ah _ (by rw[g];show a.au<f.au;omega) (λ(q:a.au=aC sv)=>by omega),g,xj]
  have L:=fq E (jx (c.en i));have p:e.get H.au=B1 (OR (aD .zero) xv):=by rw[o.ah _ (by rw[g];show H.au<f.au;omega) (λ(q:H.au=aC sv)=>by omega),n.ah _ (by omega) (λ(q:H.au=a.au)=>by omega),m.ah _ (by omega) id];exact w
  have O:=iv p (jx _) (jx (c.en i)) (zY _);have ld:=fq (xj e H.au (OR (aD (c.en i)) xv)) (jx _);have fo:Fr (On H.au) e (e.set H.au (OR (aD (c.en i)) xv)):=(Fr.refl e).set (W:=On H.au) (.inl rfl) _;have k:Fr (nA b sv) H t:=(vW (rY d) (rY m)).trans n λ x(q:x=a.au)=>.inr (by omega);simp only[aa,bc,xp,w4,s,qv,y.J6 z,eZ,<-B,A,Ah,N,L,O,ld];exact⟨G.fr fo (λ(q:b=H.au)=>by omega) (λ(q:aC sv=H.au)=>by omega),(vW k (vF o)).set (.inr (qm _)) _⟩
end
end Go.Am
namespace Go.Am
open Go.Proofs Ca
variable{M:ak}[MK M]
def pS(sv:AV)(o:Option Nat):AV:=match o with
 |none=>.nilp
 |some i=>eA sv i
def EK(sv:AV)(o:Option Nat):az (pS sv o)=true:=by cases o<;>rfl
def DD{a:ar}{t d e:Nat}{x:AV}{o:bC}(g:a.get t=B1 (OR [x] e))(h:d≠t):Op.ae [.ptr t 0] (a.set d o)=B1 x:=by
 have f:(a.set d o).get t=B1 (OR [x] e):=by rw[j9 h];exact g
 exact zh (xf f) 0
structure Yk(c:Ca)(sv:AV)(line:Int)(t u:Nat)(i:Nat)(V:Nat->Prop)(Hx:ar):Prop where
 vt:V t
 vu:V u
 g:Hx.get t=B1 (OR [.nilp] yi)
 gu:Hx.get u=B1 (OR [pS sv ((c.iO line i).map (c.fr line + ·))] yi)
 lt:t<Hx.au
 XT:u<Hx.au
 no:∀k,k<i->c.free line k=B2
structure XV(c:Ca)(sv:AV)(line:Int)(t:Nat)(V:Nat->Prop)(Hx:ar):Prop where
 vt:V t
 ex:∃k,k<c.ways/\dF (c.free line) c.ways=B1 k/\Hx.get t=B1 (OR [eA sv (c.fr line+k)] yi)
 lt:t<Hx.au
section
variable{H:ar}{b:Nat}{sv:AV}{c:Ca}{lines line:Int}
def xm0(hc:dY H b sv c)(O:CI lines c)(hl:0<=line):zk M NQ [.ptr b 0,.int .i64 line] H λ v H'=>v=pS sv (c.room line)/\Fr Em H H':=by
 refine q43 ?_;have⟨w0,wa,wb,w2,t,w3,n,w5,w7,w12⟩:=_s M ⟨B5,NQ⟩;obtain⟨H1,e1,f1,n1,-⟩:=cE H (OR [.nilp] yi);obtain⟨D,e2,U,-,-⟩:=cE H1 (OR [.nilp] yi);have f2:Fr Em H D:=f1.trans U λ _ q=>q.elim;have n2:D.au=H.au+2:=by rw[e2,zg,n1]
 have g1:D.get H.au=B1 (OR [.nilp] yi):=by rw[U.ah _ (by omega) id,e1,xt]
 have g2:D.get (H.au+1)=B1 (OR [.nilp] yi):=by rw[e2,<-n1,xt]
 simp only[aa,bc,w0,<-e1,w2,w3,<-e2,n1,w5,w7];refine C3.q (ν b line) λ v H5⟨hv,hh⟩=>?_;obtain⟨H3,e3,f23,-,-⟩:=cE D (OR [.ptr b 0] BT);obtain⟨S,e4,Y,-,-⟩:=cE H3 (OR [.int .i64 line] bU);rw[<-e3,<-e4]at hh;rw[hv,hh];have L:Fr Em D S:=f23.trans Y λ _ q=>q.elim;have f4:Fr Em H S:=f2.trans L λ _ q=>q.elim;have n3:H3.au=H.au+3:=by rw[e3,zg,n2]
 have n4:S.au=H.au+4:=by rw[e4,zg,n3]
 have g3:S.get D.au=B1 (OR [.ptr b 0] BT):=by rw[Y.ah _ (by omega) id,e3,xt]
 have g4:S.get (D.au+1)=B1 (OR [.int .i64 line] bU):=by rw[show D.au+1=H3.au by omega,e4,xt]
 have hc4:=hc.em f4;have hlt:=hc.lt;have hsb:aC sv<H.au:=hc.sl.lt;have I:pY c sv line=(N1 c.ways).map λ k=>[eA sv (c.fr line+k)]:=by unfold pY;rw[qt (by omega)]
 refine iE.iter (fn:=TX) (lp:=Pn) (pa:=Wm 0) (pb:=XE 0) q0b g_.1 g_.2 (by decide) qxw qxx
  (xdm hc4 O g3 g4 (by omega) (by omega)) (λ i V B=>Yk c sv line H.au (H.au+1) i V B) (λ e V B=>e=.ret/\XV c sv line H.au V B) (λ x=>x=H.au\/x=H.au+1) (qm _) ?_ ?_ ?_ ?_ ?_ ?_ ?_ ?_
 .rintro x ((q|q|q)|q)
  .exact ⟨by omega,rfl,by omega⟩
  .exact ⟨by omega,rfl,by omega⟩
  .exact ⟨by omega,rfl,by omega⟩
  .exact q.elim
 .exact λ x hx=>by omega
 .exact ⟨.inl rfl,.inr rfl,by rw[L.ah _ (by omega) id];exact g1,by rw[L.ah _ (by omega) id];exact g2,by omega,by omega,λ k hk=>by omega⟩
 .exact λ i V Ha Hb h hs hn=>⟨h.vt,h.vu,by rw[hs _ h.vt];exact h.g,by rw[hs _ h.vu];exact h.gu,qn h.lt hn,qn h.XT hn,h.no⟩
 .rintro e V Ha Hb ⟨he,h⟩ hs hn;have⟨k,k1,k2,k3⟩:=h.ex;exact⟨he,h.vt,⟨k,k1,k2,by rw[hs _ h.vt];exact k3⟩,qn h.lt hn⟩
 .intro f i lr lb x hx hL2 V p a hV hf6 hnL hL6 hgL;rw[I,xk,xm]at hx;obtain⟨y,hy,rfl⟩:=hx;have F:i<c.ways:=by have:=(qo.1 hy).1;rw[jf]at this;exact this
  rw[jp F]at hy;cases hy;refine⟨_,rfl,?_⟩;obtain⟨-,wa,wb,-,t,-,n,-⟩:=_s M ⟨B1 f,NQ⟩;simp only[aa,bc,wa,AG];refine⟨hgL,?_⟩;have fx:Fr (On f) p (p.set f lb):=(Fr.refl p).set (W:=On f) (.inl rfl) _;have gL:(p.set f lb).get f=B1 lb:=xj ..;have J:(p.set f lb).au=p.au:=rfl;have hc6:dY p b sv c:=hc4.fr hf6 (λ q=>q.elim (λ q=>by omega) id) (λ q=>q.elim (λ q=>by omega) id);have h7:dY (p.set f lb) b sv c:=hc6.fr fx (λ(q:b=f)=>by omega) (λ(q:aC sv=f)=>by omega);have hLt:f≠H.au:=λ q=>hnL (by rw[q];exact a.vt);have hLu:f≠H.au+1:=λ q=>hnL (by rw[q];exact a.vu);have R:(p.set f lb).get H.au=B1 (OR [.nilp] yi):=by rw[j9 hLt];exact a.g
  have s:(p.set f lb).get (H.au+1)=B1 (OR [pS sv ((c.iO line i).map (c.fr line + ·))] yi):=by rw[j9 hLu];exact a.gu
  generalize p.set f lb=H7 at *;have hi:=O.lH line F;obtain⟨e,he⟩:∃e,e=c.en (c.fr line+i):=⟨_,rfl⟩
  have l1:Op.ae [.ptr (aC sv) (cX 21 sv (c.fr line+i)+1)] H7=B1 (.int .i64 e.st):=by rw[he];exact h7.ld hi (k:=1) (by decide)
  have l2:Op.ae [.ptr (aC sv) (cX 21 sv (c.fr line+i)+2)] H7=B1 (.bool e.r):=by rw[he];exact h7.ld hi (k:=2) (by decide)
  have l3:Op.ae [.ptr (aC sv) (cX 21 sv (c.fr line+i)+3)] H7=B1 (.bool e.w):=by rw[he];exact h7.ld hi (k:=3) (by decide)
  have K:∀e:En,(aD e)[20]? = B1 (.int .i64 e.u):=λ e=>by
   have⟨line,st,r,w,⟨d,hd⟩,⟨o,ho⟩,u⟩:=e
   match d,hd,o,ho with
   |[d0,d1,d2,d3,d4,d5,d6,d7],_,[o0,o1,o2,o3,o4,o5,o6,o7],_=>rfl
  have l20:∀k,c.fr line+k<c.sl.length->Op.ae [.ptr (aC sv) (cX 21 sv (c.fr line+k)+20)] H7=B1 (.int .i64 (c.en (c.fr line+k)).u):=λ k hk=>by rw[h7.ld hk (k:=20) (by decide),K]
  have C:c.free line i=(e.st == 0):=by rw[he];rfl
  have no':e.st≠0 -> ∀k,k<i+1->c.free line k=false:=λ Z k hk=>by
   by_cases q:k=i
   .rw [q,C];simp[Z]
   .exact a.no k (by omega)
  have z:Op.ae [.ptr (H.au+1) 0] H7=B1 (pS sv ((c.iO line i).map (c.fr line + ·))):=zh (xf s) 0;have l:c.iO line (i+1)=if e.r ||e.w then c.iO line i else match c.iO line i with
   |none=>B1 i
   |some j=>if e.u<(c.en (c.fr line+j)).u then B1 i else B1 j:=by rw[he];rfl
  -- it stays as it is
  have stay:e.st≠0->c.iO line (i+1)=c.iO line i->OY (λ V B=>Yk c sv line H.au (H.au+1) (i+1) V B) (λ e V B=>e=.ret/\XV c sv line H.au V B) f lb V p .normal [] [] H7:=λ Z hb =>
   ⟨rfl,gL,V,λ b hb=>⟨by rw[J];exact(hV b hb).1,.inl hb⟩,fx.mono λ x _ q=>.inr q,.inl ⟨rfl,a.vt,a.vu,R,by rw[hb];exact s,by rw[J];exact a.lt,by rw[J];exact a.XT,no' Z⟩⟩
  -- this one is taken
  obtain⟨H8,G⟩:∃X,X=H7.set (H.au+1) (OR [eA sv (c.fr line+i)] yi):=⟨_,rfl⟩
  have st:=Nq s (u:=eA sv (c.fr line+i)) rfl;rw[<-G]at st;have take:e.st≠0->c.iO line (i+1)=B1 i->OY (λ V B=>Yk c sv line H.au (H.au+1) (i+1) V B) (λ e V B=>e=.ret/\XV c sv line H.au V B) f lb V p .normal [] [] H8:=λ Z hb =>
   ⟨rfl,by rw[G,j9 (mO hLu)];exact gL,V,λ b hb=>⟨by rw[G];show b<H7.au;rw[J];exact(hV b hb).1,.inl hb⟩,by rw[G];exact(fx.mono λ x _ q=>.inr q).set (.inl (.inl a.vu)) _,.inl ⟨rfl,a.vt,a.vu,by rw[G,j9 (by omega)];exact R,by rw[G,xj,hb];rfl,by rw[G];show H.au<H7.au;rw[J];exact a.lt,by rw[G];show H.au+1<H7.au;rw[J];exact a.XT,no' Z⟩⟩
  by_cases A:e.st=0
  .have stt:=Nq R (u:=eA sv (c.fr line+i)) rfl;simp only[aa,bc,wb,qv,l1,xg A,stt];refine⟨rfl,?_,V,?_,?_,.inr ⟨trivial,rfl,a.vt,⟨i,F,Nz F (by rw[C];simp[A]) a.no,xj ..⟩,?_⟩⟩
   .rw [j9 (mO hLt)];exact gL
   .exact λ b hb=>⟨by show b<H7.au;rw[J];exact(hV b hb).1,.inl hb⟩
   .exact (fx.mono λ x _ q=>.inr q).set (.inl (.inl a.vt)) _
   .show H.au<H7.au;rw[J];exact a.lt
  cases hr:e.r with
  |true =>
   rw[hr]at l2;simp only[aa,bc,wb,qv,l1,A,t,l2];exact stay A (by rw[l,hr];rfl)
  |false =>
   rw[hr]at l2;cases hw:e.w with
   |true =>
    rw[hw]at l3;simp only[aa,bc,wb,qv,l1,A,t,l2,l3];exact stay A (by rw[l,hr,hw];rfl)
   |false =>
    rw[hw]at l3;rw[hr,hw]at l;cases hb:c.iO line i with
    |none =>
     rw[hb]at z l;have z:Op.ae [.ptr (H.au+1) 0] H7=B1 .nilp:=z;simp only[aa,bc,wb,qv,l1,A,t,l2,l3,n,z,Sc,st];exact take A l
    |some j =>
     rw[hb]at z l;have z:Op.ae [.ptr (H.au+1) 0] H7=B1 (eA sv (c.fr line+j)):=z;have hj:=(Tw hb).1;have a1:=l20 i hi;rw[<-he]at a1;have a2:=l20 j (O.lH line (by omega))
     by_cases q:e.u<(c.en (c.fr line+j)).u
     .simp only[aa,bc,wb,qv,l1,A,t,l2,l3,n,z,vg,a1,a2,q,st];exact take A (by rw[l];simp[q])
     .simp only[aa,bc,wb,qv,l1,A,t,l2,l3,n,z,vg,a1,a2,q];exact stay A (by rw[l,hb];simp[q])
 .intro d V T hd1 hd2 Q P N a;have hno:=a.no;have s:=a.gu;rw[I,xu,jf]at hno s;have z:Op.ae [.ptr (H.au+1) 0] T=B1 (pS sv ((c.iO line c.ways).map (c.fr line + ·))):=zh (xf s) 0;have st:=Nq a.g (u:=pS sv ((c.iO line c.ways).map (c.fr line + ·))) (EK ..);have E:d≠H.au:=λ q=>by have:=(N _ a.vt).2.2;omega
  have gd:(T.set H.au (OR [pS sv ((c.iO line c.ways).map (c.fr line + ·))] yi)).get d=B1 (.deferred (B1 [])):=by rw[j9 (mO E)];exact Q
  have rd:Op.ae [.ptr H.au 0] ((T.set H.au (OR [pS sv ((c.iO line c.ways).map (c.fr line + ·))] yi)).set d (.deferred B5))=B1 (pS sv ((c.iO line c.ways).map (c.fr line + ·))):=DD (xj ..) E;have m:c.room line=(c.iO line c.ways).map (c.fr line + ·):=by
   unfold Ca.room;rw[NS hno]
  rw[<-m]at z st gd rd;simp only[aa,bc,w12,z,st,EN,G6,rd];refine⟨gd,?_⟩;exact(((f4.trans (W':=λ x=>(x=H.au\/x=H.au+1)\/False) P λ x q=>q.elim (λ q=>.inr (by omega)) OH).set (.inr (by omega)) _).set (.inr (by omega)) _)
 .rintro e d V T hj hd1 hd2 Q P N ⟨he,hS⟩;subst he;have⟨k,k1,k2,k3⟩:=hS.ex;have E:d≠H.au:=λ q=>by have:=(N _ hS.vt).2.2;omega
  have rd:Op.ae [.ptr H.au 0] (T.set d (.deferred B5))=B1 (eA sv (c.fr line+k)):=DD k3 E;have m:c.room line=B1 (c.fr line+k):=by unfold Ca.room;rw[k2]
  simp only[aa,bc,EN,G6,rd];refine⟨Q,by rw[m];rfl,?_⟩;exact((f4.trans (W':=λ x=>(x=H.au\/x=H.au+1)\/False) P λ x q=>q.elim (λ q=>.inr (by omega)) OH).set (.inr (by omega)) _)
end
end Go.Am
namespace Go.Am
open Go.Proofs Ca
variable{M:ak}[MK M]
def bdE(line st:Int)(x:L8):Op.build (aD .zero) [(0,1),(1,1),(4,8)] [.int .i64 line,.int .i64 st,.agg (dy x)]=B1 (.agg (aD ⟨line,st,B2,B2,x,.zero,0⟩)):=by
 have⟨x,a⟩:=x
 match x,a with
 |[x0,x1,x2,x3,x4,x5,x6,x7],_=>rfl
def pA(c:Ca)(line st:Int)(x:L8):AV:=.tuple [.agg (aD (c.fill line st x).2.1),.bool (decide ((c.fill line st x).2.2=0/\(c.fill line st x).2.1.st≠0)),.int .i64 (c.fill line st x).2.2]
section
variable{H:ar}{b:Nat}{sv:AV}{c:Ca}{lines line:Int}
def xb4(n:dY H b sv c)(l:CI lines c)(hu:c.us+1<=1000000)(hl:0<=line){st:Int}(Q:st=1\/st=2)(x:L8) :
 zk M Ot [.ptr b 0,.int .i64 line,.int .i64 st,.agg (dy x)] H λ v H'=>v=pA c line st x/\dY H' b sv (c.fill line st x).1/\Fr (nA b sv) H H':=by
 refine q4r ?_;obtain⟨w0,w2,U,T,u,V⟩:=q4s M ⟨B5,Ot⟩;obtain⟨H1,e1,f1,n1,-⟩:=cE H (OR (dy x) yp);obtain⟨m,e2,p,-,-⟩:=cE H1 (OR (aD .zero) xv);have z:Fr Em H m:=f1.trans p λ _ q=>q.elim;have n2:m.au=H.au+2:=by rw[e2,zg,n1]
 have g1:m.get H.au=B1 (OR (dy x) yp):=by rw[p.ah _ (by omega) id,e1,xt]
 have Y:m.get (H.au+1)=B1 (OR (aD .zero) xv):=by rw[e2,<-n1,xt]
 have nl:¬line<0:=by omega
 have hlt:=n.lt;have hsb:aC sv<H.au:=n.sl.lt
 -- an error
 have err:∀{g:ar}(k:Int),Fr Em m g->k≠0->(c.fill line st x).2.2=k->(c.fill line st x).1=c->(c.fill line st x).2.1=.zero ->
  Op.store 21 [.ptr (H.au+1) 0,.agg (aD .zero)] g=B1 (.undef,g.set (H.au+1) (OR (aD .zero) xv))/\Op.av 21 [.ptr (H.au+1) 0] (g.set (H.au+1) (OR (aD .zero) xv))=B1 (.agg (aD .zero)) /\
  (AV.tuple [.agg (aD .zero),.bool B2,.int .i64 k]=pA c line st x/\dY (g.set (H.au+1) (OR (aD .zero) xv)) b sv (c.fill line st x).1/\Fr (nA b sv) H (g.set (H.au+1) (OR (aD .zero) xv))):=by
  intro g k f hk h1 h2 h3;have gx:g.get (H.au+1)=B1 (OR (aD .zero) xv):=by rw[f.ah _ (by omega) id];exact Y
  have fs:Fr Em H (g.set (H.au+1) (OR (aD .zero) xv)):=(z.trans f λ _ q=>q.elim).set (.inr (by omega)) _;refine⟨iv gx (jx _) (jx .zero) (zY _),fq (xj ..) (jx _),?_,by rw[h2];exact n.em fs,rY fs⟩;unfold pA;rw[h1,h3];simp[hk]
 have r:∀{q:AV},W M ⟨B5,Ot⟩ (qq6 16) B4 (eU 0 (fg (W M ⟨B5,Ot⟩ (qq6 23)) (eX M [.cM 21 8,.tmp 9,.tmp 10] (vK λ v H'=>v=pA c line st x/\dY H' b sv (c.fill line st x).1/\Fr (nA b sv) H H'))))
  [(21,q),(10,.int .i64 0),(9,.bool B2),(8,.ptr (H.au+1) 0),(7,.ptr H.au 0),(0,.ptr b 0),(1,.int .i64 line),(2,.int .i64 st),(3,.agg (dy x))] [] m:=by
  intro q;simp only[aa,bc,T];refine C3.q (Vr (line:=line) (n.em z) l) λ v H3⟨R,J⟩=>?_;rw[R];unfold wJ;cases hp:c.pos line with
  |some i =>
   have⟨s1,s2,S⟩:=err 21 J (by decide) (by unfold Ca.fill;rw[hp]) (by unfold Ca.fill;rw[hp]) (by unfold Ca.fill;rw[hp]);simp only[aa,bc,lQ,eZ,Ah,s1,s2];exact S
  |none =>
   simp only[aa,bc,ur,U];have G:=z.trans J λ _ q=>q.elim;refine C3.q (xm0 (n.em G) l hl) λ v a⟨R,f4⟩=>?_;rw[R];have e:=J.trans f4 λ _ q=>q.elim;cases hr:c.room line with
   |none =>
    have⟨s1,s2,S⟩:=err 22 e (by decide) (by unfold Ca.fill;rw[hp,hr]) (by unfold Ca.fill;rw[hp,hr]) (by unfold Ca.fill;rw[hp,hr]);unfold pS;simp only[aa,bc,u,Sc,eZ,Ah,s1,s2];exact S
   |some i =>
    obtain⟨k,k1,k2,-⟩:=Tn hr;have D:i<c.sl.length:=by rw[k2];exact l.lH line k1
    have o:=z.trans e λ _ q=>q.elim;have Z:=n.em o;have n4:=e.au;have⟨E,e5,A,n5,g5⟩:=cE a (OR (aD .zero) xv);have s6:=iv g5 (jx _) (jx (c.en i)) (zY _);obtain⟨h,w⟩:∃X,X=E.set a.au (OR (aD (c.en i)) xv):=⟨_,rfl⟩
    rw[<-w]at s6;have B:Fr (On a.au) E h:=by rw[w];exact(Fr.refl E).set (W:=On a.au) (.inl rfl) _
    have n6:h.au=a.au+1:=by rw[w];exact n5
    have g6:h.get a.au=B1 (OR (aD (c.en i)) xv):=by rw[w,xj]
    have h6:dY h b sv c:=(Z.em A).fr B (λ(q:b=a.au)=>by omega) (λ(q:aC sv=a.au)=>by omega);have K:h.get H.au=B1 (OR (dy x) yp):=by rw[B.ah _ (by omega) (λ(q:H.au=a.au)=>by omega),A.ah _ (by omega) id,e.ah _ (by omega) id];exact g1
    have L:h.get (H.au+1)=B1 (OR (aD .zero) xv):=by rw[B.ah _ (by omega) (λ(q:H.au+1=a.au)=>by omega),A.ah _ (by omega) id,e.ah _ (by omega) id];exact Y
    have⟨H7,s7,h7,f7⟩:=h6.Ga D ⟨line,st,B2,B2,x,.zero,0⟩;have P:i<(c.set i ⟨line,st,B2,B2,x,.zero,0⟩).sl.length:=by show i<(c.sl.set i _).length;rw[xq];exact D
    have l6:=fq K (lj x);unfold pS;simp only[aa,bc,u,vg,V,qv,Z.J6 D,eZ,<-e5,s6,l6,bdE,s7];refine C3.q (Xz h7 hu P) λ _ d⟨h8,f8⟩=>?_;have j:Fr (nA b sv) h d:=vW (vF f7) f8;have nW:∀y,H.au<=y -> ¬nA b sv y:=λ y hy q=>q.elim (λ q=>by omega) λ q=>by omega
    have N:d.get a.au=B1 (OR (aD (c.en i)) xv):=by rw[j.ah _ (by omega) (nW _ (by omega))];exact g6
    have O:d.get (H.au+1)=B1 (OR (aD .zero) xv):=by rw[j.ah _ (by omega) (nW _ (by omega))];exact L
    have l8:=fq N (jx (c.en i));have s:Op.ae [.ptr a.au 1] d=B1 (.int .i64 (c.en i).st):=zh (xf N) 1;have s9:=iv O (jx _) (jx (c.en i)) (zY _);have g9:(d.set (H.au+1) (OR (aD (c.en i)) xv)).get a.au=B1 (OR (aD (c.en i)) xv):=by rw[j9 (by omega)];exact N
    have t:Op.ae [.ptr a.au 1] (d.set (H.au+1) (OR (aD (c.en i)) xv))=B1 (.int .i64 (c.en i).st):=zh (xf g9) 1;have l9:=fq (xj d (H.au+1) (OR (aD (c.en i)) xv)) (jx (c.en i));have F:c.fill line st x=({c with us:=c.us+1,sl:=c.sl.set i ⟨line,st,B2,B2,x,.zero,c.us+1⟩},c.en i,0):=by unfold Ca.fill;rw[hp,hr]
    have eu:(c.set i ⟨line,st,B2,B2,x,.zero,0⟩).use i = {c with us:=c.us+1,sl:=c.sl.set i ⟨line,st,B2,B2,x,.zero,c.us+1⟩}:=by
     unfold Ca.use;rw[M8 D];unfold Ca.set;simp only[List.set_set]
    rw[eu]at h8;have fo:Fr (On (H.au+1)) d (d.set (H.au+1) (OR (aD (c.en i)) xv)):=(Fr.refl d).set (W:=On (H.au+1)) (.inl rfl) _;have I:Fr (nA b sv) H d:=vW ((vW (rY o) (rY A)).trans B λ y(q:y=a.au)=>.inr (by omega)) j;have end_:dY (d.set (H.au+1) (OR (aD (c.en i)) xv)) b sv (c.fill line st x).1/\Fr (nA b sv) H (d.set (H.au+1) (OR (aD (c.en i)) xv)):=by
     rw[F];exact⟨h8.fr fo (λ(q:b=H.au+1)=>by omega) (λ(q:aC sv=H.au+1)=>by omega),I.set (.inr (by omega)) _⟩
    by_cases C:(c.en i).st=0
    .simp only[aa,bc,l8,s,xg C,s9,t,l9];refine⟨?_,end_⟩;unfold pA;rw[F];simp[C]
    .simp only[aa,bc,l8,s,C,s9,t,l9];refine⟨?_,end_⟩;unfold pA;rw[F];simp[C]
 rcases Q with rfl|rfl
 .have t1:=xg (show(1:Int)=1 from rfl);simp only[aa,bc,w0,<-e1,n1,eZ,<-e2,w2,vg,nl];exact r
 .have t1:¬(2:Int)=1:=by decide
  have t2:=xg (show(2:Int)=2 from rfl);simp only[aa,bc,w0,<-e1,n1,eZ,<-e2,w2,vg,nl,t1];exact r
end
end Go.Am
namespace Go.Am
open Go.Proofs Ca
variable{M:ak}[MK M]
def RZ(p:Nat->Bool)(k:Nat):(N1 (k+1)).filter p=(N1 k).filter p++(if p k then[k]else[]):=by
 rw[List.range_succ,List.filter_append];congr 1;cases h:p k<;>simp[h]
def Y_(p:Nat->Bool){k:Nat}:∀m:Nat,∃X,(N1 (k+m)).filter p=(N1 k).filter p++X
 |0=>⟨[],by simp⟩
 |m+1=>by
  obtain⟨X,a⟩:=Y_ p m;rw[<-wT,RZ,a];exact⟨X++(if p (k+m)then[k+m]else[]),by rw[zy]⟩
def Zc(p:Nat->Bool){n k:Nat}(hk:k<n)(hp:p k=B4):((N1 n).filter p)[((N1 k).filter p).length]? = B1 k:=by
 obtain⟨m,rfl⟩:∃m,n=k+1+m:=⟨n-(k+1),by omega⟩
 have⟨X,a⟩:=Y_ p (k:=k+1) m;rw[a,RZ,hp];simp
def jA(c:Ca):List Nat:=(N1 c.sl.length).filter λ k=>(c.en k).st != 0
def kP(c:Ca)(sv:AV):List (List AV):=(jA c).map λ k=>[eA sv k]
def HeI(b:Nat)(sv:AV)(c:Ca)(Hx:ar):Prop:=∃c',dY Hx b sv c'/\c'.sl.length=c.sl.length /\ ∀k,(c'.en k).st=(c.en k).st
def q77{H0:ar}{p b:Nat}{sv:AV}{c:Ca}(hp:H0.get p=B1 (OR [.ptr b 0] BT))(hpl:p<H0.au)(hl:c.sl.length<=40) :
 uA M LB [] [.ptr p 0] (λ x=>x=p) (λ _=>False) (HeI b sv c) H0 (kP c sv):=by
 intro Y R S g H1 hnx hN s I loc U hI step;have⟨p1,p2,p3⟩:=hN p (.inl rfl)
 suffices h:zk M LB [.fn (.yield Y) [] [],.ptr p 0] H1 (HX R S g (λ _=>False) H1 (kP c sv).length)by
  have⟨v,H',hc,W',m,q2,q3⟩:=h.elim;exact⟨v,H',W',hc,m,q2,q3⟩
 refine qxu ?_;obtain⟨w0,w1,w7,w9,l,A,C,B,O⟩:=qxv M ⟨B5,LB⟩;have lp:∀{d:ar},Fr g H1 d->Op.ae [.ptr p 0] d=B1 (.ptr b 0):=λ f=>by rw[zh (xf (by rw[f.ah _ (by omega) p3,p2];exact hp))];rfl
 have r0:=Fr.refl (W:=g) H1;have⟨c1,Q,G,h1s⟩:=hI 0 g H1 s;have l2:Op.ae [.ptr b 2] H1=B1 sv:=Q.TS 2;have ln:Op.dm [sv]=B1 (.int .i64 ((c.sl.length:Nat):Int)):=by rw[<-G];exact(Q.sl.sl jx).len
 simp only[aa,bc,w0,w1,lp r0,vg,w7,w9,qv,l2,ln];refine dD.intro (λ n E d=>∃(i:Nat)(V:Nat->Prop),E=[(11,.int .i64 (i:Int)),(10,.int .i64 ((c.sl.length:Nat):Int)),(0,.fn (.yield Y) [] []),(1,.ptr p 0)]/\n=c.sl.length-i/\i<=c.sl.length/\Oi R g H1 d ((N1 i).filter λ k=>(c.en k).st != 0).length V) ?_ ?_
 .exact ⟨_,_,⟨0,g,rfl,rfl,x9 _,⟨s,λ b hb=>⟨I b hb,.inl hb⟩,Fr.refl _⟩⟩,by simp only[aa,bc]⟩
 rintro n E d ⟨i,V,rfl,rfl,hi,a⟩;rcases xx i c.sl.length with L|hge
 .have m:(i:Int)<((c.sl.length:Nat):Int):=by omega
  have⟨Z,F,hl',N⟩:=hI _ V d a.hR;have z:Op.ae [.ptr b 2] d=B1 sv:=F.TS 2;have y:i<Z.sl.length:=by omega
  have ix:=F.ix y;have ls:Op.ae [.ptr (aC sv) (cX 21 sv i+1)] d=B1 (.int .i64 (c.en i).st):=by rw[<-N i];exact F.ld y (k:=1) (by decide)
  have X:aj .i64 ((i:Int)+1)=((i+1:Nat):Int):=by rw[kc (by omega) (by omega)];omega
  have T:=RZ (λ k=>(c.en k).st != 0) i
  by_cases r:(c.en i).st=0
  .have j:((N1 (i+1)).filter λ k=>(c.en k).st != 0).length=((N1 i).filter λ k=>(c.en k).st != 0).length:=by rw[T];simp[r]
   simp only[aa,bc,l,m,A,B,lp a.fr,qv,z,ix,ls,xg r,C,X];exact⟨_,_,⟨i+1,V,rfl,rfl,by omega,by rw[j];exact a⟩,by simp only[aa,bc],by omega⟩
  .have j:((N1 (i+1)).filter λ k=>(c.en k).st != 0).length=((N1 i).filter λ k=>(c.en k).st != 0).length+1:=by rw[T];simp[r]
   have hg:(kP c sv)[((N1 i).filter λ k=>(c.en k).st != 0).length]? = B1 [eA sv i]:=by
    unfold kP jA;rw[xk,Zc _ L (by simp[r])];rfl
   have⟨bb,P,D,hr,J,u,ht,hs⟩:=step _ _ hg V d a.hR a.hV (a.fr.mono λ _ _ q=>.inl q);have o:Fr g H1 P:=a.fr.trans J λ b q=>(a.hV b q).2;have t:∀b,D b->b<P.au/\(g b\/H1.au<=b):=λ b q=>⟨(u b q).1,(u b q).2.elim (λ w=>(a.hV b w).2) λ w=>.inr (ze a.fr.au w)⟩
   simp only[aa,bc,l,m,A,B,lp a.fr,qv,z,ix,ls,r,O];refine C3.tH hr ?_;cases bb with
   |true =>
    simp only[aa,bc,C,X];exact⟨_,_,⟨i+1,D,rfl,rfl,by omega,⟨by rw[j];exact ht rfl,t,o⟩⟩,by simp only[aa,bc],by omega⟩
   |false =>
    simp only[aa,bc,EN];exact⟨D,o.mono λ _ _ q=>.inl q,t,.inr (hs rfl)⟩
 .have m:¬(i:Int)<((c.sl.length:Nat):Int):=by omega
  have K:i=c.sl.length:=by omega
  simp only[aa,bc,l,m,QM];refine⟨V,a.fr.mono λ _ _ q=>.inl q,a.hV,.inl ?_⟩;have e:(kP c sv).length=((N1 i).filter λ k=>(c.en k).st != 0).length:=by unfold kP jA;rw[xu,K]
  rw[e];exact a.hR
def wz{H:ar}(b:Nat):zk M qqb [.ptr b 0] H λ v H'=>v=.fn (.func LB) [] [.ptr H.au 0]/\H'=H.alloc (OR [.ptr b 0] BT):=by
 refine q41 ?_;have ca:AV.cells (.ptr b 0)=[.ptr b 0]:=rfl;have mk:Op.bt LB 0 [.ptr H.au 0]=B1 (.fn (.func LB) [] [.ptr H.au 0]):=rfl;simp only[aa,bc,q42,ca];rfl
structure FJ(c:Ca)(g:En->En)(i:Nat)(c':Ca):Prop where
 fQ:c'.fQ=c.fQ
 ways:c'.ways=c.ways
 us:c'.us=c.us
 len:c'.sl.length=c.sl.length
 en:∀k,k<c.sl.length->c'.en k=if k∈(jA c).take i then g (c.en k)else c.en k
def FJ.zero(c:Ca)(g:En->En):FJ c g 0 c:=⟨rfl,rfl,rfl,rfl,λ k hk=>by simp⟩
def xew(c:Ca):(jA c).Nodup:=List.Nodup.sublist (List.filter_sublist) List.nodup_range
def QX{c:Ca}{k:Nat}:k∈jA c↔k<c.sl.length/\(c.en k).st≠0:=by
 unfold jA;rw[List.mem_filter,List.mem_range];simp
def xi9{l:List Nat}(h:l.Nodup){i k:Nat}(hk:l[i]? = B1 k):k∉l.take i:=by
 intro hm;have⟨j,a⟩:=Md hm;rw[yw]at a;split at a
 .rename_i d;have e:=qo.1 a;have f:=qo.1 hk;exact List.pairwise_iff_getElem.1 h j i e.1 f.1 d (by rw[e.2,f.2])
 .cases a
def FJ.step{c a:Ca}{g:En->En}{i k:Nat}(h:FJ c g i a)(hk:(jA c)[i]? = B1 k):a.en k=c.en k/\FJ c g (i+1) (a.set k (g (c.en k))):=by
 have hm:=QX.1 (zj hk);have hn:=xi9 (xew c) hk;have he:a.en k=c.en k:=by rw[h.en k hm.1,qt hn]
 refine⟨he,h.fQ,h.ways,h.us,by show(a.sl.set k _).length=_;rw[xq];exact h.len,λ j d=>?_⟩;rw[BD (by rw[h.len];exact hm.1),FQ,hk]
 by_cases q:k=j
 .subst q;rw[xb rfl,xb (by simp)]
 .rw [qt q,h.en j d];have:(j∈(jA c).take i++(B1 k).toList)↔j∈(jA c).take i:=by simp[mO q]
  by_cases w:j∈(jA c).take i
  .rw [xb w,xb (this.2 w)]
  .rw [qt w,qt λ z=>w (this.1 z)]
def FJ.done{c d:Ca}{g:En->En}(h:FJ c g (jA c).length d)(hg:∀e:En,e.st=0->g e=e):d = {c with sl:=c.sl.map g}:=by
 have a:d.sl=c.sl.map g:=by
  refine yu λ k=>?_;rcases xx k c.sl.length with q|q
  .rw [FN (by rw[h.len];exact q),xk,FN q,h.en k q,zp (qm _)]
   by_cases w:(c.en k).st=0
   .rw [qt (λ z=>(QX.1 z).2 w)];show B1 (c.en k)=B1 (g (c.en k));rw[hg _ w]
   .rw [xb (QX.2 ⟨q,w⟩)];rfl
  .rw [z4 (by rw[h.len];exact q),z4 (by rw[xu];exact q)]
 have⟨s,w,l,u⟩:=d;have f:=h.fQ;have i:=h.ways;have j:=h.us;simp only at f i j a;subst f;subst i;subst j;subst a;rfl
structure Mh(c:Ca)(g:En->En)(b:Nat)(sv:AV)(i:Nat)(V:Nat->Prop)(Hx:ar):Prop where
 vb:V b
 vs:V (aC sv)
 ex:∃c',dY Hx b sv c'/\FJ c g i c'
def dY.loc{a Hb:ar}{b:Nat}{sv:AV}{c:Ca}(h:dY a b sv c)(g:Hb.get b=a.get b)(d:Hb.get (aC sv)=a.get (aC sv))(hn:a.au<=Hb.au):dY Hb b sv c :=
 ⟨by rw[g];exact h.row,qn h.lt hn,by
  have⟨sb,e1,e2,e⟩:=h.sl;have f:aC sv=sb:=by rw[e1];rfl
  rw[f]at d;exact⟨sb,e1,qn e2 hn,by rw[d];exact e⟩,h.ne,h.s8,h.w4,h.us⟩
def Mh.loc{c:Ca}{g:En->En}{b:Nat}{sv:AV}{i:Nat}{V:Nat->Prop}{a Hb:ar}(h:Mh c g b sv i V a)(hs:∀x,V x->Hb.get x=a.get x)(hn:a.au<=Hb.au):Mh c g b sv i V Hb:=by
 have⟨d,e,f⟩:=h.ex;exact⟨h.vb,h.vs,d,e.loc (hs _ h.vb) (hs _ h.vs) hn,f⟩
def Mh.hI{c:Ca}{g:En->En}(hg:∀e:En,(g e).st=e.st){b:Nat}{sv:AV}{i:Nat}{V:Nat->Prop}{d:ar}(h:Mh c g b sv i V d):HeI b sv c d:=by
 have⟨f,j,a⟩:=h.ex;refine⟨f,j,a.len,λ k=>?_⟩;rcases xx k c.sl.length with q|q
 .rw [a.en k q];split
  .exact hg _
  .rfl
 .rw [WT q,WT (by rw[a.len];exact q)]
section
variable{H:ar}{b:Nat}{sv:AV}{c:Ca}{lines line:Int}
def q31(G:dY H b sv c)(hl:c.sl.length<=40):zk M NV [.ptr b 0] H λ _ H'=>dY H' b sv c.bn/\Fr (nA b sv) H H':=by
 refine qxr ?_;have⟨w0,wa,wb,w2,U,X⟩:=_i M ⟨B5,NV⟩;simp only[aa,bc,w0,w2,vg,U];refine C3.q (wz b) λ v H5⟨hv,hh⟩=>?_;have⟨H1,e1,Z,n1,g1⟩:=cE H (OR [.ptr b 0] BT);rw[<-e1]at hh;rw[hv,hh];have I:=G.em Z;have hlt:=G.lt;have hsb:aC sv<H.au:=G.sl.lt;refine iE.uz (fn:=Ur) (lp:=Rr) (pa:=VE 0) (pb:=Wl 0) qvw n_.1 n_.2 (by decide) qtv qtw
  (q77 (b:=b) (sv:=sv) (c:=c) g1 (by omega) hl) (λ i V Y=>Mh c rj b sv i V Y) (λ _ _ _=>False) (nA b sv) (qm _) ?_ ?_ ?_ ?_ ?_ ?_ ?_ ?_ ?_
 .rintro x (q|q)
  .exact ⟨by omega,rfl,λ w=>w.elim (λ w=>by omega) λ w=>by omega⟩
  .exact q.elim
 .exact λ x B=>B.elim (λ q=>by omega) λ q=>by omega
 .exact ⟨.inl rfl,.inr rfl,c,I,FJ.zero c rj⟩
 .exact λ i V Ha Hb h hs hn=>h.loc hs hn
 .exact λ e V Ha Hb h _ _=>h
 .exact λ i V Y h=>h.hI Xe
 .intro f i lr lb x B hL2 V p s hV hf6 A hL6 O;unfold kP at B;rw[xk,xm]at B;obtain⟨k,hk,rfl⟩:=B;refine⟨_,rfl,?_⟩;obtain⟨-,wa,wb,-⟩:=_i M ⟨B1 f,NV⟩;simp only[aa,bc,wa,AG];refine⟨O,?_⟩;have fx:Fr (On f) p (p.set f lb):=(Fr.refl p).set (W:=On f) (.inl rfl) _;have gL:(p.set f lb).get f=B1 lb:=xj ..;have nL:(p.set f lb).au=p.au:=rfl;have F:=s.loc (Hb:=p.set f lb) (λ y C=>by rw[j9 (λ q:f=y=>A (by rw[q];exact C))]) (qm _);generalize p.set f lb=H7 at *;have⟨a,h7,ht⟩:=F.ex;have⟨L,S⟩:=ht.step hk;have hm:=QX.1 (zj hk);have l:k<a.sl.length:=by rw[ht.len];exact hm.1
  have⟨H8,s8,h8,f8⟩:=h7.cW l (j:=2) (by decide) (u:=.bool B2) rfl (e:={a.en k with r:=B2}) rfl;have Q:k<(a.set k {a.en k with r:=B2}).sl.length:=by show k<(a.sl.set k _).length;rw[xq];exact l
  have⟨H9,s9,h9,f9⟩:=h8.cW Q (j:=3) (by decide) (u:=.bool B2) rfl (e:={(a.set k {a.en k with r:=B2}).en k with w:=B2}) rfl;rw[M8 l,T5]at h9;have R:k<(a.set k {a.en k with r:=B2,w:=B2}).sl.length:=by show k<(a.sl.set k _).length;rw[xq];exact l
  have⟨t,T,m,D⟩:=h9.Uy R (j:=12) (n:=8) (u:=.agg (dy .zero)) (by rw[z7];exact lj _) (by rw[z7];exact Ae _) (by decide) (e:={(a.set k {a.en k with r:=B2,w:=B2}).en k with o:=.zero}) (J9 _ _);rw[M8 l,T5]at m;have ec:({a.en k with r:=B2,w:=B2,o:=.zero}:En)=rj (c.en k):=by rw[L];unfold rj;rw[qt hm.2]
  have m:dY t b sv (a.set k (rj (c.en k))):=by rw[<-ec];exact m
  have g:Fr (On (aC sv)) H7 t:=(f8.trans f9 λ _ q=>.inl q).trans D λ _ q=>.inl q;have E:f≠aC sv:=λ q=>A (by rw[q];exact s.vs);have n710:=g.au;simp only[aa,bc,wb,lZ,Ah,qv,s8,s9,T];refine⟨rfl,by rw[g.ah f (by omega) (λ(q:f=aC sv)=>E q)];exact gL,V,λ y C=>⟨by have:=(hV y C).1;omega,.inl C⟩,(fx.mono λ y _ q=>.inr q).trans g λ y(q:y=aC sv)=>.inl (.inl (by rw[q];exact s.vs)),.inl ⟨rfl,s.vb,s.vs,_,m,S⟩⟩
 .intro d V z hd1 hd2 P N hVd s;have⟨a,h1,h2⟩:=s.ex;have el:(kP c sv).length=(jA c).length:=by unfold kP;rw[xu]
  rw[el]at h2;have e:a=c.bn:=h2.done λ e h=>by unfold rj;rw[xb h]
  rw[e]at h1;have J:d≠b:=by omega
  have K:d≠aC sv:=by omega
  have fo:Fr (On d) z (z.set d (.deferred B5)):=(Fr.refl z).set (W:=On d) (.inl rfl) _;have fW:Fr (nA b sv) H z:=(rY Z).trans N λ y q=>q.elim (λ w=>.inl w) OH;simp only[aa,bc,X,G6];exact⟨P,h1.fr fo (λ(q:b=d)=>J q.symm) (λ(q:aC sv=d)=>K q.symm),fW.set (.inr (by omega)) _⟩
 .exact λ e d V z _ _ _ _ _ _ h=>h.elim
end
end Go.Am
namespace Go.Am
open Go.Proofs Ca
variable{M:ak}[MK M]
def mC(e:En):En:=if e.st≠0/\e.w=B4 then{e with d:=e.o}else e
def xna(e:En):(mC e).st=e.st:=by unfold mC;split<;>rfl
def DB(e:En):rj (mC e)=back e:=by
 unfold rj back;rw[xna]
 by_cases h:e.st=0
 .rw [xb h,xb h];unfold mC;rw[qt λ q=>q.1 h]
 .rw [qt h,qt h];unfold mC
  by_cases hw:e.w=B4
  .rw [xb ⟨h,hw⟩,xb hw]
  .rw [qt (λ q=>hw q.2),qt hw]
def xib(c:Ca):Ca.bn {c with sl:=c.sl.map mC} = c.discard:=by
 unfold Ca.bn Ca.discard;simp only[wv];congr 1;exact List.map_congr_left λ e _=>DB e
section
variable{H:ar}{b:Nat}{sv:AV}{c:Ca}{lines line:Int}
def xbw(N:dY H b sv c)(hl:c.sl.length<=40):zk M Oo [.ptr b 0] H λ _ H'=>dY H' b sv c.discard/\Fr (nA b sv) H H':=by
 refine qvx ?_;have⟨w0,wa,wb,w2,U,X⟩:=Y' M ⟨B5,Oo⟩;simp only[aa,bc,w0,w2,vg,U];refine C3.q (wz b) λ v H5⟨hv,hh⟩=>?_;have⟨H1,e1,f1,n1,g1⟩:=cE H (OR [.ptr b 0] BT);rw[<-e1]at hh;rw[hv,hh];have O:=N.em f1;have hlt:=N.lt;have hsb:aC sv<H.au:=N.sl.lt;refine iE.uz (fn:=Uo) (lp:=Rj) (pa:=XG 0) (pb:=Zj 0) qtx qkc.1 qkc.2 (by decide) qse qsf
  (q77 (b:=b) (sv:=sv) (c:=c) g1 (by omega) hl) (λ i V Z=>Mh c mC b sv i V Z) (λ _ _ _=>False) (nA b sv) (qm _) ?_ ?_ ?_ ?_ ?_ ?_ ?_ ?_ ?_
 .rintro x (q|q)
  .exact ⟨by omega,rfl,λ w=>w.elim (λ w=>by omega) λ w=>by omega⟩
  .exact q.elim
 .exact λ x C=>C.elim (λ q=>by omega) λ q=>by omega
 .exact ⟨.inl rfl,.inr rfl,c,O,FJ.zero c mC⟩
 .exact λ i V Ha Hb h hs hn=>h.loc hs hn
 .exact λ e V Ha Hb h _ _=>h
 .exact λ i V Z h=>h.hI xna
 .intro f i lr lb x C hL2 V p g hV hf6 B hL6 R;unfold kP at C;rw[xk,xm]at C;obtain⟨k,hk,rfl⟩:=C;refine⟨_,rfl,?_⟩;obtain⟨-,wa,wb,-⟩:=Y' M ⟨B1 f,Oo⟩;simp only[aa,bc,wa,AG];refine⟨R,?_⟩;have fx:Fr (On f) p (p.set f lb):=(Fr.refl p).set (W:=On f) (.inl rfl) _;have gL:(p.set f lb).get f=B1 lb:=xj ..;have nL:(p.set f lb).au=p.au:=rfl;have L:=g.loc (Hb:=p.set f lb) (λ y t=>by rw[j9 (λ q:f=y=>B (by rw[q];exact t))]) (qm _);generalize p.set f lb=H7 at *;have⟨a,E,ht⟩:=L.ex;have⟨l,r⟩:=ht.step hk;have hm:=QX.1 (zj hk);have m:k<a.sl.length:=by rw[ht.len];exact hm.1
  have K:f≠aC sv:=λ q=>B (by rw[q];exact g.vs);have lw:Op.ae [.ptr (aC sv) (cX 21 sv k+3)] H7=B1 (.bool (a.en k).w):=E.ld m (k:=3) (by decide);cases hw:(a.en k).w with
  |true =>
   rw[hw]at lw;have⟨H8,s8,J,G⟩:=E.Uy m (j:=4) (n:=8) (u:=.agg (dy (a.en k).o)) (by rw[z7];exact lj _) (by rw[z7];exact Ae _) (by decide) (e:={a.en k with d:=(a.en k).o}) (Jf _ _);have F:({a.en k with d:=(a.en k).o}:En)=mC (c.en k):=by
    have s:(c.en k).w=true:=by rw[<-l];exact hw
    rw[l];unfold mC;rw[xb ⟨hm.2,s⟩]
   have J:dY H8 b sv (a.set k (mC (c.en k))):=by rw[<-F];exact J
   have n78:=G.au;simp only[aa,bc,wb,qv,lw,E.ldO m,s8];exact⟨rfl,by rw[G.ah f (by omega) (λ(q:f=aC sv)=>K q)];exact gL,V,λ y t=>⟨by have:=(hV y t).1;omega,.inl t⟩,(fx.mono λ y _ q=>.inr q).trans G λ y(q:y=aC sv)=>.inl (.inl (by rw[q];exact g.vs)),.inl ⟨rfl,g.vb,g.vs,_,J,r⟩⟩
  |false =>
   rw[hw]at lw;have F:a.set k (mC (c.en k))=a:=by
    have hu:mC (c.en k)=a.en k:=by
     have s:(c.en k).w=false:=by rw[<-l];exact hw
     unfold mC;rw[qt (λ q=>by rw[s]at q;exact Ql q.2),l]
    rw[hu];unfold Ca.set Ca.en;rw[qy m];simp
   rw[F]at r;simp only[aa,bc,wb,qv,lw];exact⟨rfl,gL,V,λ y t=>⟨by have:=(hV y t).1;omega,.inl t⟩,fx.mono λ y _ q=>.inr q,.inl ⟨rfl,g.vb,g.vs,_,E,r⟩⟩
 .intro d V Y hd1 P S Q hVd g;have⟨a,h1,I⟩:=g.ex;have el:(kP c sv).length=(jA c).length:=by unfold kP;rw[xu]
  rw[el]at I;have e:a = {c with sl:=c.sl.map mC}:=I.done λ e h=>by unfold mC;rw[qt λ q=>q.1 h]
  have z:d≠b:=by omega
  have A:d≠aC sv:=by omega
  have fW:Fr (nA b sv) H Y:=(rY f1).trans Q λ y q=>q.elim (λ w=>.inl w) OH;simp only[aa,bc,X];refine C3.q (q31 h1 (by rw[I.len];exact hl)) λ _ D⟨h3,f3⟩=>?_;rw[e,xib]at h3;have T:D.get d=B1 (.deferred (B1 [])):=by rw[f3.ah d P (λ q=>q.elim z A)];exact S
  have fo:Fr (On d) D (D.set d (.deferred B5)):=(Fr.refl D).set (W:=On d) (.inl rfl) _;simp only[aa,bc,G6];exact⟨T,h3.fr fo (λ(q:b=d)=>z q.symm) (λ(q:aC sv=d)=>A q.symm),(vW fW f3).set (.inr (by omega)) _⟩
 .exact λ e d V Y _ _ _ _ _ _ h=>h.elim
end
end Go.Am
namespace Go.Am
open Go.Proofs Ca
variable{M:ak}[MK M]
def pJ(s w:Nat):Ca:=⟨s,w,JV (s*w) .zero,0⟩
def hK(s w k:Nat):(pJ s w).en k=.zero:=by
 unfold Ca.en pJ;simp only[T1];split<;>rfl
def Ft(lines:Int){s w:Nat}(hs:0<s)(hw:0<w):CI lines (pJ s w) :=
 ⟨je ..,hs,hw,λ i _ h=>by rw[hK]at h;exact absurd rfl h,λ i j _ _ h=>by rw[hK]at h;exact absurd rfl h⟩
def xff(s w:Nat):(pJ s w).plain:=λ i _ h=>by rw[hK]at h;exact absurd rfl h
def _4:∀n:Nat,(JV n En.zero).flatMap aD=fX n (aD .zero)
 |0=>rfl
 |n+1=>by rw[Qr,j5,_4 n];rfl
def sy(s w:Int):Prop:=1<=s/\s<=8/\1<=w/\w<=4
instance(s w:Int):Decidable (sy s w):=inferInstanceAs (Decidable (_/\_))
def YT(H:ar)(s w:Int)(v:AV)(H':ar):Prop:=Fr Em H H'/\(¬sy s w/\v=.tuple [.nilp,.int .i64 2]\/sy s w /\ ∃b sv,v=.tuple [.ptr b 0,.int .i64 0]/\dY H' b sv (pJ s.toNat w.toNat)/\H.au<=b/\H.au<=aC sv)
def xiy{H:ar}(s w:Int):zk M Vn [.int .i64 s,.int .i64 w] H (YT H s w):=by
 refine ah1 ?_;obtain⟨w0,w2,j⟩:=Ef M ⟨B5,Vn⟩
 by_cases f:s<1
 .simp only[aa,bc,w0,w2,f];exact⟨Fr.refl _,.inl ⟨λ q=>by have:=q.1;omega,rfl⟩⟩
 by_cases g:8<s
 .simp only[aa,bc,w0,w2,f,g];exact⟨Fr.refl _,.inl ⟨λ q=>by have:=q.2.1;omega,rfl⟩⟩
 by_cases h:w<1
 .simp only[aa,bc,w0,w2,f,g,h];exact⟨Fr.refl _,.inl ⟨λ q=>by have:=q.2.2.1;omega,rfl⟩⟩
 by_cases l:4<w
 .simp only[aa,bc,w0,w2,f,g,h,l];exact⟨Fr.refl _,.inl ⟨λ q=>by have:=q.2.2.2;omega,rfl⟩⟩
 obtain⟨a,rfl⟩:=jt (show 0<=s by omega);obtain⟨d,rfl⟩:=jt (show 0<=w by omega);have p:a*d<=8*4:=Nat.mul_le_mul (by omega) (by omega);have t:aj .i64 ((a:Int)*(d:Int))=((a*d:Nat):Int):=by rw[<-Int.natCast_mul];exact kc (by omega) (by omega)
 have mk:=UW xv 160 (aD .zero) (a*d) .i64 .i64 (by omega) (by omega);rw[<-_4]at mk;obtain⟨H1,e1,n,n1,-⟩:=cE H (OR ((JV (a*d) En.zero).flatMap aD) xv);obtain⟨sv,e⟩:∃sv:AV,sv=.slice H.au 0 (a*d) (a*d):=⟨_,rfl⟩
 have i:Op.sliceTo (a*d) (a*d) H.au=sv:=by rw[e];rfl
 have r:aC sv=H.au:=by rw[e];rfl
 have m:Op.build [.int .i64 0,.int .i64 0,.nils,.int .i64 0] [(0,1),(1,1),(2,1)] [.int .i64 (a:Int),.int .i64 (d:Int),sv]=B1 (.agg (FK (pJ a d) sv)):=by rw[e];rfl
 obtain⟨u,e2,k,-,o⟩:=cE H1 (OR (FK (pJ a d) sv) We);simp only[aa,bc,w0,w2,f,g,h,l,j,t,eZ,mk,i,<-e1,m,<-e2];refine⟨n.trans k λ _ q=>q.elim,.inr ⟨⟨by omega,by omega,by omega,by omega⟩,_,sv,rfl,⟨o,by rw[e2,zg];omega,⟨H.au,?_,?_,?_⟩,by omega,by show a<=8;omega,by show d<=4;omega,⟨vJ _,by show(0:Int)<=1000000;decide⟩⟩,by omega,by omega⟩⟩
 .show sv=.slice H.au 0 (JV (a*d) En.zero).length (JV (a*d) En.zero).length;rw[je];exact e
 .rw [e2,zg];omega
 .rw [k.ah _ (by omega) id,e1,xt];rfl
end Go.Am
