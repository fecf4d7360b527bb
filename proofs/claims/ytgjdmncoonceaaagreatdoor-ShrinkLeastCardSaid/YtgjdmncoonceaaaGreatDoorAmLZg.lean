import Derived.Test.YtgjdmncoonceaaaGreatDoorAmLZd
import Derived.Test.YtgjdmncoonceaaaGreatDoorAmLZf
import Derived.Test.YtgjdmncoonceaaaGreatDoorAmLZe
set_option linter.defProp false
set_option linter.unusedVariables false
set_option linter.unusedSimpArgs false
set_option linter.unusedSectionVars false
set_option maxRecDepth 100000
open BitVec renaming ofInt→BE
open Bool renaming noConfusion→Py,false→B2,true→B4
open False renaming elim→Nn
open Go renaming IntKind→PJ
open List renaming range→N5,replicate→Jr
open Nat renaming beq→JW,ble→Oh,blt→Pk
open Option renaming none→B5,some→B1
open Nat renaming reduceEqDiff→bc
namespace Go.Am
def hO(x:Nat):List AV:=[.int .i64 (x:Int)]
def ag4(x:Nat):(hO x).length=1:=rfl
def NN(l:List Nat):l.flatMap hO=l.map λ(x:Nat)=>AV.int .i64 (x:Int):=by
 induction l with
 |nil=>rfl
 |cons a l ih=>rw[j6,ih];rfl
def wA(l:List Nat):(l.flatMap hO).length=l.length:=by rw[NN,xr]
structure mQ(e:Nat)(H0 H:ar)(v:AV)(xs:List Nat):Prop where
 own:(v=.nils/\xs=[]) \/ ∃b m rest,v=.gslice b 0 m 1 0 xs.length/\b<H.au/\H0.au<=b/\m=xs.length+rest.length/\H.get b=B1 (.grown m 1 (xs.flatMap hO++rest) e (0,0))
 fr:Fr Em H0 H
section
variable{e:Nat}{H0 H:ar}{v:AV}{xs:List Nat}
def mQ.nil(e:Nat)(H:ar):mQ e H H .nils []:=⟨.inl ⟨rfl,rfl⟩,Fr.refl H⟩
def mQ.fresh(h:mQ e H0 H v xs):∀b,aM v b->H0.au<=b/\b<H.au:=by
 rintro b ⟨a,rfl⟩;rcases h.own with⟨rfl,_⟩|⟨b,m,rest,rfl,c,d,_⟩
 .exact (a rfl).elim
 .exact ⟨d,c⟩
def mQ.sl(h:mQ e H0 H v xs):bR hO 1 H v xs:=by
 rcases h.own with⟨rfl,rfl⟩|⟨b,m,rest,rfl,a,d,f,c⟩
 .exact ⟨rfl,rfl⟩
 .refine ⟨by rw[wA,LI],rfl,rfl,by omega,.inr ⟨a,_,O5 c,?_⟩⟩;rw[tR,xg (by rw[qv,wA];omega),Ax,yx,LI,vn (by rw[wA];exact qm _),zi (by rw[wA];exact qm _)]
def mQ.vT{H':ar}{W:Nat->Prop}(h:mQ e H0 H v xs)(f:Fr W H H')(c:Fr Em H0 H')(hw:∀b,aM v b -> ¬W b):mQ e H0 H' v xs:=by
 refine⟨?_,c⟩;rcases h.own with q|⟨b,m,rest,rfl,a,d,g,i⟩
 .exact .inl q
 .exact .inr ⟨b,m,rest,rfl,qn a f.au,d,g,by rw[f.ah b a (hw b ⟨by simp,rfl⟩)];exact i⟩
def mQ.em{H':ar}(h:mQ e H0 H v xs)(f:Fr Em H H'):mQ e H0 H' v xs:=h.vT f (h.fr.em f) λ _ _ q=>q
def mQ.cut(h:mQ e H0 H v xs){k:Nat}(hk:k<=xs.length){z:Int}(i:z=k)(kk:PJ) :
 ∃g,Op.aA 1 [B5,B1 0,B5] [v,.int kk z]=B1 g/\mQ e H0 H g (xs.take k) /\ ∀b,aM g b->aM v b:=by
 rcases h.own with⟨rfl,rfl⟩|⟨b,m,rest,rfl,j,l,p,o⟩
 .have:k=0:=by simpa using hk
  subst this;refine⟨.nils,?_,⟨.inl ⟨rfl,rfl⟩,h.fr⟩,λ b hb=>hb⟩;have c:bound B5 0 0=B1 0:=rfl;simp[Op.aA,arg,jP,df,c,tH i (qm 0)]
 .have e1:∀n,JW n n=true:=λ n=>by simp
  have a:∀d m,bound B5 d m=B1 d:=λ _ _=>rfl;have f:=ye (show k<=m-0 by omega);refine⟨.gslice b (0+0) m 1 (cond (JW 0 0) 0 (0*1)) (k-0),by simp only[Op.aA,arg,jP,zo,qr,df,a,tH i (show k<=m-0 by omega),e1,f,ye (xx m),z7,xu],⟨.inr ⟨b,m,(xs.drop k).flatMap hO++rest,?_,j,l,?_,?_⟩,h.fr⟩,λ b hb=>⟨by simp,hb.2⟩⟩
  .rw [jr,Nat.min_eq_left hk];rfl
  .rw [jr,qv,wA,jq];omega
  .rw [o,<-jf,<-js,yt]
def mQ.push(h:mQ e H0 H v xs){x:Nat}{zero:List AV}{bytes:Nat}(G:zero.length=1)(D:(xs.length+1)*bytes<=140737488355328)(u:xs.length+1<=140737488355328){K:bE->(Nat->AV)->Bool->AV->ar->Prop}{m:Bool}
 (hk:∀A H',mQ e H0 H' A (xs ++ [x])->Fr (aM v) H H'->(∀b,aM A b->aM v b\/H.au<=b)->K (.row [.int .i64 (x:Int)] e (0,0) B4) (Op.sliceTo 1 1) m A H') :
 jF m (Op.buildSlice e 1 zero [(0,1)] [.int .i64 (x:Int)]) λ g o mk=>jF g (Op.append e 1 bytes [v,mk H.au] (H.alloc o)) (K o mk):=by
 have hb:Op.buildSlice e 1 zero [(0,1)] [.int .i64 (x:Int)]=B1 (.row [.int .i64 (x:Int)] e (0,0) B4,Op.sliceTo 1 1):=VV e 1 zero (.int .i64 (x:Int)) G rfl;rw[hb];have f:Fr Em H (H.alloc (.row [.int .i64 (x:Int)] e (0,0) B4)):=(Fr.refl H).alloc _;have k:Sl (H.alloc (.row [.int .i64 (x:Int)] e (0,0) B4)) 1 (Op.sliceTo 1 1 H.au) 1 [.int .i64 (x:Int)]:=Ej rfl;have e1:∀n,JW n n=true:=λ n=>by simp
 have ha:aN [AV.int .i64 (x:Int)]=true:=rfl;have j:Pk 0 1=true:=rfl;have l:JW 1 0=false:=rfl;have d:=T7 D u;refine jF.intro rfl ?_;rcases h.own with⟨rfl,rfl⟩|⟨b,i,rest,rfl,I,y,z,J⟩
 .have d:fits 1 bytes=true:=by simpa using d
  refine jF.intro (a:=.gslice (H.au+1) 0 1 1 0 1) (b:=(H.alloc (.row [.int .i64 (x:Int)] e (0,0) B4)).alloc (.grown 1 1 [.int .i64 (x:Int)] e (0,0))) ?_ (hk _ _ ⟨.inr ⟨H.au+1,1,[],rfl,?_,?_,rfl,?_⟩,?_⟩ ((f.alloc _).mono λ _ _ q=>q.elim) λ b hb=>.inr ?_)
  .simp only[Op.append,k.eJ,k.first,qr,ha,xu,cO,l,zp,d,j,z7,dC,xz]
  .rw [xz,xz];omega
  .have:=h.fr.au;omega
  .exact xq ..
  .exact (h.fr.em f).alloc _
  .rw [hb.2];show H.au<=H.au+1;omega
 .have p:(H.alloc (.row [.int .i64 (x:Int)] e (0,0) B4)).get b=B1 (.grown i 1 (xs.flatMap hO++rest) e (0,0)):=by rw[zV I];exact J
  cases rest with
  |nil =>
   have hm:i=xs.length:=by simpa using z
   subst hm;have s:Oh (0+xs.length+1) xs.length=false:=by cases E:Oh (0+xs.length+1) xs.length with|false=>rfl|true=>rw[uh]at E;omega
   have t:=ye (show 0+xs.length<=xs.length by omega);have B:=ye (xx (xs.length*1));refine jF.intro (a:=.gslice (H.au+1) 0 (xs.length+1) 1 0 (xs.length+1)) (b:=((H.alloc (.row [.int .i64 (x:Int)] e (0,0) B4)).kill b).alloc (.grown (xs.length+1) 1 (xs.flatMap hO ++ [.int .i64 (x:Int)]) e (0,0))) ?_ (hk _ _ ⟨.inr ⟨H.au+1,xs.length+1,[],?_,?_,?_,?_,?_⟩,?_⟩ ?_ λ b hb=>.inr ?_)
   .simp only[Op.append,k.eJ,k.first,qr,ha,xu,cO,zp,e1,t,j,z7,s,d,p,B,dC,HH,xz,pO,zn,JW]
   .rw [qv];rfl
   .rw [xz,HH,xz];omega
   .have:=h.fr.au;omega
   .rw [qv];rfl
   .rw [zn,js];have:=xq ((H.alloc (.row [.int .i64 (x:Int)] e (0,0) B4)).kill b) (.grown (xs.length+1) 1 (xs.flatMap hO ++ [.int .i64 (x:Int)]) e (0,0));rw[HH,xz]at this;exact this
   .exact ((h.fr.em f).kill (.inr y)).alloc _
   .exact (Fr.kill (W:=aM (AV.gslice b 0 xs.length 1 0 xs.length)) (f.mono λ _ _ q=>q.elim) (.inl ⟨by simp,rfl⟩)).alloc _
   .rw [hb.2];show H.au<=H.au+1;omega
  |cons r rest =>
   have s:=ye (show 0+xs.length+1<=i by simp at z;omega);have t:=ye (show 0+xs.length<=i by omega);have w:(H.alloc (.row [.int .i64 (x:Int)] e (0,0) B4)).store b ((0+xs.length)*1) [.int .i64 (x:Int)]=B1 ((H.alloc (.row [.int .i64 (x:Int)] e (0,0) B4)).set b (.grown i 1 ((xs ++ [x]).flatMap hO++rest) e (0,0))):=by
    have F:dE (0,0) ((0+xs.length)*1) (cQ [AV.int .i64 (x:Int)])=true:=by simp[dE]
    simp only[ar.store,ha,xu,p,F,AZ];rw[xg (by rw[qv,wA];simp),qr];congr 4;rw[yf,LI,vn (by rw[wA];exact qm _),zi (by rw[wA];exact qm _),js]
    .rfl
    .rw [yf,LI,show[AV.int .i64 (x:Int)].length=1 from rfl,IQ,ju (by rw[wA];omega),wA];simp
   refine jF.intro (a:=.gslice b 0 i 1 0 (xs.length+1)) (b:=(H.alloc (.row [.int .i64 (x:Int)] e (0,0) B4)).set b (.grown i 1 ((xs ++ [x]).flatMap hO++rest) e (0,0))) ?_ (hk _ _ ⟨.inr ⟨b,i,rest,?_,?_,y,?_,?_⟩,?_⟩ ?_ λ c C=>.inl ⟨by simp,C.2⟩)
   .simp only[Op.append,k.eJ,k.first,qr,ha,xu,cO,l,zp,e1,t,j,z7,s,w]
   .rw [qv];rfl
   .rw [tO,xz];omega
   .rw [qv];simp at z⊢;omega
   .exact xf ..
   .exact (h.fr.em f).set (.inr y) _
   .exact Fr.set (W:=aM (AV.gslice b 0 i 1 0 xs.length)) (f.mono λ _ _ q=>q.elim) (.inl ⟨by simp,rfl⟩) _
end
end Go.Am
namespace Go.Am
def RV{len size b o:Nat}{k:PJ}{j:Int}{i:Nat}(c:j=i)(a:i<len):Op.aV len size [.ptr b o,.int k j]=B1 (.ptr b (o+i*size)):=by
 simp only[Op.aV,LH c a,qr]
def Qk{k:PJ}{a:Nat}{b:Int}(hb:0<b):Op.bin .rem [.int k (a:Int),.int k b]=B1 (.int k ((a % b.toNat:Nat):Int)):=by
 rw[vB k _ _ (by omega),UE (by omega)];congr 2;rw[Int.natCast_emod];congr 1;omega
namespace Lang
def ints(l:List Nat):List Int:=l.map λ(n:Nat)=>(n:Int)
end Lang
end Go.Am
namespace Go.Am
def OP(k k':PJ)(a:Int)(n:Nat):Op.bin .shr [.int k a,.int k' n]=B1 (.int k (a.fdiv (2 ^ (min n k.bits)))):=by
 have e:AR (n:Int) 0=false:=by rw[MD];simp
 simp_all[Op.bin,nP,eB,ud]
def JM(k k':PJ)(a:Int)(n:Nat):Op.bin .shl [.int k a,.int k' n]=B1 (.int k (aj k (a*2 ^ (min n k.bits)))):=by
 have e:AR (n:Int) 0=false:=by rw[MD];simp
 simp_all[Op.bin,nP,eB,ud]
end Go.Am
namespace Go.Am
namespace Lang
structure iW where
 op:Int
 a:Int
 b:Int
 c:Int
 A8:Int
def Gd(o:Nat)(x y:Int):Int :=
 if o=4 then aj .u64 (x+y)else if o=5 then aj .u64 (x-y)else if o=6 then aj .u64 (x*y)
 else if o=7 then aj .u64 ((BE 64 x &&& BE 64 y).toNat)else if o=8 then aj .u64 ((BE 64 x ^^^ BE 64 y).toNat)
 else if o=9 then aj .u64 (x*2 ^ (y % 64).toNat)else aj .u64 (x / 2 ^ (y % 64).toNat)
structure pE where
 kind:Int
 au:Int
 pA:Int
 value:Int
 addr:Int
def iA:pE:=⟨0,0,0,0,0⟩
def pN(op:Nat):List UInt8 :=
 if op=2 then[65,73]else if op=3 then[65,66]else if 4<=op/\op<=10 then[65,66,67]
 else if op=11\/op=12\/op=14\/op=15\/op=16 then[65,66,73]else if op=13 then[73]else[]
def iW.mM(i:iW):Prop:=1<=i.op/\i.op<=18/\(65∈pN i.op.toNat->0<=i.a/\i.a<8)/\(66∈pN i.op.toNat->0<=i.b/\i.b<8)/\(67∈pN i.op.toNat->0<=i.c/\i.c<8)
instance(i:iW):Decidable i.mM:=inferInstanceAs (Decidable (_/\_))
def qD(n:Int):Nat:=(BE 64 n &&& 7#64).toNat
def rg(rs:List Int)(n:Int):Int:=rs.getD (qD n) 0
def oi(i:iW)(pc:Int)(q:Bool):pE:=if q=B4 then(if i.A8<0\/1024<i.A8 then iA else⟨2,i.A8,0,0,0⟩)else⟨2,pc+1,0,0,0⟩
def iW.gf(i:iW)(rs:List Int)(pc:Int):pE :=
 if¬i.mM\/pc<0\/1024<=pc then iA
 else if i.op=1 then⟨7,pc+1,0,0,0⟩
 else if i.op=2 then⟨1,pc+1,i.a,aj .u64 i.A8,0⟩
 else if i.op=3 then⟨1,pc+1,i.a,rg rs i.b,0⟩
 else if i.op<=10 then⟨1,pc+1,i.a,Gd i.op.toNat (rg rs i.b) (rg rs i.c),0⟩
 else if i.op=11 then⟨3,pc+1,i.a,0,aj .u64 (rg rs i.b+aj .u64 i.A8)⟩
 else if i.op=12 then⟨4,pc+1,0,rg rs i.a,aj .u64 (rg rs i.b+aj .u64 i.A8)⟩
 else if i.op=13 then oi i pc B4
 else if i.op=14 then oi i pc (decide (rg rs i.a=rg rs i.b))
 else if i.op=15 then oi i pc (decide (rg rs i.a≠rg rs i.b))
 else if i.op=16 then oi i pc (decide (rg rs i.a<rg rs i.b))
 else if i.op=17 then⟨5,pc+1,0,0,0⟩
 else⟨6,pc+1,0,0,0⟩
end Lang
end Go.Am
namespace Go.Am
def qX(AP:ak)(g:Nat)(pre cap:List AV)(N O:Nat->Prop)(H0:ar)(xs:List (List AV)):Prop :=
 ∀(L:Nat)(R:Nat->(Nat->Prop)->ar->Prop)(S:(Nat->Prop)->ar->Prop)(W0:Nat->Prop)(H:ar),
  H0.au<=H.au->(∀b,N b\/O b->b<H0.au/\H.get b=H0.get b /\ ¬W0 b)->R 0 W0 H->(∀b,W0 b->b<H.au) ->
  (∀i W H H',R i W H->(∀b,W b->H'.get b=H.get b)->H.au<=H'.au->R i W H')->(∀W H H',S W H->(∀b,W b->H'.get b=H.get b)->H.au<=H'.au->S W H') ->
  (∀(i:Nat)x,xs[i]? = B1 x -> ∀W H',R i W H'->(∀b,W b->b<H'.au/\(W0 b\/H.au<=b))->Fr (λ b=>W0 b\/O b) H H' ->
   ∃bb H'' W',sR AP L x H' (.ret (.bool bb)) H''/\Fr W H' H''/\(∀b,W' b->b<H''.au/\(W b\/H'.au<=b))/\(bb=B4->R (i+1) W' H'')/\(bb=B2->S W' H'')) ->
  ∃v H' W',CALL AP g (pre++(.fn (.yield L) [] []::cap)) H (.ret v) H'/\Fr (λ b=>W0 b\/O b) H H'/\(∀b,W' b->b<H'.au/\(W0 b\/H.au<=b))/\(R xs.length W' H'\/S W' H')
section
variable{AP:ak}
def xnv{f:Nat}{fn:bZ}{k:Nat}{lp:dT}(hf:AP.func f=B1 fn)(hk:nth fn.loops k=B1 lp){tm:T AV}{aZ:List aK}{up:Option aG}{H:ar}{Q:cN}
 {g:Nat} {pre cap:List AV} {N O:Nat->Prop} {H0:ar} {xs:List (List AV)} (mY:qX AP g pre cap N O H0 xs)
 (P:Nat->(Nat->Prop)->ar->Prop) (y:aW->(Nat->Prop)->ar->Prop) (m:Nat->Prop)
 (hn:H0.au<=H.au) (hN:∀b,N b\/O b->b<H0.au/\H.get b=H0.get b /\ ¬m b) (hW0:∀b,m b->b<H.au) (h0:P 0 m H)
 (loc:∀i W H H',P i W H->(∀b,W b->H'.get b=H.get b)->H.au<=H'.au->P i W H') (w:∀e W H H',y e W H->(∀b,W b->H'.get b=H.get b)->H.au<=H'.au->y e W H')
 (z:∀(L d i:Nat)x,xs[i]? = B1 x->H.au<=L -> ∀W H1,P i W H1->(∀b,W b->b<H1.au/\(m b\/H.au<=b))->Fr (λ b=>m b\/O b) H H1 -> ¬W L->L<H1.au->H1.get L=B1 (.loop .ready B5 f k tm d) ->
  ∃D,Kx tm lp.params x=B1 D/\WP AP ⟨B1 L,f⟩ lp.assign ⟨D,[],B5,H1⟩ λ e dh=>e=.normal/\dh.H.get L=B1 (.loop .ready B5 f k tm d) /\
   WP AP ⟨B1 L,f⟩ lp.body ⟨dh.tm,dh.aZ,dh.up,dh.H.set L (.loop .busy B5 f k tm d)⟩ λ e2 a=>a.aZ=[]/\a.H.get L=B1 (.loop .busy B5 f k tm d) /\
    ∃W':Nat->Prop,(∀b,W' b->b<a.H.au/\(W b\/H1.au<=b))/\Fr (λ b=>W b\/b=L) H1 a.H/\(e2=.normal/\P (i+1) W' a.H\/gK e2/\y e2 W' a.H))
 (M:∀d W' H',H.au<=d->d<H'.au->H'.get d=B1 (.deferred (B1 []))->Fr (λ b=>m b\/O b) H H'->(∀b,W' b->b<H'.au/\(m b\/H.au<=b)/\b≠d)->P xs.length W' H'->Q .normal ⟨tm,.iy d::aZ,up,H'⟩)
 (C:∀e d W' H',gK e->H.au<=d->d<H'.au->H'.get d=B1 (.deferred (B1 []))->Fr (λ b=>m b\/O b) H H'->(∀b,W' b->b<H'.au/\(m b\/H.au<=b)/\b≠d)->y e W' H'->Q e ⟨tm,.iy d::aZ,up,H'⟩) :
 JI AP ⟨B5,f⟩ k ⟨tm,aZ,up,H⟩ Q (.fn (.func g) pre cap):=by
 let d:=H.au
 let L:=H.au+1
 let Hd:=H.alloc (.deferred (B1 []))
 let HL:=Hd.alloc (.loop .ready B5 f k tm d)
 have hHL:HL.au=H.au+2:=rfl;have hgL:HL.get L=B1 (.loop .ready B5 f k tm d):=xq Hd _;have hgd:HL.get d=B1 (.deferred (B1 [])):=by rw[show HL.get d=Hd.get d from zV (by show H.au<H.au+1;omega) _];exact xq H _
 have R:Fr Em H HL:=((Fr.refl H).alloc _).alloc _;have hold:∀b,b<H.au->HL.get b=H.get b:=λ b hb=>R.ah b hb (λ q=>q);have⟨v,H',W',hc,B,J,hres⟩:=mY L
  (λ i W H'=>∃V:Nat->Prop,(∀b,V b->W b)/\W L /\ ¬V L /\ ¬W d/\(∀b,W b->V b\/b=L)/\P i V H'/\H'.get L=B1 (.loop .ready B5 f k tm d)/\L<H'.au)
  (λ W H'=>∃(V:Nat->Prop)(e:aW)(j:im),(∀b,V b->W b)/\W L /\ ¬V L /\ ¬W d/\(∀b,W b->V b\/b=L)/\gK e/\kX e=B1 j/\y e V H'/\H'.get L=B1 (.loop .done (B1 j) f k tm d)/\L<H'.au)
  (λ b=>m b\/b=L) HL (by omega)
  (by grind)
  (by grind)
  (by grind)
  (λ i W H1 n⟨V,v1,v2,E,v4,v5,v6,F,G⟩hs hle=>⟨V,v1,v2,E,v4,v5,(by grind),by grind,qn G hle⟩)
  (by grind)
  (λ i x hx W H1⟨V,v1,v2,E,v4,v5,v6,F,G⟩hb U=>by
   have hLn0:L=H.au+1:=rfl;have S:Fr (λ b=>m b\/O b) H H1:=⟨(by omega),λ b hb hw=>by rw[U.ah b (by omega) (by grind),hold b hb]⟩
   have xH:∀b,V b->b<H1.au/\(m b\/H.au<=b):=λ b q=>(by grind)
   have⟨D,hbp,hw⟩:=z L d i x hx (by show H.au<=H.au+1;omega) V H1 v6 xH S E G F;obtain⟨e,n,hr,bb,rfl,c,k1,k2,k3,k4⟩:=Λ (Q:=λ e n=>∃bb,e=.ret (.bool bb) /\ ∃c:Nat->Prop,Fr W H1 n/\(∀b,c b->b<n.au/\(W b\/H1.au<=b)) /\
    (bb=B4 -> ∃V:Nat->Prop,(∀b,V b->c b)/\c L /\ ¬V L /\ ¬c d/\(∀b,c b->V b\/b=L)/\P (i+1) V n/\n.get L=B1 (.loop .ready B5 f k tm d)/\L<n.au) /\
    (bb=B2 -> ∃(V:Nat->Prop)(e:aW)(j:im),(∀b,V b->c b)/\c L /\ ¬V L /\ ¬c d/\(∀b,c b->V b\/b=L)/\gK e/\kX e=B1 j/\y e V n/\n.get L=B1 (.loop .done (B1 j) f k tm d)/\L<n.au)) F hf hk hbp
    (qF hw λ e dh⟨he,hgl,hw2⟩=>by
     subst he;show bQ aI (beginRound dh.H L) _;have:beginRound dh.H L=B1 (dh.H.set L (.loop .busy B5 f k tm d)):=by grind [beginRound]
     rw[this];refine qF hw2 λ e2 a⟨hd2,hg2,W',w1,w2,w3⟩=>⟨hd2,?_⟩
     have I:L<a.H.au:=qn G w2.au;have hd1:d<H1.au:=by omega
     have fin:∀s p,Fr W H1 (a.H.set L (.loop s p f k tm d)):=λ s p=>⟨w2.au,λ b hb hw=>by
      rw[ar.aJ,qy (by grind)];exact w2.ah b hb λ q=>(by grind)⟩
     have hW'L:∀b,(W' b/\b≠L)->(a.H.set L (.loop .ready B5 f k tm d)).get b=a.H.get b:=λ b hb=>by rw[ar.aJ,qy (λ q=>hb.2 q.symm)]
     have Z:¬W' L:=λ q=>by
      grind
     have hnd:¬W' d:=λ q=>by
      grind
     have r:d≠L:=by omega
     have bounds:∀b,(W' b\/b=L)->b<a.H.au/\(W b\/H1.au<=b):=λ b hb=>hb.elim (by grind) λ q=>by grind
     rcases w3 with⟨rfl,w3⟩|⟨X,w3⟩
     .show bQ aI (cX a.H L (cond B4 .ready .done) B5) _;have:cX a.H L .ready B5=B1 (a.H.set L (.loop .ready B5 f k tm d)):=by simp_all[cX]
      rw[xu,this];refine⟨B4,rfl,λ b=>W' b\/b=L,fin _ _,bounds,λ _=>⟨W',λ b hb=>.inl hb,.inr rfl,Z,λ q=>q.elim hnd r,λ b hb=>hb,loc _ _ _ _ w3 (by grind) (qm _),xf _ _ _,I⟩,λ h=>by cases h⟩
     .obtain ⟨j,Y⟩:∃j,kX e2=B1 j:=by cases e2<;>first|exact X.elim|exact⟨_,rfl⟩
      have hnn:Ak e2=false:=by cases e2<;>first|exact X.elim|rfl
      have l:∀(A:Prop),(bQ aI (cX a.H L (cond (Ak e2) .ready .done) (kX e2)) λ H=>∃bb,(bI.ret (.bool (Ak e2))=.ret (.bool bb)) /\ ∃c:Nat->Prop,Fr W H1 H/\(∀b,c b->b<H.au/\(W b\/H1.au<=b)) /\
       (bb=B4 -> ∃V:Nat->Prop,(∀b,V b->c b)/\c L /\ ¬V L /\ ¬c d/\(∀b,c b->V b\/b=L)/\P (i+1) V H/\H.get L=B1 (.loop .ready B5 f k tm d)/\L<H.au) /\
       (bb=B2 -> ∃(V:Nat->Prop)(e:aW)(j:im),(∀b,V b->c b)/\c L /\ ¬V L /\ ¬c d/\(∀b,c b->V b\/b=L)/\gK e/\kX e=B1 j/\y e V H/\H.get L=B1 (.loop .done (B1 j) f k tm d)/\L<H.au)):=λ _=>by
       have:cX a.H L .done (B1 j)=B1 (a.H.set L (.loop .done (B1 j) f k tm d)):=by grind [cX]
       rw[hnn,Y,zp,this];refine⟨B2,rfl,λ b=>W' b\/b=L,fin _ _,bounds,λ h=>(by cases h),λ _=>⟨W',e2,j,λ b hb=>.inl hb,.inr rfl,Z,λ q=>q.elim hnd r,λ b hb=>hb,X,Y,w _ _ _ _ w3 (λ b hb=>by rw[ar.aJ,qy (by grind)]) (qm _),xf _ _ _,I⟩⟩
      cases e2 with
      |normal=>exact X.elim
      |panic _=>exact X.elim
      |exit _=>exact l True
      |goto _=>exact l True
      |ret=>exact l True)
   exact⟨bb,n,c,hr,k1,k2,k3,k4⟩)
 have r:d≠L:=by omega
 have hdW:¬((m d\/d=L)\/O d):=λ q=>(by grind)
 have t:H'.get d=B1 (.deferred (B1 [])):=by rw[B.ah d (by omega) hdW];exact hgd
 have K:d<H'.au:=(by omega)
 have u:∀(o:bE),Fr (λ b=>m b\/O b) H (H'.set L o):=λ o=>⟨x9 (by omega) B.au,λ b hb hw=>by
  have:L=H.au+1:=rfl;rw[ar.aJ,qy (by omega),B.ah b (by omega) (by grind),hold b hb]⟩
 refine⟨.ret v,H',hc,?_⟩;rcases hres with⟨V,v1,v2,E,v4,v5,v6,F,G⟩|⟨V,e,j,v1,v2,E,v4,v5,v6,F,G,v9,v10⟩
 .refine ⟨.ready,B5,f,k,tm,d,F,by simp,?_⟩;refine M d V _ (qm _) K (by rw[ar.aJ,qy (λ q=>r q.symm)];exact t) (u _) (λ b hb=>⟨(J b (v1 b hb)).1,?_,λ q=>v4 (by rw[<-q];exact v1 b hb)⟩) (loc _ _ _ _ v6 (λ b hb=>by rw[ar.aJ,qy (by rintro rfl;exact E hb)]) (qm _))
  grind
 .refine ⟨.done,B1 j,f,k,tm,d,v9,by simp,?_⟩;have he:qP (B1 j)=e:=by cases e<;>first|exact v6.elim|(cases F;rfl)
  rw[he];refine C e d V _ v6 (qm _) K (by rw[ar.aJ,qy (λ q=>r q.symm)];exact t) (u _) (λ b hb=>⟨(J b (v1 b hb)).1,?_,λ q=>v4 (by rw[<-q];exact v1 b hb)⟩) (w _ _ _ _ G (λ b hb=>by rw[ar.aJ,qy (by rintro rfl;exact E hb)]) (qm _))
  grind
def zL:List Nat->List AV->Env->Option Env
 |[],[],E=>B1 E
 |t::ts,v::vs,E=>zL ts vs ((t,v)::E)
 |_,_,_=>B5
def Ve(M:ak)(ctx:Ctx)(b:Kp×ai)(L:Nat)(lr lb:bE)(Q:aE):aE:=λ e E D H=>match e with
 | .normal=>H.get L=B1 lr/\W M ctx b B4 Q E D (H.set L lb)
 |_=>False
def A6(M:ak)(ctx:Ctx)(b:Kp×ai)(L:Nat)(lr lb:bE)(Q:aE)(E:Env)(D:List aK)(H:ar):Ve M ctx b L lr lb Q .normal E D H=(H.get L=B1 lr/\W M ctx b B4 Q E D (H.set L lb)):=propext kr
def Sh(P:(Nat->Prop)->ar->Prop)(PS:aW->(Nat->Prop)->ar->Prop)(L:Nat)(lb:bE)(W:Nat->Prop)(H1:ar):aE:=λ e _ D H=>D=[]/\H.get L=B1 lb /\
 ∃W':Nat->Prop,(∀b,W' b->b<H.au/\(W b\/H1.au<=b))/\Fr (λ b=>W b\/b=L) H1 H/\(e=.normal/\P W' H\/gK e/\PS e W' H)
def fX.cons{ks:List Nat}{E:Env}{tm:T AV}(h:fX ks E tm){t:Nat}(v:AV)(c:bH t ks=B4):fX ks ((t,v)::E) (tm.set t v):=λ u x hu=>by
 rw[xG]at hu;split at hu
 .simp_all [T.aJ]
 .rename_i e;have⟨a,b⟩:=h u x hu;simp_all[T.aJ]
def Ys{ks:List Nat}:∀{ts:List Nat}{vs:List AV}{E b:Env}{tm:T AV},fX ks E tm->(∀t∈ts,bH t ks=B4)->zL ts vs E=B1 b -> ∃a,Kx tm ts vs=B1 a/\fX ks b a
 |[],[],E,b,tm,h,ht,hb=>by cases hb;exact⟨tm,rfl,h⟩
 |[],_::_,_,_,_,_,_,hb=>nomatch hb
 |_::_,[],_,_,_,_,_,hb=>nomatch hb
 |t::ts,v::vs,E,b,tm,h,ht,hb=>Ys (ts:=ts) (vs:=vs) (h.cons v (by grind)) (by grind) hb
def iH.iter{f:Nat}{fn:bZ}{k:Nat}{lp:dT}(Z:AP.func f=B1 fn)(hk:nth fn.loops k=B1 lp){ks:List Nat}{ts:List Nat}(hp:lp.params=ts)(A:∀t∈ts,bH t ks=B4){pa pb:Kp×ai}(ha:pa.1.ah=ks/\pa.2=lp.assign)(hb:pb.1.ah=ks/\pb.2=lp.body)
 {E:Env} {D:List aK} {H:ar} {Q:aE} {g:Nat} {pre cap:List AV} {N O:Nat->Prop} {H0:ar} {xs:List (List AV)} (mY:qX AP g pre cap N O H0 xs)
 (P:Nat->(Nat->Prop)->ar->Prop) (h:aW->(Nat->Prop)->ar->Prop) (a:Nat->Prop)
 (hn:H0.au<=H.au) (T:∀b,N b\/O b->b<H0.au/\H.get b=H0.get b /\ ¬a b) (q:∀b,a b->b<H.au) (M:P 0 a H)
 (loc:∀i W H H',P i W H->(∀b,W b->H'.get b=H.get b)->H.au<=H'.au->P i W H') (l:∀e W H H',h e W H->(∀b,W b->H'.get b=H.get b)->H.au<=H'.au->h e W H')
 (c:∀(L i:Nat)(lr lb:bE)x,xs[i]? = B1 x->H.au<=L -> ∀W' H1,P i W' H1->(∀b,W' b->b<H1.au/\(a b\/H.au<=b))->Fr (λ b=>a b\/O b) H H1 -> ¬W' L->L<H1.au->H1.get L=B1 lr ->
  ∃m,zL ts x E=B1 m/\W AP ⟨B1 L,f⟩ pa B4 (Ve AP ⟨B1 L,f⟩ pb L lr lb (Sh (P (i+1)) h L lb W' H1)) m [] H1)
 (F:∀d W' H',H.au<=d->d<H'.au->H'.get d=B1 (.deferred (B1 []))->Fr (λ b=>a b\/O b) H H'->(∀b,W' b->b<H'.au/\(a b\/H.au<=b)/\b≠d)->P xs.length W' H'->Q .normal E (.iy d::D) H')
 (z:∀e d W' H',gK e->H.au<=d->d<H'.au->H'.get d=B1 (.deferred (B1 []))->Fr (λ b=>a b\/O b) H H'->(∀b,W' b->b<H'.au/\(a b\/H.au<=b)/\b≠d)->h e W' H'->Q e E (.iy d::D) H') :
 iH AP ks ⟨B5,f⟩ k E D H Q (.fn (.func g) pre cap):=by
 intro tm up he;refine xnv Z hk mY P h a hn T q M loc l ?_ (by grind) (by grind);intro L d i x hx S W' H1 U V s y p w;have⟨m,o,hw⟩:=c L i (.loop .ready B5 f k tm d) (.loop .busy B5 f k tm d) x hx S W' H1 U V s y p w;have⟨C,X,r⟩:=Ys he A o;refine⟨C,by grind,?_⟩;rw[lS]at hw;have:=W3.wp _ _ (qm _) (up:=B5) hw (by rw[ha.1];exact r);rw[ha.2]at this;refine qF this λ e dh⟨B,J,n,G⟩=>?_;cases e with
 |normal =>
  have⟨hg,j⟩:=G;refine⟨rfl,hg,?_⟩;rw[lS]at j;have:=W3.wp _ _ (qm _) (up:=B5) j (show fX pb.1.ah J dh.tm by rw[hb.1,<-ha.1];exact n);rw[hb.2]at this;rw[B];refine qF this λ e2 st2⟨I,E2,R,Y,u,K,k1,k2,k3⟩=>⟨Y,u,K,k1,k2,k3⟩
 |_=>exact G.elim
def Jh(rs:List d9)(Q:bI->ar->Prop)(E:Env)(d:Nat)(H:ar):eG AP rs Q .ret E [.iy d] H=(H.get d=B1 (.deferred (B1 []))/\jG E (H.set d (.deferred B5)) rs λ l=>Q (.ret (jB l)) (H.set d (.deferred B5))):=propext kr
end
end Go.Am
namespace Go.Am
structure Act where
 kind:Int
 core:Int
 n:Int
deriving DecidableEq
def Act.enc(a:Act):List AV:=[.int .i64 a.kind,.int .i64 a.core,.int .i64 a.n]
def Act.len(a:Act):a.enc.length=3:=rfl
def Act.one(a:Act):aN a.enc=true:=rfl
def Bytes(bs:List Int):Prop:=∀b∈bs,0<=b/\b<256
def Bytes.get{bs:List Int}(h:Bytes bs){i:Nat}{b:Int}(hb:bs[i]? = B1 b):0<=b/\b<256:=h b (zh hb)
end Go.Am
namespace Go.Am
def sJ(AP:ak)(g:Nat)(pre cap:List AV)(N O:Nat->Prop)(I:Nat->ar->Prop)(H0:ar)(xs:List (List AV)):Prop :=
 ∀(L:Nat)(R:Nat->(Nat->Prop)->ar->Prop)(S:(Nat->Prop)->ar->Prop)(W0:Nat->Prop)(H:ar),
  H0.au<=H.au->(∀b,N b\/O b->b<H0.au/\H.get b=H0.get b /\ ¬W0 b)->R 0 W0 H->(∀b,W0 b->b<H.au) ->
  (∀i W H H',R i W H->(∀b,W b->H'.get b=H.get b)->H.au<=H'.au->R i W H')->(∀W H H',S W H->(∀b,W b->H'.get b=H.get b)->H.au<=H'.au->S W H') ->
  (∀i W H',R i W H'->I i H') ->
  (∀(i:Nat)x,xs[i]? = B1 x -> ∀W H',R i W H'->(∀b,W b->b<H'.au/\(W0 b\/H.au<=b))->Fr (λ b=>W0 b\/O b) H H' ->
   ∃bb H'' W',sR AP L x H' (.ret (.bool bb)) H''/\Fr W H' H''/\(∀b,W' b->b<H''.au/\(W b\/H'.au<=b))/\(bb=B4->R (i+1) W' H'')/\(bb=B2->S W' H'')) ->
  ∃v H' W',CALL AP g (pre++(.fn (.yield L) [] []::cap)) H (.ret v) H'/\Fr (λ b=>W0 b\/O b) H H'/\(∀b,W' b->b<H'.au/\(W0 b\/H.au<=b))/\(R xs.length W' H'\/S W' H')
section
variable{AP:ak}
def xnu{f:Nat}{fn:bZ}{k:Nat}{lp:dT}(hf:AP.func f=B1 fn)(hk:nth fn.loops k=B1 lp){tm:T AV}{aZ:List aK}{up:Option aG}{H:ar}{Q:cN}
 {g:Nat} {pre cap:List AV} {N O:Nat->Prop} {I:Nat->ar->Prop} {H0:ar} {xs:List (List AV)} (mY:sJ AP g pre cap N O I H0 xs)
 (P:Nat->(Nat->Prop)->ar->Prop) (y:aW->(Nat->Prop)->ar->Prop) (m:Nat->Prop)
 (hn:H0.au<=H.au) (hN:∀b,N b\/O b->b<H0.au/\H.get b=H0.get b /\ ¬m b) (hW0:∀b,m b->b<H.au) (h0:P 0 m H)
 (loc:∀i W H H',P i W H->(∀b,W b->H'.get b=H.get b)->H.au<=H'.au->P i W H') (w:∀e W H H',y e W H->(∀b,W b->H'.get b=H.get b)->H.au<=H'.au->y e W H') (hI:∀i W H,P i W H->I i H)
 (z:∀(L d i:Nat)x,xs[i]? = B1 x->H.au<=L -> ∀W H1,P i W H1->(∀b,W b->b<H1.au/\(m b\/H.au<=b))->Fr (λ b=>m b\/O b) H H1 -> ¬W L->L<H1.au->H1.get L=B1 (.loop .ready B5 f k tm d) ->
  ∃D,Kx tm lp.params x=B1 D/\WP AP ⟨B1 L,f⟩ lp.assign ⟨D,[],B5,H1⟩ λ e dh=>e=.normal/\dh.H.get L=B1 (.loop .ready B5 f k tm d) /\
   WP AP ⟨B1 L,f⟩ lp.body ⟨dh.tm,dh.aZ,dh.up,dh.H.set L (.loop .busy B5 f k tm d)⟩ λ e2 a=>a.aZ=[]/\a.H.get L=B1 (.loop .busy B5 f k tm d) /\
    ∃W':Nat->Prop,(∀b,W' b->b<a.H.au/\(W b\/H1.au<=b))/\Fr (λ b=>W b\/b=L) H1 a.H/\(e2=.normal/\P (i+1) W' a.H\/gK e2/\y e2 W' a.H))
 (R:∀d W' H',H.au<=d->d<H'.au->H'.get d=B1 (.deferred (B1 []))->Fr (λ b=>m b\/O b) H H'->(∀b,W' b->b<H'.au/\(m b\/H.au<=b)/\b≠d)->P xs.length W' H'->Q .normal ⟨tm,.iy d::aZ,up,H'⟩)
 (C:∀e d W' H',gK e->H.au<=d->d<H'.au->H'.get d=B1 (.deferred (B1 []))->Fr (λ b=>m b\/O b) H H'->(∀b,W' b->b<H'.au/\(m b\/H.au<=b)/\b≠d)->y e W' H'->Q e ⟨tm,.iy d::aZ,up,H'⟩) :
 JI AP ⟨B5,f⟩ k ⟨tm,aZ,up,H⟩ Q (.fn (.func g) pre cap):=by
 let d:=H.au
 let L:=H.au+1
 let Hd:=H.alloc (.deferred (B1 []))
 let HL:=Hd.alloc (.loop .ready B5 f k tm d)
 have hHL:HL.au=H.au+2:=rfl;have hgL:HL.get L=B1 (.loop .ready B5 f k tm d):=xq Hd _;have hgd:HL.get d=B1 (.deferred (B1 [])):=by rw[show HL.get d=Hd.get d from zV (by show H.au<H.au+1;omega) _];exact xq H _
 have S:Fr Em H HL:=((Fr.refl H).alloc _).alloc _;have hold:∀b,b<H.au->HL.get b=H.get b:=λ b hb=>S.ah b hb (λ q=>q);have⟨v,H',W',hc,B,K,hres⟩:=mY L
  (λ i W H'=>∃V:Nat->Prop,(∀b,V b->W b)/\W L /\ ¬V L /\ ¬W d/\(∀b,W b->V b\/b=L)/\P i V H'/\H'.get L=B1 (.loop .ready B5 f k tm d)/\L<H'.au)
  (λ W H'=>∃(V:Nat->Prop)(e:aW)(j:im),(∀b,V b->W b)/\W L /\ ¬V L /\ ¬W d/\(∀b,W b->V b\/b=L)/\gK e/\kX e=B1 j/\y e V H'/\H'.get L=B1 (.loop .done (B1 j) f k tm d)/\L<H'.au)
  (λ b=>m b\/b=L) HL (by omega)
  (by grind)
  (by grind)
  (by grind)
  (λ i W H1 n⟨V,v1,v2,E,v4,v5,v6,F,G⟩hs hle=>⟨V,v1,v2,E,v4,v5,(by grind),by grind,qn G hle⟩)
  (by grind)
  (by grind)
  (λ i x hx W H1⟨V,v1,v2,E,v4,v5,v6,F,G⟩hb X=>by
   have hLn0:L=H.au+1:=rfl;have U:Fr (λ b=>m b\/O b) H H1:=⟨(by omega),λ b hb hw=>by rw[X.ah b (by omega) (by grind),hold b hb]⟩
   have xH:∀b,V b->b<H1.au/\(m b\/H.au<=b):=λ b q=>(by grind)
   have⟨D,hbp,hw⟩:=z L d i x hx (by show H.au<=H.au+1;omega) V H1 v6 xH U E G F;obtain⟨e,n,hr,bb,rfl,c,k1,k2,k3,k4⟩:=Λ (Q:=λ e n=>∃bb,e=.ret (.bool bb) /\ ∃c:Nat->Prop,Fr W H1 n/\(∀b,c b->b<n.au/\(W b\/H1.au<=b)) /\
    (bb=B4 -> ∃V:Nat->Prop,(∀b,V b->c b)/\c L /\ ¬V L /\ ¬c d/\(∀b,c b->V b\/b=L)/\P (i+1) V n/\n.get L=B1 (.loop .ready B5 f k tm d)/\L<n.au) /\
    (bb=B2 -> ∃(V:Nat->Prop)(e:aW)(j:im),(∀b,V b->c b)/\c L /\ ¬V L /\ ¬c d/\(∀b,c b->V b\/b=L)/\gK e/\kX e=B1 j/\y e V n/\n.get L=B1 (.loop .done (B1 j) f k tm d)/\L<n.au)) F hf hk hbp
    (qF hw λ e dh⟨he,hgl,hw2⟩=>by
     subst he;show bQ aI (beginRound dh.H L) _;have:beginRound dh.H L=B1 (dh.H.set L (.loop .busy B5 f k tm d)):=by grind [beginRound]
     rw[this];refine qF hw2 λ e2 a⟨hd2,hg2,W',w1,w2,w3⟩=>⟨hd2,?_⟩
     have J:L<a.H.au:=qn G w2.au;have hd1:d<H1.au:=by omega
     have fin:∀s p,Fr W H1 (a.H.set L (.loop s p f k tm d)):=λ s p=>⟨w2.au,λ b hb hw=>by
      rw[ar.aJ,qy (by grind)];exact w2.ah b hb λ q=>(by grind)⟩
     have hW'L:∀b,(W' b/\b≠L)->(a.H.set L (.loop .ready B5 f k tm d)).get b=a.H.get b:=λ b hb=>by rw[ar.aJ,qy (λ q=>hb.2 q.symm)]
     have hnV:¬W' L:=λ q=>by
      grind
     have hnd:¬W' d:=λ q=>by
      grind
     have r:d≠L:=by omega
     have bounds:∀b,(W' b\/b=L)->b<a.H.au/\(W b\/H1.au<=b):=λ b hb=>hb.elim (by grind) λ q=>by grind
     rcases w3 with⟨rfl,w3⟩|⟨Y,w3⟩
     .show bQ aI (cX a.H L (cond B4 .ready .done) B5) _;have:cX a.H L .ready B5=B1 (a.H.set L (.loop .ready B5 f k tm d)):=by simp_all[cX]
      rw[xu,this];refine⟨B4,rfl,λ b=>W' b\/b=L,fin _ _,bounds,λ _=>⟨W',λ b hb=>.inl hb,.inr rfl,hnV,λ q=>q.elim hnd r,λ b hb=>hb,loc _ _ _ _ w3 (by grind) (qm _),xf _ _ _,J⟩,λ h=>by cases h⟩
     .obtain ⟨j,Z⟩:∃j,kX e2=B1 j:=by cases e2<;>first|exact Y.elim|exact⟨_,rfl⟩
      have hnn:Ak e2=false:=by cases e2<;>first|exact Y.elim|rfl
      have l:∀(A:Prop),(bQ aI (cX a.H L (cond (Ak e2) .ready .done) (kX e2)) λ H=>∃bb,(bI.ret (.bool (Ak e2))=.ret (.bool bb)) /\ ∃c:Nat->Prop,Fr W H1 H/\(∀b,c b->b<H.au/\(W b\/H1.au<=b)) /\
       (bb=B4 -> ∃V:Nat->Prop,(∀b,V b->c b)/\c L /\ ¬V L /\ ¬c d/\(∀b,c b->V b\/b=L)/\P (i+1) V H/\H.get L=B1 (.loop .ready B5 f k tm d)/\L<H.au) /\
       (bb=B2 -> ∃(V:Nat->Prop)(e:aW)(j:im),(∀b,V b->c b)/\c L /\ ¬V L /\ ¬c d/\(∀b,c b->V b\/b=L)/\gK e/\kX e=B1 j/\y e V H/\H.get L=B1 (.loop .done (B1 j) f k tm d)/\L<H.au)):=λ _=>by
       have:cX a.H L .done (B1 j)=B1 (a.H.set L (.loop .done (B1 j) f k tm d)):=by grind [cX]
       rw[hnn,Z,zp,this];refine⟨B2,rfl,λ b=>W' b\/b=L,fin _ _,bounds,λ h=>(by cases h),λ _=>⟨W',e2,j,λ b hb=>.inl hb,.inr rfl,hnV,λ q=>q.elim hnd r,λ b hb=>hb,Y,Z,w _ _ _ _ w3 (λ b hb=>by rw[ar.aJ,qy (by grind)]) (qm _),xf _ _ _,J⟩⟩
      cases e2 with
      |normal=>exact Y.elim
      |panic _=>exact Y.elim
      |exit _=>exact l True
      |goto _=>exact l True
      |ret=>exact l True)
   exact⟨bb,n,c,hr,k1,k2,k3,k4⟩)
 have r:d≠L:=by omega
 have hdW:¬((m d\/d=L)\/O d):=λ q=>(by grind)
 have t:H'.get d=B1 (.deferred (B1 [])):=by rw[B.ah d (by omega) hdW];exact hgd
 have M:d<H'.au:=(by omega)
 have u:∀(o:bE),Fr (λ b=>m b\/O b) H (H'.set L o):=λ o=>⟨x9 (by omega) B.au,λ b hb hw=>by
  have:L=H.au+1:=rfl;rw[ar.aJ,qy (by omega),B.ah b (by omega) (by grind),hold b hb]⟩
 refine⟨.ret v,H',hc,?_⟩;rcases hres with⟨V,v1,v2,E,v4,v5,v6,F,G⟩|⟨V,e,j,v1,v2,E,v4,v5,v6,F,G,v9,v10⟩
 .refine ⟨.ready,B5,f,k,tm,d,F,by simp,?_⟩;refine R d V _ (qm _) M (by rw[ar.aJ,qy (λ q=>r q.symm)];exact t) (u _) (λ b hb=>⟨(K b (v1 b hb)).1,?_,λ q=>v4 (by rw[<-q];exact v1 b hb)⟩) (loc _ _ _ _ v6 (λ b hb=>by rw[ar.aJ,qy (by rintro rfl;exact E hb)]) (qm _))
  grind
 .refine ⟨.done,B1 j,f,k,tm,d,v9,by simp,?_⟩;have he:qP (B1 j)=e:=by cases e<;>first|exact v6.elim|(cases F;rfl)
  rw[he];refine C e d V _ v6 (qm _) M (by rw[ar.aJ,qy (λ q=>r q.symm)];exact t) (u _) (λ b hb=>⟨(K b (v1 b hb)).1,?_,λ q=>v4 (by rw[<-q];exact v1 b hb)⟩) (w _ _ _ _ G (λ b hb=>by rw[ar.aJ,qy (by rintro rfl;exact E hb)]) (qm _))
  grind
def iH.sQ{f:Nat}{fn:bZ}{k:Nat}{lp:dT}(hf:AP.func f=B1 fn)(hk:nth fn.loops k=B1 lp){ks:List Nat}{ts:List Nat}(hp:lp.params=ts)(A:∀t∈ts,bH t ks=B4){pa pb:Kp×ai}(ha:pa.1.ah=ks/\pa.2=lp.assign)(hb:pb.1.ah=ks/\pb.2=lp.body)
 {E:Env} {D:List aK} {H:ar} {Q:aE} {g:Nat} {pre cap:List AV} {N O:Nat->Prop} {I:Nat->ar->Prop} {H0:ar} {xs:List (List AV)} (mY:sJ AP g pre cap N O I H0 xs)
 (P:Nat->(Nat->Prop)->ar->Prop) (h:aW->(Nat->Prop)->ar->Prop) (a:Nat->Prop)
 (hn:H0.au<=H.au) (U:∀b,N b\/O b->b<H0.au/\H.get b=H0.get b /\ ¬a b) (q:∀b,a b->b<H.au) (R:P 0 a H)
 (loc:∀i W H H',P i W H->(∀b,W b->H'.get b=H.get b)->H.au<=H'.au->P i W H') (l:∀e W H H',h e W H->(∀b,W b->H'.get b=H.get b)->H.au<=H'.au->h e W H') (hI:∀i W H,P i W H->I i H)
 (c:∀(L i:Nat)(lr lb:bE)x,xs[i]? = B1 x->H.au<=L -> ∀W' H1,P i W' H1->(∀b,W' b->b<H1.au/\(a b\/H.au<=b))->Fr (λ b=>a b\/O b) H H1 -> ¬W' L->L<H1.au->H1.get L=B1 lr ->
  ∃m,zL ts x E=B1 m/\W AP ⟨B1 L,f⟩ pa B4 (Ve AP ⟨B1 L,f⟩ pb L lr lb (Sh (P (i+1)) h L lb W' H1)) m [] H1)
 (F:∀d W' H',H.au<=d->d<H'.au->H'.get d=B1 (.deferred (B1 []))->Fr (λ b=>a b\/O b) H H'->(∀b,W' b->b<H'.au/\(a b\/H.au<=b)/\b≠d)->P xs.length W' H'->Q .normal E (.iy d::D) H')
 (z:∀e d W' H',gK e->H.au<=d->d<H'.au->H'.get d=B1 (.deferred (B1 []))->Fr (λ b=>a b\/O b) H H'->(∀b,W' b->b<H'.au/\(a b\/H.au<=b)/\b≠d)->h e W' H'->Q e E (.iy d::D) H') :
 iH AP ks ⟨B5,f⟩ k E D H Q (.fn (.func g) pre cap):=by
 intro tm up he;refine xnu hf hk mY P h a hn U q R loc l hI ?_ (by grind) (by grind);intro L d i x hx T W' H1 V X s y p w;have⟨m,o,hw⟩:=c L i (.loop .ready B5 f k tm d) (.loop .busy B5 f k tm d) x hx T W' H1 V X s y p w;have⟨C,Y,r⟩:=Ys he A o;refine⟨C,by grind,?_⟩;rw[lS]at hw;have:=W3.wp _ _ (qm _) (up:=B5) hw (by rw[ha.1];exact r);rw[ha.2]at this;refine qF this λ e dh⟨B,K,n,G⟩=>?_;cases e with
 |normal =>
  have⟨hg,j⟩:=G;refine⟨rfl,hg,?_⟩;rw[lS]at j;have:=W3.wp _ _ (qm _) (up:=B5) j (show fX pb.1.ah K dh.tm by rw[hb.1,<-ha.1];exact n);rw[hb.2]at this;rw[B];refine qF this λ e2 st2⟨J,E2,S,Z,u,M,k1,k2,k3⟩=>⟨Z,u,M,k1,k2,k3⟩
 |_=>exact G.elim
end
end Go.Am
namespace Go.Am
def _3{α:Type}{L E:List α}{p size:Nat}(b:E.length=size)(hp:p+size<=L.length)(h:∀r,r<size->L[p+r]? = E[r]?):L=L.take p++(E++L.drop (p+size)):=by
 have a:(L.drop p).take size=E:=by
  refine yo λ r=>?_
  grind
 grind [FN,yt]
def ag1{α:Type}{L E cs:List α}{p size j n:Nat}(d:E.length=size)(f:cs.length=n)(g:j+n<=size)(hp:p+size<=L.length)(h:∀r,r<size->L[p+r]? = E[r]?) :
 L.take (p+j)++cs++L.drop (p+j+n)=L.take p++((E.take j++cs++E.drop (j+n))++L.drop (p+size)):=by
 obtain⟨A,a⟩:∃A,A=L.take p:=⟨_,rfl⟩
 obtain⟨B,b⟩:∃B,B=L.drop (p+size):=⟨_,rfl⟩
 have hl:A.length=p:=by grind
 have c:=_3 d hp h;rw[<-a,<-b]at c;rw[<-a,<-b];have e1:L.take (p+j)=A++E.take j:=by
  grind
 have e2:L.drop (p+j+n)=E.drop (j+n)++B:=by
  rw[c,IQ,hl,ju (by omega),jp,show p+j+n-p=j+n by omega,List.drop_append_of_le_length (by omega)]
 grind
section
variable{α:Type}{enc:α->List AV}{size:Nat}{H:ar}{v:AV}{xs:List α}
theorem xmh(hs:∀x,(enc x).length=size){i:Nat}{x y:α}(a:xs[i]? = B1 x){j n:Nat}{cs:List AV}(b:cs.length=n)(d:j+n<=size)(f:enc y=(enc x).take j++cs++(enc x).drop (j+n)) :
 (xs.flatMap enc).take (i*size+j)++cs++(xs.flatMap enc).drop (i*size+j+n)=(xs.set i y).flatMap enc:=by
 have c:=LV a;have hb:(i+1)*size<=xs.length*size:=yd _ c;rw[vy]at hb;have hl:=It hs xs;rw[ag1 (E:=enc x) (size:=size) (hs x) b d (by omega) (by grind [Jl]),<-f,SM hs xs a]
 grind
def gW.Ij{e:Nat}(hs:∀x,(enc x).length=size)(h:gW enc e size H v xs){i:Nat}{x y:α}(k:xs[i]? = B1 x){j n:Nat}{u:AV}(hu:u.cells.length=n)(ho:aN u.cells=B4)(l:j+n<=size)(m:enc y=(enc x).take j++u.cells++(enc x).drop (j+n)) :
 ∃H',Op.store n [.ptr (aF v) (cZ size v i+j),u] H=B1 (.undef,H')/\gW enc e size H' v (xs.set i y)/\Fr (On (aF v)) H H':=by
 obtain⟨b,rfl,d,f⟩:=h;have g:=LV k;have hl:=It hs xs;have hb:(i+1)*size<=xs.length*size:=yd _ g;rw[vy]at hb;have c:=wK f (o:=i*size+j) (n:=n) (v:=u) hu (by omega) ho;have a:cZ size (AV.slice b 0 xs.length xs.length) i=i*size:=by simp[cZ]
 rw[a];refine⟨_,c,⟨b,?_,d,?_⟩,(Fr.refl H).set (W:=On b) (.inl rfl) _⟩
 .grind
 grind [xf,xmh]
def gW.Pd{e:Nat}(hs:∀x,(enc x).length=size)(ho:∀x,aN (enc x)=B4)(h:gW enc e size H v xs){i:Nat}{x:α}(a:xs[i]? = B1 x)(y:α) :
 ∃H',Op.store size [.ptr (aF v) (cZ size v i),.agg (enc y)] H=B1 (.undef,H')/\gW enc e size H' v (xs.set i y)/\Fr (On (aF v)) H H':=by
 have:=h.Ij hs a (y:=y) (j:=0) (n:=size) (u:=.agg (enc y)) (by grind [zt]) (by grind [zt]) (by omega) (by
  rw[zt,y8,jp,ju (by rw[hs];omega),zn])
 omega
end
end Go.Am
namespace Go.Am
open Go.Proofs Ca
variable{M:ak}[MK M]
abbrev uW(x:Int):AV:=.int .u64 x
def aw(e:En):List AV:=.int .i64 e.line::.int .i64 e.st::.bool e.r::.bool e.w::(e.d.l.map uW++(e.o.l.map uW ++ [.int .i64 e.u]))
def z4(e:En):(aw e).length=21:=by simp[aw,e.d.h,e.o.h]
def ux(e:En):aN (aw e)=true:=by
 rw[vh];unfold aw;simp[aB]
def Ot{H:ar}{s e:Nat}{a:AV}(h:H.get s=B1 (OR [a] e)){u:AV}(hu:aB u=B4):Op.store 1 [.ptr s 0,u] H=B1 (.undef,H.set s (OR [u] e)):=by
 have d:u.cells=[u]:=by cases u<;>first|rfl|cases hu
 have:=wK h (o:=0) (n:=1) (v:=u) (by rw[d];rfl) (by simp) (by rw[d,vh];simpa using hu);rw[this,d];rfl
def Cw(b:ai)(Q:aE)(E:Env)(D:List aK)(H:ar):kJ b Q .normal E D H=Q .normal E D H:=rfl
def uO(b:ai)(Q:aE)(E:Env)(D:List aK)(H:ar):kJ b Q .ret E D H=Q .ret E D H:=rfl
def FO(c:Ca)(sv:AV):List AV:=[.int .i64 (c.fT:Int),.int .i64 (c.ways:Int),sv,.int .i64 c.us]
abbrev eA(sv:AV)(i:Nat):AV:=.ptr (aF sv) (cZ 21 sv i)
structure eh(H:ar)(b:Nat)(sv:AV)(c:Ca):Prop where
 row:H.get b=B1 (OR (FO c sv) j1)
 lt:b<H.au
 sl:gW aw xk 21 H sv c.sl
 ne:aF sv≠b
 s8:c.fT<=8
 w4:c.ways<=4
 us:0<=c.us/\c.us<=1000000
def eh.em{H H':ar}{b:Nat}{sv:AV}{c:Ca}(h:eh H b sv c)(f:Fr Em H H'):eh H' b sv c:=⟨by rw[f.ah _ h.lt id];exact h.row,qn h.lt f.au,h.sl.fr f id,h.ne,h.s8,h.w4,h.us⟩
def eh.fr{H H':ar}{W:Nat->Prop}{b:Nat}{sv:AV}{c:Ca}(h:eh H b sv c)(f:Fr W H H')(a:¬W b)(d:¬W (aF sv)):eh H' b sv c:=⟨by rw[f.ah _ h.lt a];exact h.row,qn h.lt f.au,h.sl.fr f d,h.ne,h.s8,h.w4,h.us⟩
def eh.ix{H:ar}{b:Nat}{sv:AV}{c:Ca}(h:eh H b sv c){i:Nat}(a:i<c.sl.length):Op.aQ 21 [sv,.int .i64 (i:Int)]=B1 (eA sv i):=(h.sl.sl z4).idx (FP a) rfl .i64
def eh.ld{H:ar}{b:Nat}{sv:AV}{c:Ca}(h:eh H b sv c){i:Nat}(a:i<c.sl.length){k:Nat}(hk:k<21):Op.ae [.ptr (aF sv) (cZ 21 sv i+k)] H=(aw (c.en i))[k]?:=(h.sl.sl z4).ae z4 (FP a) hk
def eh.zJ{H:ar}{b:Nat}{sv:AV}{c:Ca}(h:eh H b sv c){i:Nat}(a:i<c.sl.length):Op.ae [.ptr (aF sv) (cZ 21 sv i)] H=B1 (.int .i64 (c.en i).line):=(h.sl.sl z4).jQ z4 (FP a) (by decide)
def yq(b o:Nat)(H:ar):Op.eq .ptr B2 [.ptr b o,.nilp] H=B1 (.bool B2):=rfl
def mh(b o:Nat)(H:ar):Op.eq .ptr B4 [.ptr b o,.nilp] H=B1 (.bool B4):=rfl
def Pt(H:ar):Op.eq .ptr B2 [.nilp,.nilp] H=B1 (.bool B4):=rfl
def vE(H:ar):Op.eq .ptr B4 [.nilp,.nilp] H=B1 (.bool B2):=rfl
def Hq(R:Nat->(Nat->Prop)->ar->Prop)(S:(Nat->Prop)->ar->Prop)(W0 O:Nat->Prop)(H:ar)(n:Nat)(v:AV)(H':ar):Prop:=∃W':Nat->Prop,Fr (λ b=>W0 b\/O b) H H'/\(∀b,W' b->b<H'.au/\(W0 b\/H.au<=b))/\(R n W' H'\/S W' H')
def pZ(c:Ca)(sv:AV)(line:Int):List (List AV):=if line<0 then[]else(N5 c.ways).map λ k=>[eA sv (c.fr line+k)]
structure JE(R:Nat->(Nat->Prop)->ar->Prop)(W0:Nat->Prop)(H1 Hx:ar)(i:Nat)(V:Nat->Prop):Prop where
 hR:R i V Hx
 hV:∀b,V b->b<Hx.au/\(W0 b\/H1.au<=b)
 fr:Fr W0 H1 Hx
def b_{H0:ar}{p q b:Nat}{sv:AV}{c:Ca}{lines line:Int}(g:eh H0 b sv c)(e:CI lines c)(hp:H0.get p=B1 (OR [.ptr b 0] Ew))(hq:H0.get q=B1 (OR [.int .i64 line] cE))(hpl:p<H0.au)(hql:q<H0.au) :
 qX M KJ [] [.ptr p 0,.ptr q 0] (λ x=>x=p\/x=q\/x=b) (λ _=>False) H0 (pZ c sv line):=by
 intro Y R S d H1 hnx A m r loc O step;have⟨p1,p2,p3⟩:=A p (.inl (.inl rfl));have⟨Q,F,G⟩:=A q (.inl (.inr (.inl rfl)));have⟨b1,T,U⟩:=A b (.inl (.inr (.inr rfl)))
 suffices h:ze M KJ [.fn (.yield Y) [] [],.ptr p 0,.ptr q 0] H1 (Hq R S d (λ _=>False) H1 (pZ c sv line).length)by
  have⟨v,H',g,W',Q,F,G⟩:=h.elim;exact⟨v,H',W',g,Q,F,G⟩
 refine q0q ?_;obtain⟨w0,w6,u,I,J⟩:=q0r M ⟨B5,KJ⟩;have lp:∀{a:ar},Fr d H1 a->Op.ae [.ptr p 0] a=B1 (.ptr b 0):=λ f=>by rw[zd (xe (by rw[f.ah _ (by omega) p3,p2];exact hp))];rfl
 have P:∀{a:ar},Fr d H1 a->Op.ae [.ptr q 0] a=B1 (.int .i64 line):=λ f=>by rw[zd (xe (by rw[f.ah _ (by omega) G,F];exact hq))];rfl
 have lb:∀{a:ar}(k:Nat),Fr d H1 a->Op.ae [.ptr b k] a=(FO c sv)[k]?:=λ k f=>zd (xe (by rw[f.ah _ (by omega) U,T];exact g.row)) k;have j:=Fr.refl (W:=d) H1
 by_cases hl:line<0
 .simp only[aa,bc,w0,lp j,yq,P j,hl];exact⟨d,Fr.refl _,λ b hb=>⟨r b hb,.inl hb⟩,.inl (by unfold pZ;rw[xg hl];exact m)⟩
 have D:(pZ c sv line)=(N5 c.ways).map λ k=>[eA sv (c.fr line+k)]:=by unfold pZ;rw[qy hl]
 rw[D]at step⊢;rw[xr,zw];have l0:Op.ae [.ptr b 0] H1=B1 (.int .i64 (c.fT:Int)):=lb 0 j;have l1:Op.ae [.ptr b 1] H1=B1 (.int .i64 (c.ways:Int)):=lb 1 j;have rm:Op.bin .rem [.int .i64 line,.int .i64 (c.fT:Int)]=B1 (.int .i64 ((line.toNat % c.fT:Nat):Int)):=by
  have:=e.s0;obtain⟨n,rfl⟩:=jk (Gy.1 hl);rw[vB .i64 _ _ (by omega)];rfl
 have N:line.toNat % c.fT<c.fT:=Nat.mod_lt _ e.s0;have h8:=g.s8;have X:=g.w4;have B:(line.toNat % c.fT)*c.ways<=7*4:=Nat.mul_le_mul (by omega) X;have wm:aj .i64 (((line.toNat % c.fT:Nat):Int)*(c.ways:Int))=((c.fr line:Nat):Int):=by
  rw[<-Int.natCast_mul];exact jj (by omega) (by omega)
 have L:c.fr line<=28:=B;simp only[aa,bc,w0,lp j,yq,qt,P j,hl,w6,l0,l1,rm,wm];refine cz.intro (λ n E a=>∃(i:Nat)(V:Nat->Prop),E=[(27,.int .i64 (i:Int)),(26,.int .i64 (c.ways:Int)),(4,.int .i64 ((c.fr line:Nat):Int)),(0,.fn (.yield Y) [] []),(1,.ptr p 0)]/\n=c.ways-i/\i<=c.ways/\JE R d H1 a i V) ?_ ?_
 .exact ⟨_,_,⟨0,d,rfl,rfl,xx _,⟨m,λ b hb=>⟨r b hb,.inl hb⟩,Fr.refl _⟩⟩,by simp only[aa,bc]⟩
 rintro n E a ⟨i,V,rfl,rfl,hi,hI⟩;rcases za i c.ways with t|hge
 .have z:(i:Int)<(c.ways:Int):=by omega
  have l2:Op.ae [.ptr b 2] a=B1 sv:=lb 2 hI.fr;have wi:aj .i64 (((c.fr line:Nat):Int)+(i:Int))=((c.fr line+i:Nat):Int):=by rw[jj (by omega) (by omega)];omega
  have ix:=g.ix (e.mT line t);have⟨bb,K,y,hr,Z,s,ht,hs⟩:=step i [eA sv (c.fr line+i)] (by rw[xm,jx t];rfl) V a hI.hR hI.hV (hI.fr.mono λ _ _ q=>.inl q);have l:Fr d H1 K:=hI.fr.trans Z λ b q=>(hI.hV b q).2;have o:∀b,y b->b<K.au/\(d b\/H1.au<=b):=λ b q=>⟨(s b q).1,(s b q).2.elim (λ w=>(hI.hV b w).2) λ w=>.inr (x9 hI.fr.au w)⟩
  have wj:aj .i64 ((i:Int)+1)=((i+1:Nat):Int):=by rw[jj (by omega) (by omega)];omega
  simp only[aa,bc,u,z,I,lp hI.fr,qt,l2,wi,ix];refine C3.tu hr ?_;cases bb with
  |true =>
   simp only[aa,bc,J,wj];exact⟨_,_,⟨i+1,y,rfl,rfl,by omega,⟨ht rfl,o,l⟩⟩,by simp only[aa,bc],by omega⟩
  |false =>
   simp only[aa,bc];exact⟨y,l.mono λ _ _ q=>.inl q,o,.inr (hs rfl)⟩
 .have z:¬(i:Int)<(c.ways:Int):=by omega
  have C:i=c.ways:=by omega
  simp only[aa,bc,u,z];exact⟨V,hI.fr.mono λ _ _ q=>.inl q,hI.hV,.inl (by rw[<-C];exact hI.hR)⟩
def f_{H:ar}(b:Nat)(line:Int):ze M oA [.ptr b 0,.int .i64 line] H λ v H'=>v=.fn (.func KJ) [] [.ptr H.au 0,.ptr (H.au+1) 0]/\H'=(H.alloc (OR [.ptr b 0] Ew)).alloc (OR [.int .i64 line] cE):=by
 refine q7w ?_;obtain⟨H1,e1,-,n1,-⟩:=cq H (OR [.ptr b 0] Ew);have ca:AV.cells (.ptr b 0)=[.ptr b 0]:=rfl;have a:AV.cells (.int .i64 line)=[.int .i64 line]:=rfl;have mk:Op.bt KJ 0 [.ptr H.au 0,.ptr (H.au+1) 0]=B1 (.fn (.func KJ) [] [.ptr H.au 0,.ptr (H.au+1) 0]):=rfl;simp only[aa,bc,q7x,ca,a,<-e1,n1];rfl
structure AtI(c:Ca)(line:Int)(t:Nat)(i:Nat)(V:Nat->Prop)(Hx:ar):Prop where
 vt:V t
 g:Hx.get t=B1 (OR [.nilp] yi)
 lt:t<Hx.au
 no:∀k,k<i->c.mY line k=B2
structure AtS(c:Ca)(sv:AV)(line:Int)(t:Nat)(V:Nat->Prop)(Hx:ar):Prop where
 vt:V t
 ex:∃k,k<c.ways/\dI (c.mY line) c.ways=B1 k/\Hx.get t=B1 (OR [eA sv (c.fr line+k)] yi)
 lt:t<Hx.au
def xR(c:Ca)(sv:AV)(line:Int):AV:=match c.pos line with
 |none=>.nilp
 |some i=>eA sv i
def j0{H:ar}{b:Nat}{sv:AV}{c:Ca}{lines line:Int}(hc:eh H b sv c)(s:CI lines c):ze M Ox [.ptr b 0,.int .i64 line] H λ v H'=>v=xR c sv line/\Fr Em H H':=by
 refine xan ?_;have⟨w0,wa,wb,w2,w7⟩:=J_ M ⟨B5,Ox⟩;obtain⟨H1,e1,f1,n1,-⟩:=cq H (OR [.int .i64 line] cE);obtain⟨p,e2,I,-,-⟩:=cq H1 (OR [.nilp] yi);have f2:Fr Em H p:=f1.trans I λ _ q=>q.elim;have n2:p.au=H.au+2:=by rw[e2,xz,n1]
 have g1:p.get H.au=B1 (OR [.int .i64 line] cE):=by rw[I.ah _ (by omega) id,e1,xq]
 have g2:p.get (H.au+1)=B1 (OR [.nilp] yi):=by rw[e2,<-n1,xq]
 have cl:AV.cells (.int .i64 line)=[.int .i64 line]:=rfl;have l1:Op.ae [.ptr H.au 0] p=B1 (.int .i64 line):=zd (xe g1) 0;simp only[aa,bc,w0,cl,<-e1,<-e2,n1,w2,l1];refine C3.q (f_ b line) λ v H5⟨hv,Q⟩=>?_;obtain⟨T,X,Z,-,-⟩:=cq p (OR [.ptr b 0] Ew);obtain⟨E,Y,J,-,-⟩:=cq T (OR [.int .i64 line] cE);rw[<-X,<-Y]at Q;rw[hv,Q];have r:Fr Em p E:=Z.trans J λ _ q=>q.elim;have f4:Fr Em H E:=f2.trans r λ _ q=>q.elim;have n3:T.au=H.au+3:=by rw[X,xz,n2]
 have n4:E.au=H.au+4:=by rw[Y,xz,n3]
 have g3:E.get p.au=B1 (OR [.ptr b 0] Ew):=by rw[J.ah _ (by omega) id,X,xq]
 have g4:E.get (p.au+1)=B1 (OR [.int .i64 line] cE):=by rw[show p.au+1=T.au by omega,Y,xq]
 have L:=hc.em f4;have hlt:=hc.lt;have hsb:aF sv<H.au:=hc.sl.lt;have kp:∀{j:ar},Fr (λ x=>(x=H.au+1)\/False) E j->eh j b sv c/\Op.ae [.ptr H.au 0] j=B1 (.int .i64 line):=λ f =>
  ⟨L.fr f (λ q=>q.elim (λ q=>by omega) id) (λ q=>q.elim (λ q=>by omega) id),zd (xe (by rw[f.ah H.au (by omega) (λ q=>q.elim (λ q=>by omega) id),r.ah _ (by omega) id];exact g1)) 0⟩
 have res:∀{d:Nat}{j:ar}{x:AV},j.get (H.au+1)=B1 (OR [x] yi)->d≠H.au+1->Op.ae [.ptr (H.au+1) 0] (j.set d (.deferred B5))=B1 x:=λ g hd=>by
  rw[zd (xe (by rw[kz hd];exact g))];rfl
 refine iH.iter (fn:=TZ) (lp:=Qx) (pa:=XD 0) (pb:=XA 0) q7v qrl.1 qrl.2 (by decide) q5h q5i
  (b_ L s g3 g4 (by omega) (by omega)) (λ i V j=>AtI c line (H.au+1) i V j) (λ e V j=>e=.ret/\AtS c sv line (H.au+1) V j) (λ x=>x=H.au+1) (qm _) ?_ ?_ ?_ ?_ ?_ ?_ ?_ ?_
 .rintro x ((q|q|q)|q)
  .exact ⟨by omega,rfl,by omega⟩
  .exact ⟨by omega,rfl,by omega⟩
  .exact ⟨by omega,rfl,by omega⟩
  .exact q.elim
 .exact λ x F=>by omega
 .exact ⟨rfl,by rw[r.ah _ (by omega) id];exact g2,by omega,λ k hk=>by omega⟩
 .exact λ i V Ha Hb h hs hn=>⟨h.vt,by rw[hs _ h.vt];exact h.g,qn h.lt hn,h.no⟩
 .rintro e V Ha Hb ⟨he,h⟩ hs hn;have⟨k,k1,R,k3⟩:=h.ex;exact⟨he,h.vt,⟨k,k1,R,by rw[hs _ h.vt];exact k3⟩,qn h.lt hn⟩
 .intro a i lr lb x F hL2 V l m hV N hnL hL6 hgL;unfold pZ at F;split at F
  .simp at F
  rename_i hl;rw[xm,xt]at F;obtain⟨y,hy,rfl⟩:=F;have w:i<c.ways:=by have:=(qo.1 hy).1;rw[zw]at this;exact this
  rw[jx w]at hy;cases hy;refine⟨_,rfl,?_⟩;obtain⟨-,wa,wb,-⟩:=J_ M ⟨B1 a,Ox⟩;simp only[aa,bc,wa,A6];refine⟨hgL,?_⟩;have fx:Fr (On a) l (l.set a lb):=(Fr.refl l).set (W:=On a) (.inl rfl) _;have gL:(l.set a lb).get a=B1 lb:=xf ..;have S:(l.set a lb).au=l.au:=rfl;have⟨hc6,lq6⟩:=kp N;have h7:eh (l.set a lb) b sv c:=hc6.fr fx (λ(q:b=a)=>by omega) (λ(q:aF sv=a)=>by omega);have P:Op.ae [.ptr H.au 0] (l.set a lb)=B1 (.int .i64 line):=by
   have hg:(l.set a lb).get H.au=l.get H.au:=by rw[kz (by omega)]
   exact zd (xe (by rw[hg,N.ah H.au (by omega) (λ q=>q.elim (λ q=>by omega) id),r.ah _ (by omega) id];exact g1)) 0
  have K:a≠H.au+1:=λ q=>hnL (by rw[q];exact m.vt);have O:(l.set a lb).get (H.au+1)=B1 (OR [.nilp] yi):=by rw[kz K];exact m.g
  generalize l.set a lb=H7 at *;have hi:=s.mT line w;obtain⟨e,he⟩:∃e,e=c.en (c.fr line+i):=⟨_,rfl⟩
  have l0:Op.ae [.ptr (aF sv) (cZ 21 sv (c.fr line+i))] H7=B1 (.int .i64 e.line):=by rw[he];exact h7.zJ hi
  have l1:Op.ae [.ptr (aF sv) (cZ 21 sv (c.fr line+i)+1)] H7=B1 (.int .i64 e.st):=by rw[he];exact h7.ld hi (k:=1) (by decide)
  have n:c.mY line i=(e.st != 0 && e.line == line):=by rw[he];rfl
  have stay:c.mY line i=B2->Sh (λ V j=>AtI c line (H.au+1) (i+1) V j) (λ e V j=>e=.ret/\AtS c sv line (H.au+1) V j) a lb V l .normal [] [] H7:=λ Q =>
   ⟨rfl,gL,V,λ b hb=>⟨by rw[S];exact(hV b hb).1,.inl hb⟩,fx.mono λ x _ q=>.inr q,.inl ⟨rfl,m.vt,O,by rw[S];exact m.lt,λ k hk=>by
    by_cases q:k=i
    .rw [q];exact Q
    .exact m.no k (by omega)⟩⟩
  by_cases G:e.st=0
  .simp only[aa,bc,wb,qt,l1,xb G];exact stay (by rw[n,G];rfl)
  by_cases z:e.line=line
  .have st:=Ot O (u:=eA sv (c.fr line+i)) rfl;simp only[aa,bc,wb,qt,l1,G,l0,P,xb z,st];refine⟨rfl,?_,V,?_,?_,.inr ⟨trivial,rfl,m.vt,⟨i,w,Oi w (by rw[n];simp[G,z]) m.no,xf ..⟩,?_⟩⟩
   .rw [kz (nE K)];exact gL
   .exact λ b hb=>⟨by show b<H7.au;rw[S];exact(hV b hb).1,.inl hb⟩
   .exact (fx.mono λ x _ q=>.inr q).set (.inl (.inl m.vt)) _
   .show H.au+1<H7.au;rw[S];exact m.lt
  .simp only[aa,bc,wb,qt,l1,G,l0,P,z];exact stay (by rw[n];simp[z])
 .intro d V U hd1 hd2 C B A m;have st:=Ot m.g (u:=.nilp) rfl;have t:d≠H.au+1:=λ q=>by have:=(A _ m.vt).2.2;omega
  have gd:(U.set (H.au+1) (OR [.nilp] yi)).get d=B1 (.deferred (B1 [])):=by rw[kz (nE t)];exact C
  have rd:=res (d:=d) (xf U (H.au+1) (OR [.nilp] yi)) t;have o:c.pos line=none:=by
   unfold Ca.pos;split
   .rfl
   .rename_i hl;have D:=m.no;unfold pZ at D;rw[qy hl,xr,zw]at D;rw[NM D];rfl
  simp only[aa,bc,w7,st,Jh,rd];refine⟨gd,?_,?_⟩
  .unfold xR;rw[o]
  .exact (((f4.trans (W':=λ x=>x=H.au+1\/False) B λ x q=>q.elim (λ q=>.inr (by omega)) Nn).set (.inr (by omega)) _).set (.inr (by omega)) _)
 .rintro e d V U hj hd1 hd2 C B A ⟨he,hS⟩;subst he;have⟨k,k1,R,k3⟩:=hS.ex;have t:d≠H.au+1:=λ q=>by have:=(A _ hS.vt).2.2;omega
  have rd:=res (d:=d) k3 t;have o:xR c sv line=eA sv (c.fr line+k):=by
   unfold xR Ca.pos
   by_cases hl:line<0
   .exfalso;obtain⟨G,z,-⟩:=MH R;unfold Ca.mY at z;simp only[zf,bne_iff_ne,ne_eq,beq_iff_eq]at z;have:=(s.ok _ (s.mT line k1) z.1).2.1;omega
   .rw [qy hl,R];rfl
  simp only[aa,bc,Jh,rd];refine⟨C,o.symm,?_⟩;exact((f4.trans (W':=λ x=>x=H.au+1\/False) B λ x q=>q.elim (λ q=>.inr (by omega)) Nn).set (.inr (by omega)) _)
end Go.Am
namespace Go.Am
open Go.Proofs Ca
variable{M:ak}[MK M]
def fG{H:ar}{b e n:Nat}{l x:List AV}(h:H.get b=B1 (OR l e))(hl:l.length=n)(d:x.length=n)(a:aN x=B4):Op.store n [.ptr b 0,.agg x] H=B1 (.undef,H.set b (OR x e)):=by
 have st:=wK h (o:=0) (n:=n) (v:=.agg x) (by rw[zt];exact d) (by omega) (by rw[zt];exact a);rw[st,zt,y8,jp,ju (by omega),zn]
def eH{H:ar}{b e n:Nat}{l:List AV}(h:H.get b=B1 (OR l e))(hl:l.length=n):Op.aq n [.ptr b 0] H=B1 (.agg l):=by
 rw[se (xe h) (by omega),yx,zi (by omega)]
def EB(l:List AV):Op.build l [] []=B1 (.agg l):=rfl
def eZ:[AV.int .i64 0,.int .i64 0,.bool B2,.bool B2,.int .u64 0,.int .u64 0,.int .u64 0,.int .u64 0,.int .u64 0,.int .u64 0,.int .u64 0,.int .u64 0,.int .u64 0,.int .u64 0,.int .u64 0,.int .u64 0,.int .u64 0,.int .u64 0,.int .u64 0,.int .u64 0,.int .i64 0]=aw .zero:=rfl
abbrev cu(d:L8):List AV:=d.l.map uW
theorem yk(d:L8):(cu d).length=8:=by simp[cu,d.h]
def uk(d:L8):aN (cu d)=true:=by simp_all[vh,aB]
def lZ:[AV.int .u64 0,.int .u64 0,.int .u64 0,.int .u64 0,.int .u64 0,.int .u64 0,.int .u64 0,.int .u64 0]=cu .zero:=rfl
def nG(b:Nat)(sv:AV):Nat->Prop:=λ x=>x=b\/x=aF sv
section
variable{H:ar}{b:Nat}{sv:AV}{c:Ca}{lines line:Int}
theorem eh.set(h:eh H b sv c){i:Nat}{e:En}{H':ar}(hs:gW aw xk 21 H' sv (c.sl.set i e))(f:Fr (On (aF sv)) H H'):eh H' b sv (c.set i e) :=
 ⟨by rw[f.ah _ h.lt (λ q:b=aF sv=>h.ne q.symm)];exact h.row,qn h.lt f.au,hs,h.ne,h.s8,h.w4,h.us⟩
def eh.dh(h:eh H b sv c){i:Nat}(g:i<c.sl.length){j:Nat}(k:j<21){u:AV}(hu:aB u=B4){e:En}(he:aw e=(aw (c.en i)).set j u):∃H',Op.store 1 [.ptr (aF sv) (cZ 21 sv i+j),u] H=B1 (.undef,H')/\eh H' b sv (c.set i e)/\Fr (On (aF sv)) H H':=by
 have⟨H',d,f,a⟩:=h.sl.An z4 (FP g) k hu he;exact⟨H',d,h.set f a,a⟩
def eh.Ut(h:eh H b sv c){i:Nat}(g:i<c.sl.length){j n:Nat}{u:AV}(hu:u.cells.length=n)(ho:aN u.cells=B4)(k:j+n<=21){e:En}(he:aw e=(aw (c.en i)).take j++u.cells++(aw (c.en i)).drop (j+n)):∃H',Op.store n [.ptr (aF sv) (cZ 21 sv i+j),u] H=B1 (.undef,H')/\eh H' b sv (c.set i e)/\Fr (On (aF sv)) H H':=by
 have⟨H',d,f,a⟩:=h.sl.Ij z4 (FP g) hu ho k he;exact⟨H',d,h.set f a,a⟩
def eh.Gb(h:eh H b sv c){i:Nat}(g:i<c.sl.length)(e:En):∃H',Op.store 21 [.ptr (aF sv) (cZ 21 sv i),.agg (aw e)] H=B1 (.undef,H')/\eh H' b sv (c.set i e)/\Fr (On (aF sv)) H H':=by
 have⟨H',d,f,a⟩:=h.sl.Pd z4 ux (FP g) e;exact⟨H',d,h.set f a,a⟩
def eh.stU(h:eh H b sv c){u:Int}(hu:0<=u/\u<=1000000):∃H',Op.store 1 [.ptr b 3,.int .i64 u] H=B1 (.undef,H')/\eh H' b sv {c with us:=u}/\Fr (On b) H H':=by
 have st:=wK h.row (o:=3) (n:=1) (v:=.int .i64 u) rfl (by simp[FO]) rfl;have e:(FO c sv).take 3++(AV.int .i64 u).cells++(FO c sv).drop (3+1)=FO {c with us:=u} sv:=rfl;rw[e]at st;have f:Fr (On b) H (H.set b (OR (FO {c with us:=u} sv) j1)):=(Fr.refl H).set (W:=On b) (.inl rfl) _;exact⟨_,st,⟨xf ..,h.lt,h.sl.fr f λ(q:aF sv=b)=>h.ne q,h.ne,h.s8,h.w4,hu⟩,f⟩
def eh.TY(h:eh H b sv c)(k:Nat):Op.ae [.ptr b k] H=(FO c sv)[k]?:=zd (xe h.row) k
def eh.JJ(h:eh H b sv c){i:Nat}(a:i<c.sl.length):Op.aq 21 [.ptr (aF sv) (cZ 21 sv i)] H=B1 (.agg (aw (c.en i))):=(h.sl.sl z4).aq z4 (by decide) (FP a)
def eh.cells(h:eh H b sv c){i:Nat}(a:i<c.sl.length){j n:Nat}(l:j+n<=21):Op.aq n [.ptr (aF sv) (cZ 21 sv i+j)] H=B1 (.agg (((aw (c.en i)).drop j).take n)):=by
 have⟨sb,e,k,d⟩:=h.sl;have hb:aF sv=sb:=by rw[e];rfl
 have ho:cZ 21 sv i=i*21:=by grind [cZ]
 have g:(i+1)*21<=c.sl.length*21:=yd _ a;have hl:=It z4 c.sl;rw[hb,ho,se (xe d) (by omega)];have hm:=_3 (L:=c.sl.flatMap aw) (E:=aw (c.en i)) (p:=i*21) (size:=21) (z4 _) (by omega) (λ r hr=>Jl z4 c.sl (FP a) hr);have f:((c.sl.flatMap aw).take (i*21)).length=i*21:=by grind
 have e1:(c.sl.flatMap aw).drop (i*21+j)=(aw (c.en i)).drop j++(c.sl.flatMap aw).drop (i*21+21):=by
  conv=>lhs;rw[hm]
  rw[IQ,f,ju (by omega),jp,Ow,List.drop_append_of_le_length (by rw[z4];omega)]
 grind
def eh.QF(h:eh H b sv c){i:Nat}(a:i<c.sl.length):Op.aq 8 [.ptr (aF sv) (cZ 21 sv i+4)] H=B1 (.agg (cu (c.en i).d)):=by
 rw[h.cells a (by decide)];have:((aw (c.en i)).drop 4).take 8=cu (c.en i).d:=by
  show((cu (c.en i).d++(cu (c.en i).o ++ [AV.int .i64 (c.en i).u]))).take 8=_
  grind [yk]
 rw[this]
def eh.ldO(h:eh H b sv c){i:Nat}(a:i<c.sl.length):Op.aq 8 [.ptr (aF sv) (cZ 21 sv i+12)] H=B1 (.agg (cu (c.en i).o)):=by
 rw[h.cells a (by decide)];have:((aw (c.en i)).drop 12).take 8=cu (c.en i).o:=by
  have e:(aw (c.en i)).drop 12=(cu (c.en i).d++(cu (c.en i).o ++ [AV.int .i64 (c.en i).u])).drop 8:=rfl
  grind [yk]
 rw[this]
def IH(c:Ca)(sv:AV)(line st:Int):AV:=match c.lK line st with
 |none=>.tuple [.nilp,.int .i64 20]
 |some i=>.tuple [eA sv i,.int .i64 0]
def Mn(k:eh H b sv c)(e:CI lines c)(line st:Int):ze M ZN [.ptr b 0,.int .i64 line,.int .i64 st] H λ v H'=>v=IH c sv line st/\Fr Em H H':=by
 refine xao ?_;obtain⟨w0,w2,h,a,f⟩:=xap M ⟨B5,ZN⟩;simp only[aa,bc,w0,w2,yq,h];refine C3.q (j0 (line:=line) k e) λ v H1⟨m,d⟩=>?_;rw[m];unfold xR IH lK;cases hp:c.pos line with
 |none =>
  simp only[aa,bc,a,Pt];exact d
 |some i =>
  obtain⟨-,l,-⟩:=e.bA hp;have l1:Op.ae [.ptr (aF sv) (cZ 21 sv i+1)] H1=B1 (.int .i64 (c.en i).st):=(k.em d).ld l (by decide)
  by_cases g:st=0
  .subst g;simp only[aa,bc,a,yq,f];exact d
  by_cases j:(c.en i).st=st
  .simp only[aa,bc,a,yq,g,qt,l1,xb j,f];exact d
  .simp only[aa,bc,a,yq,g,qt,l1,j];exact d
abbrev _Z(H:ar)(b:Nat)(sv:AV)(c':Ca)(r:AV):AV->ar->Prop:=λ v H'=>v=r/\eh H' b sv c'/\Fr (nG b sv) H H'
def vT{H1 a:ar}(f:Fr (On (aF sv)) H1 a):Fr (nG b sv) H1 a:=f.mono λ _ _ q=>.inr q
def frB{H1 a:ar}(f:Fr (On b) H1 a):Fr (nG b sv) H1 a:=f.mono λ _ _ q=>.inl q
def sr{H1 a:ar}(f:Fr Em H1 a):Fr (nG b sv) H1 a:=f.mono λ _ _ q=>q.elim
def wG{H1 a d:ar}(f:Fr (nG b sv) H1 a)(g:Fr (nG b sv) a d):Fr (nG b sv) H1 d:=f.trans g λ _ q=>.inl q
def Yq(a:eh H b sv c)(hu:c.us+1<=1000000){i:Nat}(n:i<c.sl.length):ze M qta [.ptr b 0,eA sv i] H λ _ H'=>eh H' b sv (c.use i)/\Fr (nG b sv) H H':=by
 refine q7y ?_;have l3:Op.ae [.ptr b 3] H=B1 (.int .i64 c.us):=a.TY 3;have:=a.us;have w1:aj .i64 (c.us+1)=c.us+1:=(by grind [jj])
 have⟨H1,s1,g,h⟩:=a.stU (u:=c.us+1) (by omega);have f:Op.ae [.ptr b 3] H1=B1 (.int .i64 (c.us+1)):=g.TY 3;have⟨p,s2,l,k⟩:=g.dh n (j:=20) (by decide) (u:=.int .i64 (c.us+1)) rfl (e:={c.en i with u:=c.us+1}) (by
  show aw {c.en i with u:=c.us+1} = (aw (c.en i)).set 20 _;have⟨line,st,r,w,⟨d,m⟩,⟨o,ho⟩,u⟩:=c.en i
  match d,m,o,ho with
  |[d0,d1,d2,d3,d4,d5,d6,d7],_,[o0,o1,o2,o3,o4,o5,o6,o7],_=>rfl)
 simp only[aa,bc,q7z,qt,l3,w1,s1,f,s2];exact⟨l,wG (frB h) (vT k)⟩
def nZ(c:Ca)(line:Int):AV:=match c.find line with
 |none=>.tuple [.agg (aw .zero),.bool B2]
 |some e=>.tuple [.agg (aw e),.bool B4]
def Pu(k:eh H b sv c)(d:CI lines c)(line:Int):ze M ZB [.ptr b 0,.int .i64 line] H λ v H'=>v=nZ c line/\Fr Em H H':=by
 refine q5b ?_;obtain⟨w0,w4,f⟩:=q5c M ⟨B5,ZB⟩;have⟨H1,e1,g,n1,l⟩:=cq H (OR (aw .zero) xk);simp only[aa,bc,w0,eZ,<-e1];refine C3.q (j0 (line:=line) (k.em g) d) λ v e⟨n,h⟩=>?_;rw[n];have j:e.get H.au=B1 (OR (aw .zero) xk):=by rw[h.ah _ (by omega) id];exact l
 have a:Fr Em H e:=g.trans h λ _ q=>q.elim;unfold xR nZ Ca.find;cases hp:c.pos line with
 |none =>
  have st:=fG j (z4 _) (z4 .zero) (ux _);have ld:=eH (xf e H.au (OR (aw .zero) xk)) (z4 _);simp only[aa,bc,w4,Pt,eZ,EB,st,ld];exact⟨rfl,a.set (by omega) _⟩
 |some i =>
  obtain⟨-,m,-⟩:=d.bA hp;have le:=(k.em a).JJ m;have st:=fG j (z4 _) (z4 (c.en i)) (ux _);have ld:=eH (xf e H.au (OR (aw (c.en i)) xk)) (z4 _);simp only[aa,bc,w4,yq,f,qt,le,st,ld];exact⟨rfl,a.set (by omega) _⟩
end
end Go.Am
namespace Go.Am
open Go.Proofs Ca
variable{M:ak}[MK M]
def Qm(e:En)(k:Nat)(hk:k<8)(y:Int):aw {e with d:=e.d.put k y} = (aw e).set (4+k) (uW y):=by
 have⟨line,st,r,w,⟨d,a⟩,⟨o,ho⟩,u⟩:=e
 match d,a,o,ho with
 |[d0,d1,d2,d3,d4,d5,d6,d7],_,[o0,o1,o2,o3,o4,o5,o6,o7],_ =>
  rcases(show k=0\/k=1\/k=2\/k=3\/k=4\/k=5\/k=6\/k=7 by omega)with rfl|rfl|rfl|rfl|rfl|rfl|rfl|rfl<;>rfl
def LQ(e:En)(k:Nat)(hk:k<8):(aw e)[4+k]? = B1 (uW (e.d.get k)):=by
 have⟨line,st,r,w,⟨d,a⟩,⟨o,ho⟩,u⟩:=e
 match d,a,o,ho with
 |[d0,d1,d2,d3,d4,d5,d6,d7],_,[o0,o1,o2,o3,o4,o5,o6,o7],_ =>
  rcases(show k=0\/k=1\/k=2\/k=3\/k=4\/k=5\/k=6\/k=7 by omega)with rfl|rfl|rfl|rfl|rfl|rfl|rfl|rfl<;>rfl
def Kd(e:En)(x:L8):aw {e with d:=x} = (aw e).take 4++(AV.agg (cu x)).cells++(aw e).drop (4+8):=by
 have⟨line,st,r,w,⟨d,a⟩,⟨o,ho⟩,u⟩:=e
 match d,a,o,ho with
 |[d0,d1,d2,d3,d4,d5,d6,d7],_,[o0,o1,o2,o3,o4,o5,o6,o7],_=>rfl
def Ka(e:En)(x:L8):aw {e with o:=x} = (aw e).take 12++(AV.agg (cu x)).cells++(aw e).drop (12+8):=by
 have⟨line,st,r,w,⟨d,a⟩,⟨o,ho⟩,u⟩:=e
 match d,a,o,ho with
 |[d0,d1,d2,d3,d4,d5,d6,d7],_,[o0,o1,o2,o3,o4,o5,o6,o7],_ =>
  have⟨x,f⟩:=x
  match x,f with
  |[x0,x1,x2,x3,x4,x5,x6,x7],_=>rfl
section
variable{H:ar}{b:Nat}{sv:AV}{c:Ca}{lines line:Int}
def AB{a:Nat}(h:a<1000000):Op.bin .quo [.int .i64 (a:Int),.int .i64 8]=B1 (.int .i64 ((a / 8:Nat):Int)):=by
 rw[P2 .i64 _ _ (by decide),Int.tdiv_eq_ediv_of_nonneg (by omega),jj (by omega) (by omega)];rfl
def Mh{a:Nat}(h:a<1000000):Op.bin .rem [.int .i64 (a:Int),.int .i64 8]=B1 (.int .i64 ((a % 8:Nat):Int)):=Qk (by decide)
def σ(i k:Nat)(hk:k<8):Op.aV 8 1 [.ptr (aF sv) (cZ 21 sv i+4),.int .i64 (k:Int)]=B1 (.ptr (aF sv) (cZ 21 sv i+(4+k))):=by
 have:=RV (len:=8) (size:=1) (b:=aF sv) (o:=cZ 21 sv i+4) (k:=.i64) (j:=(k:Int)) (i:=k) rfl hk;rw[this,LI,wq]
def MX{i:Nat}(a:i<c.sl.length)(e:En):(c.set i e).en i=e:=by rw[D3 a,xg rfl]
def Sq(c:Ca)(i:Nat)(e e':En):(c.set i e).set i e'=c.set i e':=by unfold Ca.set;simp only[List.set_set]
def Be{i:Nat}(a:i<c.sl.length):(c.use i).en i = {c.en i with u:=c.us+1}:=by
 show(c.set i {c.en i with u:=c.us+1}).en i=_;exact MX a _
def zO(c:Ca)(a:Nat):AV:=match c.pos ((a / 8:Nat):Int)with
 |none=>.tuple [.int .u64 0,.int .i64 20]
 |some i=>.tuple [.int .u64 ((c.en i).d.get (a % 8)),.int .i64 0]
def xen(p:eh H b sv c)(e:CI lines c)(hu:c.us+1<=1000000){a:Nat}(ha:a<1000000):ze M iw [.ptr b 0,.int .i64 (a:Int)] H (_Z H b sv (c.word a).1 (zO c a)):=by
 refine q5f ?_;obtain⟨w0,w2,l,f,m⟩:=q5g M ⟨B5,iw⟩;have n0:¬(a:Int)<0:=by omega
 have hk:a % 8<8:=Nat.mod_lt _ (by decide);simp only[aa,bc,w0,w2,mh,n0,l,AB ha];refine C3.q (Mn p e ((a / 8:Nat):Int) 0) λ v H1⟨t,g⟩=>?_;rw[t];have n:=p.em g;unfold IH zO Ca.word;rw[sN];cases hp:c.pos ((a / 8:Nat):Int)with
 |none =>
  have k:¬(20:Int)=0:=by decide
  simp only[aa,bc,xj,f,k];exact⟨rfl,n,sr g⟩
 |some i =>
  obtain⟨-,h,-⟩:=e.bA hp;have u:=xb (show(0:Int)=0 from rfl);simp only[aa,bc,xj,f,m];refine C3.q (Yq n hu h) λ _ r⟨o,s⟩=>?_;have j:i<(c.use i).sl.length:=by show i<(c.sl.set i _).length;rw[xw];exact h
  have ld:Op.ae [.ptr (aF sv) (cZ 21 sv i+(4+a % 8))] r=B1 (uW ((c.en i).d.get (a % 8))):=by
   rw[o.ld j (by omega),Be h,LQ _ _ hk]
  simp only[aa,bc,Mh ha,qt,σ i (a % 8) hk,ld];exact⟨rfl,o,wG (sr g) s⟩
def QX(c:Ca)(a:Nat):AV:=match c.lK ((a / 8:Nat):Int) 2 with
 |none=>.int .i64 20
 |some _=>.int .i64 0
def xh0(s:eh H b sv c)(f:CI lines c)(hu:c.us+1<=1000000){a:Nat}(ha:a<1000000)(y:Int):ze M Za [.ptr b 0,.int .i64 (a:Int),.int .u64 y] H (_Z H b sv (c.put a y) (QX c a)):=by
 refine q7t ?_;obtain⟨w0,w2,n,g,o⟩:=q7u M ⟨B5,Za⟩;have n0:¬(a:Int)<0:=by omega
 have hk:a % 8<8:=Nat.mod_lt _ (by decide);simp only[aa,bc,w0,w2,mh,n0,n,AB ha];refine C3.q (Mn s f ((a / 8:Nat):Int) 2) λ v H1⟨z,h⟩=>?_;rw[z];have p:=s.em h;unfold IH QX Ca.put;cases hp:c.lK ((a / 8:Nat):Int) 2 with
 |none =>
  have m:¬(20:Int)=0:=by decide
  simp only[aa,bc,xj,g,m];exact⟨rfl,p,sr h⟩
 |some i =>
  obtain⟨-,k,-⟩:=f.bA (yC hp).1;have D:=xb (show(0:Int)=0 from rfl);simp only[aa,bc,xj,g,o];refine C3.q (Yq p hu k) λ _ B⟨x,t⟩=>?_;have l:i<(c.use i).sl.length:=by show i<(c.sl.set i _).length;rw[xw];exact k
  have⟨C,A,r,w⟩:=x.dh l (j:=4+a % 8) (by omega) (u:=.int .u64 y) rfl (e:={(c.use i).en i with d:=((c.use i).en i).d.put (a % 8) y}) (Qm _ _ hk y);have e:(c.use i).set i {(c.use i).en i with d:=((c.use i).en i).d.put (a % 8) y} = {c with us:=c.us+1,sl:=c.sl.set i {c.en i with u:=c.us+1,d:=(c.en i).d.put (a % 8) y}}:=by
   rw[Be k];unfold Ca.use Ca.set;simp only[List.set_set]
  rw[e]at r;simp only[aa,bc,Mh ha,qt,σ i (a % 8) hk,A];exact⟨rfl,r,wG (wG (sr h) t) (vT w)⟩
def χ(s:eh H b sv c)(a:CI lines c)(line:Int)(wr:Bool):ze M Z4 [.ptr b 0,.int .i64 line,.bool wr] H λ _ H'=>eh H' b sv (c.mark line wr)/\Fr (nG b sv) H H':=by
 refine q5d ?_;obtain⟨w0,w2,B,D,k,p,l⟩:=q5e M ⟨B5,Z4⟩;have m:¬(20:Int)=0:=by decide
 have J:=xb (show(0:Int)=0 from rfl);cases wr with
 |false =>
  simp only[aa,bc,w0,w2];refine C3.q (Mn s a line 0) λ v H1⟨z,f⟩=>?_;rw[z];have g:=s.em f;unfold IH Ca.mark;rw[qy (by decide)];cases hp:c.lK line 0 with
  |none =>
   simp only[aa,bc,xj,D,m,p];exact⟨g,sr f⟩
  |some i =>
   obtain⟨-,h,-⟩:=a.bA (yC hp).1;have⟨E,A,x,t⟩:=g.dh h (j:=2) (by decide) (u:=.bool B4) rfl (e:={c.en i with r:=B4}) rfl;simp only[aa,bc,xj,D,qt,A,p];exact⟨x,wG (sr f) (vT t)⟩
 |true =>
  simp only[aa,bc,w0,w2,B];refine C3.q (Mn s a line 2) λ v H1⟨z,f⟩=>?_;rw[z];have g:=s.em f;unfold IH Ca.mark;rw[xg rfl];cases hp:c.lK line 2 with
  |none =>
   simp only[aa,bc,xj,k,m,l];exact⟨g,sr f⟩
  |some i =>
   obtain⟨-,h,-⟩:=a.bA (yC hp).1;have l3:Op.ae [.ptr (aF sv) (cZ 21 sv i+3)] H1=B1 (.bool (c.en i).w):=g.ld h (by decide);dsimp only;cases hw:(c.en i).w with
   |true =>
    rw[xg rfl];rw[hw]at l3;simp only[aa,bc,xj,k,qt,l3,l];exact⟨g,sr f⟩
   |false =>
    rw[qy (by decide)];rw[hw]at l3;have⟨E,A,x,t⟩:=g.dh h (j:=3) (by decide) (u:=.bool B4) rfl (e:={c.en i with w:=B4}) rfl;have y:i<(c.set i {c.en i with w:=B4}).sl.length:=by show i<(c.sl.set i _).length;rw[xw];exact h
    have⟨I,G,C,F⟩:=x.Ut y (j:=12) (n:=8) (u:=.agg (cu (c.en i).d)) (by rw[zt];exact yk _) (by rw[zt];exact uk _) (by decide) (e:={(c.set i {c.en i with w:=B4}).en i with o:=(c.en i).d}) (Ka _ _);rw[MX h,Sq]at C;simp only[aa,bc,xj,k,qt,l3,g.QF h,A,G,l];exact⟨C,wG (wG (sr f) (vT t)) (vT F)⟩
def ua(c:Ca)(line:Int):AV:=.tuple [.agg (cu (c.da line).2),match c.lK line 2 with|none=>.int .i64 20|some _=>.int .i64 0]
def xfd(g:eh H b sv c)(h:CI lines c)(line:Int):ze M Wz [.ptr b 0,.int .i64 line] H λ v H'=>v=ua c line/\eh H' b sv (c.da line).1/\Fr (nG b sv) H H':=by
 refine qx2 ?_;obtain⟨w0,w4,p⟩:=qx3 M ⟨B5,Wz⟩;have o:¬(20:Int)=0:=by decide
 have E:=xb (show(0:Int)=0 from rfl);have⟨H1,e1,r,n1,x⟩:=cq H (OR (cu .zero) ja);have A:=g.lt;have B:aF sv<H.au:=g.sl.lt;simp only[aa,bc,w0,lZ,<-e1];refine C3.q (Mn (g.em r) h line 2) λ v k⟨C,l⟩=>?_;rw[C];have a:Fr Em H k:=r.trans l λ _ q=>q.elim;have z:=g.em a;have t:k.get H.au=B1 (OR (cu .zero) ja):=by rw[l.ah _ (by omega) id];exact x
 unfold IH ua Ca.da;cases hp:c.lK line 2 with
 |none =>
  have st:=fG t (yk _) (yk .zero) (uk _);have ld:=eH (xf k H.au (OR (cu .zero) ja)) (yk _);have fs:Fr Em H (k.set H.au (OR (cu .zero) ja)):=a.set (.inr (qm _)) _;simp only[aa,bc,xj,w4,o,lZ,EB,st,ld];exact⟨g.em fs,sr fs⟩
 |some i =>
  obtain⟨-,m,-⟩:=h.bA (yC hp).1;have⟨f,D,w,s⟩:=z.dh m (j:=1) (by decide) (u:=.int .i64 1) rfl (e:={c.en i with st:=1}) rfl;have n:i<(c.set i {c.en i with st:=1}).sl.length:=by show i<(c.sl.set i _).length;rw[xw];exact m
  have l3:=w.QF n;rw[MX m]at l3;have n2:=l.au;have y:f.get H.au=B1 (OR (cu .zero) ja):=by rw[s.ah _ (by omega) (λ(q:H.au=aF sv)=>by omega)];exact t
  have st:=fG y (yk _) (yk (c.en i).d) (uk _);have ld:=eH (xf f H.au (OR (cu (c.en i).d) ja)) (yk _);have fo:Fr (On H.au) f (f.set H.au (OR (cu (c.en i).d) ja)):=(Fr.refl f).set (W:=On H.au) (.inl rfl) _;simp only[aa,bc,xj,w4,p,qt,D,l3,st,ld];exact⟨w.fr fo (λ(q:b=H.au)=>by omega) (λ(q:aF sv=H.au)=>by omega),(wG (sr a) (vT s)).set (.inr (qm _)) _⟩
def xdy(h:eh H b sv c)(f:CI lines c)(line:Int)(x:L8):ze M WZ [.ptr b 0,.int .i64 line,.agg (cu x)] H λ _ H'=>eh H' b sv (c.cS line x)/\Fr (nG b sv) H H':=by
 refine qwc ?_;obtain⟨w0,w4,g⟩:=qwd M ⟨B5,WZ⟩;have o:¬(20:Int)=0:=by decide
 have L:=xb (show(0:Int)=0 from rfl);have⟨H1,e1,r,n1,B⟩:=cq H (OR (cu x) ja);have E:=h.lt;have F:aF sv<H.au:=h.sl.lt;simp only[aa,bc,w0,<-e1];refine C3.q (Mn (h.em r) f line 1) λ v p⟨G,k⟩=>?_;rw[G];have a:Fr Em H p:=r.trans k λ _ q=>q.elim;have w:=h.em a;have t:p.get H.au=B1 (OR (cu x) ja):=by rw[k.ah _ (by omega) id];exact B
 unfold IH Ca.cS;cases hp:c.lK line 1 with
 |none =>
  simp only[aa,bc,xj,w4,o,g];exact⟨w,sr a⟩
 |some i =>
  obtain⟨-,l,-⟩:=f.bA (yC hp).1;have⟨z,I,D,s⟩:=w.dh l (j:=1) (by decide) (u:=.int .i64 2) rfl (e:={c.en i with st:=2}) rfl;have m:i<(c.set i {c.en i with st:=2}).sl.length:=by show i<(c.sl.set i _).length;rw[xw];exact l
  have⟨K,J,y,A⟩:=D.Ut m (j:=4) (n:=8) (u:=.agg (cu x)) (by rw[zt];exact yk _) (by rw[zt];exact uk _) (by decide) (e:={(c.set i {c.en i with st:=2}).en i with d:=x}) (Kd _ _);rw[MX l,Sq]at y;have n2:=k.au;have C:z.get H.au=B1 (OR (cu x) ja):=by rw[s.ah _ (by omega) (λ(q:H.au=aF sv)=>by omega)];exact t
  simp only[aa,bc,xj,w4,qt,eH t (yk x),I,eH C (yk x),J,g];exact⟨y,wG (wG (sr a) (vT s)) (vT A)⟩
def yF(c:Ca)(line:Int):AV:=.tuple [.agg (aw (c.drop line).2),match c.lK line 0 with|none=>.int .i64 20|some _=>.int .i64 0]
def Vp(h:eh H b sv c)(j:CI lines c)(line:Int):ze M Yy [.ptr b 0,.int .i64 line] H λ v H'=>v=yF c line/\eh H' b sv (c.drop line).1/\Fr (nG b sv) H H':=by
 refine q47 ?_;obtain⟨w0,w4,s⟩:=q48 M ⟨B5,Yy⟩;have r:¬(20:Int)=0:=by decide
 have Q:=xb (show(0:Int)=0 from rfl);have⟨H1,e1,u,n1,C⟩:=cq H (OR (aw .zero) xk);have I:=h.lt;have J:aF sv<H.au:=h.sl.lt;simp only[aa,bc,w0,eZ,<-e1];refine C3.q (Mn (h.em u) j line 0) λ v a⟨K,l⟩=>?_;rw[K];have d:Fr Em H a:=u.trans l λ _ q=>q.elim;have y:=h.em d;have n2:=l.au;have w:a.get H.au=B1 (OR (aw .zero) xk):=by rw[l.ah _ (by omega) id];exact C
 unfold IH yF Ca.drop;cases hp:c.lK line 0 with
 |none =>
  have st:=fG w (z4 _) (z4 .zero) (ux _);have ld:=eH (xf a H.au (OR (aw .zero) xk)) (z4 _);have fs:Fr Em H (a.set H.au (OR (aw .zero) xk)):=d.set (.inr (qm _)) _;simp only[aa,bc,xj,w4,r,eZ,EB,st,ld];exact⟨h.em fs,sr fs⟩
 |some i =>
  obtain⟨-,z,-⟩:=j.bA (yC hp).1;have⟨f,B,m,P,D⟩:=cq a (OR (aw .zero) xk);have A:=fG D (z4 _) (z4 (c.en i)) (ux _);obtain⟨t,g⟩:∃X,X=f.set a.au (OR (aw (c.en i)) xk):=⟨_,rfl⟩
  rw[<-g]at A;have n:Fr (On a.au) f t:=by rw[g];exact(Fr.refl f).set (W:=On a.au) (.inl rfl) _
  have F:=(y.em m).fr n (λ(q:b=a.au)=>by omega) (λ(q:aF sv=a.au)=>by omega);have⟨e,N,G,o⟩:=F.Gb z .zero;have E:e.get a.au=B1 (OR (aw (c.en i)) xk):=by rw[o.ah _ (by rw[g];show a.au<f.au;omega) (λ(q:a.au=aF sv)=>by omega),g,xf]
  have L:=eH E (z4 (c.en i));have p:e.get H.au=B1 (OR (aw .zero) xk):=by rw[o.ah _ (by rw[g];show H.au<f.au;omega) (λ(q:H.au=aF sv)=>by omega),n.ah _ (by omega) (λ(q:H.au=a.au)=>by omega),m.ah _ (by omega) id];exact w
  have O:=fG p (z4 _) (z4 (c.en i)) (ux _);have ld:=eH (xf e H.au (OR (aw (c.en i)) xk)) (z4 _);have fo:Fr (On H.au) e (e.set H.au (OR (aw (c.en i)) xk)):=(Fr.refl e).set (W:=On H.au) (.inl rfl) _;have k:Fr (nG b sv) H t:=(wG (sr d) (sr m)).trans n λ x(q:x=a.au)=>.inr (by omega);simp only[aa,bc,xj,w4,s,qt,y.JJ z,eZ,<-B,A,EB,N,L,O,ld];exact⟨G.fr fo (λ(q:b=H.au)=>by omega) (λ(q:aF sv=H.au)=>by omega),(wG k (vT o)).set (.inr (qm _)) _⟩
end
end Go.Am
namespace Go.Am
open Go.Proofs Ca
variable{M:ak}[MK M]
def qA(sv:AV)(o:Option Nat):AV:=match o with
 |none=>.nilp
 |some i=>eA sv i
def DM(sv:AV)(o:Option Nat):aB (qA sv o)=true:=by cases o<;>rfl
def BG{a:ar}{t d e:Nat}{x:AV}{o:bE}(g:a.get t=B1 (OR [x] e))(h:d≠t):Op.ae [.ptr t 0] (a.set d o)=B1 x:=by
 have f:(a.set d o).get t=B1 (OR [x] e):=by rw[kz h];exact g
 exact zd (xe f) 0
structure Xr(c:Ca)(sv:AV)(line:Int)(t u:Nat)(i:Nat)(V:Nat->Prop)(Hx:ar):Prop where
 vt:V t
 vu:V u
 g:Hx.get t=B1 (OR [.nilp] yi)
 gu:Hx.get u=B1 (OR [qA sv ((c.iO line i).map (c.fr line + ·))] yi)
 lt:t<Hx.au
 Ye:u<Hx.au
 no:∀k,k<i->c.free line k=B2
structure X5(c:Ca)(sv:AV)(line:Int)(t:Nat)(V:Nat->Prop)(Hx:ar):Prop where
 vt:V t
 ex:∃k,k<c.ways/\dI (c.free line) c.ways=B1 k/\Hx.get t=B1 (OR [eA sv (c.fr line+k)] yi)
 lt:t<Hx.au
section
variable{H:ar}{b:Nat}{sv:AV}{c:Ca}{lines line:Int}
def xnw(hc:eh H b sv c)(O:CI lines c)(hl:0<=line):ze M OE [.ptr b 0,.int .i64 line] H λ v H'=>v=qA sv (c.room line)/\Fr Em H H':=by
 refine q5l ?_;have⟨w0,wa,wb,w2,t,w3,n,w5,w7,w12⟩:=_9 M ⟨B5,OE⟩;obtain⟨H1,e1,f1,n1,-⟩:=cq H (OR [.nilp] yi);obtain⟨D,e2,U,-,-⟩:=cq H1 (OR [.nilp] yi);have f2:Fr Em H D:=f1.trans U λ _ q=>q.elim;have n2:D.au=H.au+2:=by rw[e2,xz,n1]
 have g1:D.get H.au=B1 (OR [.nilp] yi):=by rw[U.ah _ (by omega) id,e1,xq]
 have g2:D.get (H.au+1)=B1 (OR [.nilp] yi):=by rw[e2,<-n1,xq]
 simp only[aa,bc,w0,<-e1,w2,w3,<-e2,n1,w5,w7];refine C3.q (f_ b line) λ v H5⟨hv,hh⟩=>?_;obtain⟨H3,e3,f23,-,-⟩:=cq D (OR [.ptr b 0] Ew);obtain⟨S,e4,Y,-,-⟩:=cq H3 (OR [.int .i64 line] cE);rw[<-e3,<-e4]at hh;rw[hv,hh];have L:Fr Em D S:=f23.trans Y λ _ q=>q.elim;have f4:Fr Em H S:=f2.trans L λ _ q=>q.elim;have n3:H3.au=H.au+3:=by rw[e3,xz,n2]
 have n4:S.au=H.au+4:=by rw[e4,xz,n3]
 have g3:S.get D.au=B1 (OR [.ptr b 0] Ew):=by rw[Y.ah _ (by omega) id,e3,xq]
 have g4:S.get (D.au+1)=B1 (OR [.int .i64 line] cE):=by rw[show D.au+1=H3.au by omega,e4,xq]
 have hc4:=hc.em f4;have hlt:=hc.lt;have hsb:aF sv<H.au:=hc.sl.lt;have I:pZ c sv line=(N5 c.ways).map λ k=>[eA sv (c.fr line+k)]:=by unfold pZ;rw[qy (by omega)]
 refine iH.iter (fn:=Tf) (lp:=Rp) (pa:=XR 0) (pb:=Wr 0) q0p z6.1 z6.2 (by decide) qx6 qx7
  (b_ hc4 O g3 g4 (by omega) (by omega)) (λ i V B=>Xr c sv line H.au (H.au+1) i V B) (λ e V B=>e=.ret/\X5 c sv line H.au V B) (λ x=>x=H.au\/x=H.au+1) (qm _) ?_ ?_ ?_ ?_ ?_ ?_ ?_ ?_
 .rintro x ((q|q|q)|q)
  .exact ⟨by omega,rfl,by omega⟩
  .exact ⟨by omega,rfl,by omega⟩
  .exact ⟨by omega,rfl,by omega⟩
  .exact q.elim
 .exact λ x hx=>by omega
 .exact ⟨.inl rfl,.inr rfl,by rw[L.ah _ (by omega) id];exact g1,by rw[L.ah _ (by omega) id];exact g2,by omega,by omega,λ k hk=>by omega⟩
 .exact λ i V Ha Hb h hs hn=>⟨h.vt,h.vu,by rw[hs _ h.vt];exact h.g,by rw[hs _ h.vu];exact h.gu,qn h.lt hn,qn h.Ye hn,h.no⟩
 .rintro e V Ha Hb ⟨he,h⟩ hs hn;have⟨k,k1,k2,k3⟩:=h.ex;exact⟨he,h.vt,⟨k,k1,k2,by rw[hs _ h.vt];exact k3⟩,qn h.lt hn⟩
 .intro f i lr lb x hx hL2 V p a hV hf6 hnL hL6 hgL;rw[I,xm,xt]at hx;obtain⟨y,hy,rfl⟩:=hx;have F:i<c.ways:=by have:=(qo.1 hy).1;rw[zw]at this;exact this
  rw[jx F]at hy;cases hy;refine⟨_,rfl,?_⟩;obtain⟨-,wa,wb,-,t,-,n,-⟩:=_9 M ⟨B1 f,OE⟩;simp only[aa,bc,wa,A6];refine⟨hgL,?_⟩;have fx:Fr (On f) p (p.set f lb):=(Fr.refl p).set (W:=On f) (.inl rfl) _;have gL:(p.set f lb).get f=B1 lb:=xf ..;have J:(p.set f lb).au=p.au:=rfl;have hc6:eh p b sv c:=hc4.fr hf6 (λ q=>q.elim (λ q=>by omega) id) (λ q=>q.elim (λ q=>by omega) id);have h7:eh (p.set f lb) b sv c:=hc6.fr fx (λ(q:b=f)=>by omega) (λ(q:aF sv=f)=>by omega);have hLt:f≠H.au:=λ q=>hnL (by rw[q];exact a.vt);have hLu:f≠H.au+1:=λ q=>hnL (by rw[q];exact a.vu);have R:(p.set f lb).get H.au=B1 (OR [.nilp] yi):=by rw[kz hLt];exact a.g
  have s:(p.set f lb).get (H.au+1)=B1 (OR [qA sv ((c.iO line i).map (c.fr line + ·))] yi):=by rw[kz hLu];exact a.gu
  generalize p.set f lb=H7 at *;have hi:=O.mT line F;obtain⟨e,he⟩:∃e,e=c.en (c.fr line+i):=⟨_,rfl⟩
  have l1:Op.ae [.ptr (aF sv) (cZ 21 sv (c.fr line+i)+1)] H7=B1 (.int .i64 e.st):=by rw[he];exact h7.ld hi (k:=1) (by decide)
  have l2:Op.ae [.ptr (aF sv) (cZ 21 sv (c.fr line+i)+2)] H7=B1 (.bool e.r):=by rw[he];exact h7.ld hi (k:=2) (by decide)
  have l3:Op.ae [.ptr (aF sv) (cZ 21 sv (c.fr line+i)+3)] H7=B1 (.bool e.w):=by rw[he];exact h7.ld hi (k:=3) (by decide)
  have K:∀e:En,(aw e)[20]? = B1 (.int .i64 e.u):=λ e=>by
   have⟨line,st,r,w,⟨d,hd⟩,⟨o,ho⟩,u⟩:=e
   match d,hd,o,ho with
   |[d0,d1,d2,d3,d4,d5,d6,d7],_,[o0,o1,o2,o3,o4,o5,o6,o7],_=>rfl
  have l20:∀k,c.fr line+k<c.sl.length->Op.ae [.ptr (aF sv) (cZ 21 sv (c.fr line+k)+20)] H7=B1 (.int .i64 (c.en (c.fr line+k)).u):=λ k hk=>by rw[h7.ld hk (k:=20) (by decide),K]
  have C:c.free line i=(e.st == 0):=by rw[he];rfl
  have no':e.st≠0 -> ∀k,k<i+1->c.free line k=false:=λ Z k hk=>by
   by_cases q:k=i
   .rw [q,C];simp[Z]
   .exact a.no k (by omega)
  have z:Op.ae [.ptr (H.au+1) 0] H7=B1 (qA sv ((c.iO line i).map (c.fr line + ·))):=zd (xe s) 0;have l:c.iO line (i+1)=if e.r ||e.w then c.iO line i else match c.iO line i with
   |none=>B1 i
   |some j=>if e.u<(c.en (c.fr line+j)).u then B1 i else B1 j:=by rw[he];rfl
  -- it stays as it is
  have stay:e.st≠0->c.iO line (i+1)=c.iO line i->Sh (λ V B=>Xr c sv line H.au (H.au+1) (i+1) V B) (λ e V B=>e=.ret/\X5 c sv line H.au V B) f lb V p .normal [] [] H7:=λ Z hb =>
   ⟨rfl,gL,V,λ b hb=>⟨by rw[J];exact(hV b hb).1,.inl hb⟩,fx.mono λ x _ q=>.inr q,.inl ⟨rfl,a.vt,a.vu,R,by rw[hb];exact s,by rw[J];exact a.lt,by rw[J];exact a.Ye,no' Z⟩⟩
  -- this one is taken
  obtain⟨H8,G⟩:∃X,X=H7.set (H.au+1) (OR [eA sv (c.fr line+i)] yi):=⟨_,rfl⟩
  have st:=Ot s (u:=eA sv (c.fr line+i)) rfl;rw[<-G]at st;have take:e.st≠0->c.iO line (i+1)=B1 i->Sh (λ V B=>Xr c sv line H.au (H.au+1) (i+1) V B) (λ e V B=>e=.ret/\X5 c sv line H.au V B) f lb V p .normal [] [] H8:=λ Z hb =>
   ⟨rfl,by rw[G,kz (nE hLu)];exact gL,V,λ b hb=>⟨by rw[G];show b<H7.au;rw[J];exact(hV b hb).1,.inl hb⟩,by rw[G];exact(fx.mono λ x _ q=>.inr q).set (.inl (.inl a.vu)) _,.inl ⟨rfl,a.vt,a.vu,by rw[G,kz (by omega)];exact R,by rw[G,xf,hb];rfl,by rw[G];show H.au<H7.au;rw[J];exact a.lt,by rw[G];show H.au+1<H7.au;rw[J];exact a.Ye,no' Z⟩⟩
  by_cases A:e.st=0
  .have stt:=Ot R (u:=eA sv (c.fr line+i)) rfl;simp only[aa,bc,wb,qt,l1,xb A,stt];refine⟨rfl,?_,V,?_,?_,.inr ⟨trivial,rfl,a.vt,⟨i,F,Oi F (by rw[C];simp[A]) a.no,xf ..⟩,?_⟩⟩
   .rw [kz (nE hLt)];exact gL
   .exact λ b hb=>⟨by show b<H7.au;rw[J];exact(hV b hb).1,.inl hb⟩
   .exact (fx.mono λ x _ q=>.inr q).set (.inl (.inl a.vt)) _
   .show H.au<H7.au;rw[J];exact a.lt
  cases hr:e.r with
  |true =>
   rw[hr]at l2;simp only[aa,bc,wb,qt,l1,A,t,l2];exact stay A (by rw[l,hr];rfl)
  |false =>
   rw[hr]at l2;cases hw:e.w with
   |true =>
    rw[hw]at l3;simp only[aa,bc,wb,qt,l1,A,t,l2,l3];exact stay A (by rw[l,hr,hw];rfl)
   |false =>
    rw[hw]at l3;rw[hr,hw]at l;cases hb:c.iO line i with
    |none =>
     rw[hb]at z l;have z:Op.ae [.ptr (H.au+1) 0] H7=B1 .nilp:=z;simp only[aa,bc,wb,qt,l1,A,t,l2,l3,n,z,Pt,st];exact take A l
    |some j =>
     rw[hb]at z l;have z:Op.ae [.ptr (H.au+1) 0] H7=B1 (eA sv (c.fr line+j)):=z;have hj:=(UD hb).1;have a1:=l20 i hi;rw[<-he]at a1;have a2:=l20 j (O.mT line (by omega))
     by_cases q:e.u<(c.en (c.fr line+j)).u
     .simp only[aa,bc,wb,qt,l1,A,t,l2,l3,n,z,yq,a1,a2,q,st];exact take A (by rw[l];simp[q])
     .simp only[aa,bc,wb,qt,l1,A,t,l2,l3,n,z,yq,a1,a2,q];exact stay A (by rw[l,hb];simp[q])
 .intro d V T hd1 hd2 Q P N a;have hno:=a.no;have s:=a.gu;rw[I,xr,zw]at hno s;have z:Op.ae [.ptr (H.au+1) 0] T=B1 (qA sv ((c.iO line c.ways).map (c.fr line + ·))):=zd (xe s) 0;have st:=Ot a.g (u:=qA sv ((c.iO line c.ways).map (c.fr line + ·))) (DM ..);have E:d≠H.au:=λ q=>by have:=(N _ a.vt).2.2;omega
  have gd:(T.set H.au (OR [qA sv ((c.iO line c.ways).map (c.fr line + ·))] yi)).get d=B1 (.deferred (B1 [])):=by rw[kz (nE E)];exact Q
  have rd:Op.ae [.ptr H.au 0] ((T.set H.au (OR [qA sv ((c.iO line c.ways).map (c.fr line + ·))] yi)).set d (.deferred B5))=B1 (qA sv ((c.iO line c.ways).map (c.fr line + ·))):=BG (xf ..) E;have m:c.room line=(c.iO line c.ways).map (c.fr line + ·):=by
   unfold Ca.room;rw[NM hno]
  rw[<-m]at z st gd rd;simp only[aa,bc,w12,z,st,uO,Jh,rd];refine⟨gd,?_⟩;exact(((f4.trans (W':=λ x=>(x=H.au\/x=H.au+1)\/False) P λ x q=>q.elim (λ q=>.inr (by omega)) Nn).set (.inr (by omega)) _).set (.inr (by omega)) _)
 .rintro e d V T hj hd1 hd2 Q P N ⟨he,hS⟩;subst he;have⟨k,k1,k2,k3⟩:=hS.ex;have E:d≠H.au:=λ q=>by have:=(N _ hS.vt).2.2;omega
  have rd:Op.ae [.ptr H.au 0] (T.set d (.deferred B5))=B1 (eA sv (c.fr line+k)):=BG k3 E;have m:c.room line=B1 (c.fr line+k):=by unfold Ca.room;rw[k2]
  simp only[aa,bc,uO,Jh,rd];refine⟨Q,by rw[m];rfl,?_⟩;exact((f4.trans (W':=λ x=>(x=H.au\/x=H.au+1)\/False) P λ x q=>q.elim (λ q=>.inr (by omega)) Nn).set (.inr (by omega)) _)
end
end Go.Am
namespace Go.Am
open Go.Proofs Ca
variable{M:ak}[MK M]
def bdE(line st:Int)(x:L8):Op.build (aw .zero) [(0,1),(1,1),(4,8)] [.int .i64 line,.int .i64 st,.agg (cu x)]=B1 (.agg (aw ⟨line,st,B2,B2,x,.zero,0⟩)):=by
 have⟨x,a⟩:=x
 match x,a with
 |[x0,x1,x2,x3,x4,x5,x6,x7],_=>rfl
def pJ(c:Ca)(line st:Int)(x:L8):AV:=.tuple [.agg (aw (c.fill line st x).2.1),.bool (decide ((c.fill line st x).2.2=0/\(c.fill line st x).2.1.st≠0)),.int .i64 (c.fill line st x).2.2]
section
variable{H:ar}{b:Nat}{sv:AV}{c:Ca}{lines line:Int}
def xcx(n:eh H b sv c)(l:CI lines c)(hu:c.us+1<=1000000)(hl:0<=line){st:Int}(Q:st=1\/st=2)(x:L8) :
 ze M OG [.ptr b 0,.int .i64 line,.int .i64 st,.agg (cu x)] H λ v H'=>v=pJ c line st x/\eh H' b sv (c.fill line st x).1/\Fr (nG b sv) H H':=by
 refine q49 ?_;obtain⟨w0,w2,U,T,u,V⟩:=q5a M ⟨B5,OG⟩;obtain⟨H1,e1,f1,n1,-⟩:=cq H (OR (cu x) ja);obtain⟨m,e2,p,-,-⟩:=cq H1 (OR (aw .zero) xk);have z:Fr Em H m:=f1.trans p λ _ q=>q.elim;have n2:m.au=H.au+2:=by rw[e2,xz,n1]
 have g1:m.get H.au=B1 (OR (cu x) ja):=by rw[p.ah _ (by omega) id,e1,xq]
 have Y:m.get (H.au+1)=B1 (OR (aw .zero) xk):=by rw[e2,<-n1,xq]
 have nl:¬line<0:=by omega
 have hlt:=n.lt;have hsb:aF sv<H.au:=n.sl.lt
 -- an error
 have err:∀{g:ar}(k:Int),Fr Em m g->k≠0->(c.fill line st x).2.2=k->(c.fill line st x).1=c->(c.fill line st x).2.1=.zero ->
  Op.store 21 [.ptr (H.au+1) 0,.agg (aw .zero)] g=B1 (.undef,g.set (H.au+1) (OR (aw .zero) xk))/\Op.aq 21 [.ptr (H.au+1) 0] (g.set (H.au+1) (OR (aw .zero) xk))=B1 (.agg (aw .zero)) /\
  (AV.tuple [.agg (aw .zero),.bool B2,.int .i64 k]=pJ c line st x/\eh (g.set (H.au+1) (OR (aw .zero) xk)) b sv (c.fill line st x).1/\Fr (nG b sv) H (g.set (H.au+1) (OR (aw .zero) xk))):=by
  intro g k f hk h1 h2 h3;have gx:g.get (H.au+1)=B1 (OR (aw .zero) xk):=by rw[f.ah _ (by omega) id];exact Y
  have fs:Fr Em H (g.set (H.au+1) (OR (aw .zero) xk)):=(z.trans f λ _ q=>q.elim).set (.inr (by omega)) _;refine⟨fG gx (z4 _) (z4 .zero) (ux _),eH (xf ..) (z4 _),?_,by rw[h2];exact n.em fs,sr fs⟩;unfold pJ;rw[h1,h3];simp[hk]
 have r:∀{q:AV},W M ⟨B5,OG⟩ (qrk 16) B4 (eY 0 (fm (W M ⟨B5,OG⟩ (qrk 23)) (eG M [.cV 21 8,.tmp 9,.tmp 10] (uZ λ v H'=>v=pJ c line st x/\eh H' b sv (c.fill line st x).1/\Fr (nG b sv) H H'))))
  [(21,q),(10,.int .i64 0),(9,.bool B2),(8,.ptr (H.au+1) 0),(7,.ptr H.au 0),(0,.ptr b 0),(1,.int .i64 line),(2,.int .i64 st),(3,.agg (cu x))] [] m:=by
  intro q;simp only[aa,bc,T];refine C3.q (j0 (line:=line) (n.em z) l) λ v H3⟨R,J⟩=>?_;rw[R];unfold xR;cases hp:c.pos line with
  |some i =>
   have⟨s1,s2,S⟩:=err 21 J (by decide) (by unfold Ca.fill;rw[hp]) (by unfold Ca.fill;rw[hp]) (by unfold Ca.fill;rw[hp]);simp only[aa,bc,mh,eZ,EB,s1,s2];exact S
  |none =>
   simp only[aa,bc,vE,U];have G:=z.trans J λ _ q=>q.elim;refine C3.q (xnw (n.em G) l hl) λ v a⟨R,f4⟩=>?_;rw[R];have e:=J.trans f4 λ _ q=>q.elim;cases hr:c.room line with
   |none =>
    have⟨s1,s2,S⟩:=err 22 e (by decide) (by unfold Ca.fill;rw[hp,hr]) (by unfold Ca.fill;rw[hp,hr]) (by unfold Ca.fill;rw[hp,hr]);unfold qA;simp only[aa,bc,u,Pt,eZ,EB,s1,s2];exact S
   |some i =>
    obtain⟨k,k1,k2,-⟩:=T9 hr;have D:i<c.sl.length:=by rw[k2];exact l.mT line k1
    have o:=z.trans e λ _ q=>q.elim;have Z:=n.em o;have n4:=e.au;have⟨E,e5,A,n5,g5⟩:=cq a (OR (aw .zero) xk);have s6:=fG g5 (z4 _) (z4 (c.en i)) (ux _);obtain⟨h,w⟩:∃X,X=E.set a.au (OR (aw (c.en i)) xk):=⟨_,rfl⟩
    rw[<-w]at s6;have B:Fr (On a.au) E h:=by rw[w];exact(Fr.refl E).set (W:=On a.au) (.inl rfl) _
    have n6:h.au=a.au+1:=by rw[w];exact n5
    have g6:h.get a.au=B1 (OR (aw (c.en i)) xk):=by rw[w,xf]
    have h6:eh h b sv c:=(Z.em A).fr B (λ(q:b=a.au)=>by omega) (λ(q:aF sv=a.au)=>by omega);have K:h.get H.au=B1 (OR (cu x) ja):=by rw[B.ah _ (by omega) (λ(q:H.au=a.au)=>by omega),A.ah _ (by omega) id,e.ah _ (by omega) id];exact g1
    have L:h.get (H.au+1)=B1 (OR (aw .zero) xk):=by rw[B.ah _ (by omega) (λ(q:H.au+1=a.au)=>by omega),A.ah _ (by omega) id,e.ah _ (by omega) id];exact Y
    have⟨H7,s7,h7,f7⟩:=h6.Gb D ⟨line,st,B2,B2,x,.zero,0⟩;have P:i<(c.set i ⟨line,st,B2,B2,x,.zero,0⟩).sl.length:=by show i<(c.sl.set i _).length;rw[xw];exact D
    have l6:=eH K (yk x);unfold qA;simp only[aa,bc,u,yq,V,qt,Z.JJ D,eZ,<-e5,s6,l6,bdE,s7];refine C3.q (Yq h7 hu P) λ _ d⟨h8,f8⟩=>?_;have j:Fr (nG b sv) h d:=wG (vT f7) f8;have nW:∀y,H.au<=y -> ¬nG b sv y:=λ y hy q=>q.elim (λ q=>by omega) λ q=>by omega
    have N:d.get a.au=B1 (OR (aw (c.en i)) xk):=by rw[j.ah _ (by omega) (nW _ (by omega))];exact g6
    have O:d.get (H.au+1)=B1 (OR (aw .zero) xk):=by rw[j.ah _ (by omega) (nW _ (by omega))];exact L
    have l8:=eH N (z4 (c.en i));have s:Op.ae [.ptr a.au 1] d=B1 (.int .i64 (c.en i).st):=zd (xe N) 1;have s9:=fG O (z4 _) (z4 (c.en i)) (ux _);have g9:(d.set (H.au+1) (OR (aw (c.en i)) xk)).get a.au=B1 (OR (aw (c.en i)) xk):=by rw[kz (by omega)];exact N
    have t:Op.ae [.ptr a.au 1] (d.set (H.au+1) (OR (aw (c.en i)) xk))=B1 (.int .i64 (c.en i).st):=zd (xe g9) 1;have l9:=eH (xf d (H.au+1) (OR (aw (c.en i)) xk)) (z4 (c.en i));have F:c.fill line st x=({c with us:=c.us+1,sl:=c.sl.set i ⟨line,st,B2,B2,x,.zero,c.us+1⟩},c.en i,0):=by unfold Ca.fill;rw[hp,hr]
    have eu:(c.set i ⟨line,st,B2,B2,x,.zero,0⟩).use i = {c with us:=c.us+1,sl:=c.sl.set i ⟨line,st,B2,B2,x,.zero,c.us+1⟩}:=by
     unfold Ca.use;rw[MX D];unfold Ca.set;simp only[List.set_set]
    rw[eu]at h8;have fo:Fr (On (H.au+1)) d (d.set (H.au+1) (OR (aw (c.en i)) xk)):=(Fr.refl d).set (W:=On (H.au+1)) (.inl rfl) _;have I:Fr (nG b sv) H d:=wG ((wG (sr o) (sr A)).trans B λ y(q:y=a.au)=>.inr (by omega)) j;have end_:eh (d.set (H.au+1) (OR (aw (c.en i)) xk)) b sv (c.fill line st x).1/\Fr (nG b sv) H (d.set (H.au+1) (OR (aw (c.en i)) xk)):=by
     rw[F];exact⟨h8.fr fo (λ(q:b=H.au+1)=>by omega) (λ(q:aF sv=H.au+1)=>by omega),I.set (.inr (by omega)) _⟩
    by_cases C:(c.en i).st=0
    .simp only[aa,bc,l8,s,xb C,s9,t,l9];refine⟨?_,end_⟩;unfold pJ;rw[F];simp[C]
    .simp only[aa,bc,l8,s,C,s9,t,l9];refine⟨?_,end_⟩;unfold pJ;rw[F];simp[C]
 rcases Q with rfl|rfl
 .have t1:=xb (show(1:Int)=1 from rfl);simp only[aa,bc,w0,<-e1,n1,eZ,<-e2,w2,yq,nl];exact r
 .have t1:¬(2:Int)=1:=by decide
  have t2:=xb (show(2:Int)=2 from rfl);simp only[aa,bc,w0,<-e1,n1,eZ,<-e2,w2,yq,nl,t1];exact r
end
end Go.Am
namespace Go.Am
open Go.Proofs Ca
variable{M:ak}[MK M]
def Qh(p:Nat->Bool)(k:Nat):(N5 (k+1)).filter p=(N5 k).filter p++(if p k then[k]else[]):=by
 rw[List.range_succ,List.filter_append];congr 1;cases h:p k<;>simp[h]
def xhb(p:Nat->Bool){k:Nat}:∀m:Nat,∃X,(N5 (k+m)).filter p=(N5 k).filter p++X
 |0=>⟨[],by simp⟩
 |m+1=>by
  obtain⟨X,a⟩:=xhb p m;rw[<-wq,Qh,a];exact⟨X++(if p (k+m)then[k+m]else[]),by rw[jf]⟩
def Xb(p:Nat->Bool){n k:Nat}(hk:k<n)(hp:p k=B4):((N5 n).filter p)[((N5 k).filter p).length]? = B1 k:=by
 obtain⟨m,rfl⟩:∃m,n=k+1+m:=⟨n-(k+1),by omega⟩
 have⟨X,a⟩:=xhb p (k:=k+1) m;rw[a,Qh,hp];simp
def iR(c:Ca):List Nat:=(N5 c.sl.length).filter λ k=>(c.en k).st != 0
def kZ(c:Ca)(sv:AV):List (List AV):=(iR c).map λ k=>[eA sv k]
def _5(b:Nat)(sv:AV)(c:Ca)(Hx:ar):Prop:=∃c',eh Hx b sv c'/\c'.sl.length=c.sl.length /\ ∀k,(c'.en k).st=(c.en k).st
def mn{H0:ar}{p b:Nat}{sv:AV}{c:Ca}(hp:H0.get p=B1 (OR [.ptr b 0] Ew))(hpl:p<H0.au)(hl:c.sl.length<=40) :
 sJ M Mu [] [.ptr p 0] (λ x=>x=p) (λ _=>False) (λ _=>_5 b sv c) H0 (kZ c sv):=by
 intro Y R S g H1 hnx hN s I loc U hI step;have⟨p1,p2,p3⟩:=hN p (.inl rfl)
 suffices h:ze M Mu [.fn (.yield Y) [] [],.ptr p 0] H1 (Hq R S g (λ _=>False) H1 (kZ c sv).length)by
  have⟨v,H',hc,W',m,q2,q3⟩:=h.elim;exact⟨v,H',W',hc,m,q2,q3⟩
 refine qx4 ?_;obtain⟨w0,w1,w7,w9,l,A,C,B,O⟩:=qx5 M ⟨B5,Mu⟩;have lp:∀{d:ar},Fr g H1 d->Op.ae [.ptr p 0] d=B1 (.ptr b 0):=λ f=>by rw[zd (xe (by rw[f.ah _ (by omega) p3,p2];exact hp))];rfl
 have r0:=Fr.refl (W:=g) H1;have⟨c1,Q,G,h1s⟩:=hI 0 g H1 s;have l2:Op.ae [.ptr b 2] H1=B1 sv:=Q.TY 2;have ln:Op.cD [sv]=B1 (.int .i64 ((c.sl.length:Nat):Int)):=by rw[<-G];exact(Q.sl.sl z4).len
 simp only[aa,bc,w0,w1,lp r0,yq,w7,w9,qt,l2,ln];refine cz.intro (λ n E d=>∃(i:Nat)(V:Nat->Prop),E=[(11,.int .i64 (i:Int)),(10,.int .i64 ((c.sl.length:Nat):Int)),(0,.fn (.yield Y) [] []),(1,.ptr p 0)]/\n=c.sl.length-i/\i<=c.sl.length/\JE R g H1 d ((N5 i).filter λ k=>(c.en k).st != 0).length V) ?_ ?_
 .exact ⟨_,_,⟨0,g,rfl,rfl,xx _,⟨s,λ b hb=>⟨I b hb,.inl hb⟩,Fr.refl _⟩⟩,by simp only[aa,bc]⟩
 rintro n E d ⟨i,V,rfl,rfl,hi,a⟩;rcases za i c.sl.length with L|hge
 .have m:(i:Int)<((c.sl.length:Nat):Int):=by omega
  have⟨Z,F,hl',N⟩:=hI _ V d a.hR;have z:Op.ae [.ptr b 2] d=B1 sv:=F.TY 2;have y:i<Z.sl.length:=by omega
  have ix:=F.ix y;have ls:Op.ae [.ptr (aF sv) (cZ 21 sv i+1)] d=B1 (.int .i64 (c.en i).st):=by rw[<-N i];exact F.ld y (k:=1) (by decide)
  have X:aj .i64 ((i:Int)+1)=((i+1:Nat):Int):=by rw[jj (by omega) (by omega)];omega
  have T:=Qh (λ k=>(c.en k).st != 0) i
  by_cases r:(c.en i).st=0
  .have j:((N5 (i+1)).filter λ k=>(c.en k).st != 0).length=((N5 i).filter λ k=>(c.en k).st != 0).length:=by rw[T];simp[r]
   simp only[aa,bc,l,m,A,B,lp a.fr,qt,z,ix,ls,xb r,C,X];exact⟨_,_,⟨i+1,V,rfl,rfl,by omega,by rw[j];exact a⟩,by simp only[aa,bc],by omega⟩
  .have j:((N5 (i+1)).filter λ k=>(c.en k).st != 0).length=((N5 i).filter λ k=>(c.en k).st != 0).length+1:=by rw[T];simp[r]
   have hg:(kZ c sv)[((N5 i).filter λ k=>(c.en k).st != 0).length]? = B1 [eA sv i]:=by
    unfold kZ iR;rw[xm,Xb _ L (by simp[r])];rfl
   have⟨bb,P,D,hr,J,u,ht,hs⟩:=step _ _ hg V d a.hR a.hV (a.fr.mono λ _ _ q=>.inl q);have o:Fr g H1 P:=a.fr.trans J λ b q=>(a.hV b q).2;have t:∀b,D b->b<P.au/\(g b\/H1.au<=b):=λ b q=>⟨(u b q).1,(u b q).2.elim (λ w=>(a.hV b w).2) λ w=>.inr (x9 a.fr.au w)⟩
   simp only[aa,bc,l,m,A,B,lp a.fr,qt,z,ix,ls,r,O];refine C3.tu hr ?_;cases bb with
   |true =>
    simp only[aa,bc,C,X];exact⟨_,_,⟨i+1,D,rfl,rfl,by omega,⟨by rw[j];exact ht rfl,t,o⟩⟩,by simp only[aa,bc],by omega⟩
   |false =>
    simp only[aa,bc,uO];exact⟨D,o.mono λ _ _ q=>.inl q,t,.inr (hs rfl)⟩
 .have m:¬(i:Int)<((c.sl.length:Nat):Int):=by omega
  have K:i=c.sl.length:=by omega
  simp only[aa,bc,l,m,Cw];refine⟨V,a.fr.mono λ _ _ q=>.inl q,a.hV,.inl ?_⟩;have e:(kZ c sv).length=((N5 i).filter λ k=>(c.en k).st != 0).length:=by unfold kZ iR;rw[xr,K]
  rw[e];exact a.hR
def xc5{H:ar}(b:Nat):ze M qqm [.ptr b 0] H λ v H'=>v=.fn (.func Mu) [] [.ptr H.au 0]/\H'=H.alloc (OR [.ptr b 0] Ew):=by
 refine q5j ?_;have ca:AV.cells (.ptr b 0)=[.ptr b 0]:=rfl;have mk:Op.bt Mu 0 [.ptr H.au 0]=B1 (.fn (.func Mu) [] [.ptr H.au 0]):=rfl;simp only[aa,bc,q5k,ca];rfl
structure FJ(c:Ca)(g:En->En)(i:Nat)(c':Ca):Prop where
 fT:c'.fT=c.fT
 ways:c'.ways=c.ways
 us:c'.us=c.us
 len:c'.sl.length=c.sl.length
 en:∀k,k<c.sl.length->c'.en k=if k∈(iR c).take i then g (c.en k)else c.en k
def FJ.zero(c:Ca)(g:En->En):FJ c g 0 c:=⟨rfl,rfl,rfl,rfl,λ k hk=>by simp⟩
def xfo(c:Ca):(iR c).Nodup:=List.Nodup.sublist (List.filter_sublist) List.nodup_range
def Po{c:Ca}{k:Nat}:k∈iR c↔k<c.sl.length/\(c.en k).st≠0:=by
 unfold iR;rw[List.mem_filter,List.mem_range];simp
def xj0{l:List Nat}(h:l.Nodup){i k:Nat}(hk:l[i]? = B1 k):k∉l.take i:=by
 intro hm;have⟨j,a⟩:=L7 hm;rw[JQ]at a;split at a
 .rename_i d;have e:=qo.1 a;have f:=qo.1 hk;exact List.pairwise_iff_getElem.1 h j i e.1 f.1 d (by rw[e.2,f.2])
 .cases a
def FJ.step{c a:Ca}{g:En->En}{i k:Nat}(h:FJ c g i a)(hk:(iR c)[i]? = B1 k):a.en k=c.en k/\FJ c g (i+1) (a.set k (g (c.en k))):=by
 have hm:=Po.1 (zh hk);have hn:=xj0 (xfo c) hk;have he:a.en k=c.en k:=by rw[h.en k hm.1,qy hn]
 refine⟨he,h.fT,h.ways,h.us,by show(a.sl.set k _).length=_;rw[xw];exact h.len,λ j d=>?_⟩;rw[D3 (by rw[h.len];exact hm.1),kw,hk]
 by_cases q:k=j
 .subst q;rw[xg rfl,xg (by simp)]
 .rw [qy q,h.en j d];have:(j∈(iR c).take i++(B1 k).toList)↔j∈(iR c).take i:=by simp[nE q]
  by_cases w:j∈(iR c).take i
  .rw [xg w,xg (this.2 w)]
  .rw [qy w,qy λ z=>w (this.1 z)]
def FJ.done{c d:Ca}{g:En->En}(h:FJ c g (iR c).length d)(hg:∀e:En,e.st=0->g e=e):d = {c with sl:=c.sl.map g}:=by
 have a:d.sl=c.sl.map g:=by
  refine yo λ k=>?_;rcases za k c.sl.length with q|q
  .rw [FP (by rw[h.len];exact q),xm,FP q,h.en k q,zi (qm _)]
   by_cases w:(c.en k).st=0
   .rw [qy (λ z=>(Po.1 z).2 w)];show B1 (c.en k)=B1 (g (c.en k));rw[hg _ w]
   .rw [xg (Po.2 ⟨q,w⟩)];rfl
  .rw [jt (by rw[h.len];exact q),jt (by rw[xr];exact q)]
 have⟨s,w,l,u⟩:=d;have f:=h.fT;have i:=h.ways;have j:=h.us;simp only at f i j a;subst f;subst i;subst j;subst a;rfl
structure LL(c:Ca)(g:En->En)(b:Nat)(sv:AV)(i:Nat)(V:Nat->Prop)(Hx:ar):Prop where
 vb:V b
 vs:V (aF sv)
 ex:∃c',eh Hx b sv c'/\FJ c g i c'
def eh.loc{a Hb:ar}{b:Nat}{sv:AV}{c:Ca}(h:eh a b sv c)(g:Hb.get b=a.get b)(d:Hb.get (aF sv)=a.get (aF sv))(hn:a.au<=Hb.au):eh Hb b sv c :=
 ⟨by rw[g];exact h.row,qn h.lt hn,by
  have⟨sb,e1,e2,e⟩:=h.sl;have f:aF sv=sb:=by rw[e1];rfl
  rw[f]at d;exact⟨sb,e1,qn e2 hn,by rw[d];exact e⟩,h.ne,h.s8,h.w4,h.us⟩
def LL.loc{c:Ca}{g:En->En}{b:Nat}{sv:AV}{i:Nat}{V:Nat->Prop}{a Hb:ar}(h:LL c g b sv i V a)(hs:∀x,V x->Hb.get x=a.get x)(hn:a.au<=Hb.au):LL c g b sv i V Hb:=by
 have⟨d,e,f⟩:=h.ex;exact⟨h.vb,h.vs,d,e.loc (hs _ h.vb) (hs _ h.vs) hn,f⟩
def LL.hI{c:Ca}{g:En->En}(hg:∀e:En,(g e).st=e.st){b:Nat}{sv:AV}{i:Nat}{V:Nat->Prop}{d:ar}(h:LL c g b sv i V d):_5 b sv c d:=by
 have⟨f,j,a⟩:=h.ex;refine⟨f,j,a.len,λ k=>?_⟩;rcases za k c.sl.length with q|q
 .rw [a.en k q];split
  .exact hg _
  .rfl
 .rw [Vb q,Vb (by rw[a.len];exact q)]
section
variable{H:ar}{b:Nat}{sv:AV}{c:Ca}{lines line:Int}
def _Y(G:eh H b sv c)(hl:c.sl.length<=40):ze M NZ [.ptr b 0] H λ _ H'=>eh H' b sv c.bF/\Fr (nG b sv) H H':=by
 refine qx1 ?_;have⟨w0,wa,wb,w2,U,X⟩:=_k M ⟨B5,NZ⟩;simp only[aa,bc,w0,w2,yq,U];refine C3.q (xc5 b) λ v H5⟨hv,hh⟩=>?_;have⟨H1,e1,Z,n1,g1⟩:=cq H (OR [.ptr b 0] Ew);rw[<-e1]at hh;rw[hv,hh];have I:=G.em Z;have hlt:=G.lt;have hsb:aF sv<H.au:=G.sl.lt;refine iH.sQ (fn:=UG) (lp:=P7) (pa:=UU 0) (pb:=Yv 0) qwa qly.1 qly.2 (by decide) quf qug
  (mn (b:=b) (sv:=sv) (c:=c) g1 (by omega) hl) (λ i V Y=>LL c qY b sv i V Y) (λ _ _ _=>False) (nG b sv) (qm _) ?_ ?_ ?_ ?_ ?_ ?_ ?_ ?_ ?_
 .rintro x (q|q)
  .exact ⟨by omega,rfl,λ w=>w.elim (λ w=>by omega) λ w=>by omega⟩
  .exact q.elim
 .exact λ x B=>B.elim (λ q=>by omega) λ q=>by omega
 .exact ⟨.inl rfl,.inr rfl,c,I,FJ.zero c qY⟩
 .exact λ i V Ha Hb h hs hn=>h.loc hs hn
 .exact λ e V Ha Hb h _ _=>h
 .exact λ i V Y h=>h.hI Xu
 .intro f i lr lb x B hL2 V p s hV hf6 A hL6 O;unfold kZ at B;rw[xm,xt]at B;obtain⟨k,hk,rfl⟩:=B;refine⟨_,rfl,?_⟩;obtain⟨-,wa,wb,-⟩:=_k M ⟨B1 f,NZ⟩;simp only[aa,bc,wa,A6];refine⟨O,?_⟩;have fx:Fr (On f) p (p.set f lb):=(Fr.refl p).set (W:=On f) (.inl rfl) _;have gL:(p.set f lb).get f=B1 lb:=xf ..;have nL:(p.set f lb).au=p.au:=rfl;have F:=s.loc (Hb:=p.set f lb) (λ y C=>by rw[kz (λ q:f=y=>A (by rw[q];exact C))]) (qm _);generalize p.set f lb=H7 at *;have⟨a,h7,ht⟩:=F.ex;have⟨L,S⟩:=ht.step hk;have hm:=Po.1 (zh hk);have l:k<a.sl.length:=by rw[ht.len];exact hm.1
  have⟨H8,s8,h8,f8⟩:=h7.dh l (j:=2) (by decide) (u:=.bool B2) rfl (e:={a.en k with r:=B2}) rfl;have Q:k<(a.set k {a.en k with r:=B2}).sl.length:=by show k<(a.sl.set k _).length;rw[xw];exact l
  have⟨H9,s9,h9,f9⟩:=h8.dh Q (j:=3) (by decide) (u:=.bool B2) rfl (e:={(a.set k {a.en k with r:=B2}).en k with w:=B2}) rfl;rw[MX l,Sq]at h9;have R:k<(a.set k {a.en k with r:=B2,w:=B2}).sl.length:=by show k<(a.sl.set k _).length;rw[xw];exact l
  have⟨t,T,m,D⟩:=h9.Ut R (j:=12) (n:=8) (u:=.agg (cu .zero)) (by rw[zt];exact yk _) (by rw[zt];exact uk _) (by decide) (e:={(a.set k {a.en k with r:=B2,w:=B2}).en k with o:=.zero}) (Ka _ _);rw[MX l,Sq]at m;have ec:({a.en k with r:=B2,w:=B2,o:=.zero}:En)=qY (c.en k):=by rw[L];unfold qY;rw[qy hm.2]
  have m:eh t b sv (a.set k (qY (c.en k))):=by rw[<-ec];exact m
  have g:Fr (On (aF sv)) H7 t:=(f8.trans f9 λ _ q=>.inl q).trans D λ _ q=>.inl q;have E:f≠aF sv:=λ q=>A (by rw[q];exact s.vs);have n710:=g.au;simp only[aa,bc,wb,lZ,EB,qt,s8,s9,T];refine⟨rfl,by rw[g.ah f (by omega) (λ(q:f=aF sv)=>E q)];exact gL,V,λ y C=>⟨by have:=(hV y C).1;omega,.inl C⟩,(fx.mono λ y _ q=>.inr q).trans g λ y(q:y=aF sv)=>.inl (.inl (by rw[q];exact s.vs)),.inl ⟨rfl,s.vb,s.vs,_,m,S⟩⟩
 .intro d V z hd1 hd2 P N hVd s;have⟨a,h1,h2⟩:=s.ex;have el:(kZ c sv).length=(iR c).length:=by unfold kZ;rw[xr]
  rw[el]at h2;have e:a=c.bF:=h2.done λ e h=>by unfold qY;rw[xg h]
  rw[e]at h1;have J:d≠b:=by omega
  have K:d≠aF sv:=by omega
  have fo:Fr (On d) z (z.set d (.deferred B5)):=(Fr.refl z).set (W:=On d) (.inl rfl) _;have fW:Fr (nG b sv) H z:=(sr Z).trans N λ y q=>q.elim (λ w=>.inl w) Nn;simp only[aa,bc,X,Jh];exact⟨P,h1.fr fo (λ(q:b=d)=>J q.symm) (λ(q:aF sv=d)=>K q.symm),fW.set (.inr (by omega)) _⟩
 .exact λ e d V z _ _ _ _ _ _ h=>h.elim
end
end Go.Am
namespace Go.Am
open Go.Proofs Ca
variable{M:ak}[MK M]
def mG(e:En):En:=if e.st≠0/\e.w=B4 then{e with d:=e.o}else e
def FX(e:En):(mG e).st=e.st:=by unfold mG;split<;>rfl
def Dq(e:En):qY (mG e)=back e:=by
 unfold qY back;rw[FX]
 by_cases h:e.st=0
 .rw [xg h,xg h];unfold mG;rw[qy λ q=>q.1 h]
 .rw [qy h,qy h];unfold mG
  by_cases hw:e.w=B4
  .rw [xg ⟨h,hw⟩,xg hw]
  .rw [qy (λ q=>hw q.2),qy hw]
def xi3(c:Ca):Ca.bF {c with sl:=c.sl.map mG} = c.discard:=by
 unfold Ca.bF Ca.discard;simp only[AJ];congr 1;exact List.map_congr_left λ e _=>Dq e
section
variable{H:ar}{b:Nat}{sv:AV}{c:Ca}{lines line:Int}
def xcq(N:eh H b sv c)(hl:c.sl.length<=40):ze M Nl [.ptr b 0] H λ _ H'=>eh H' b sv c.discard/\Fr (nG b sv) H H':=by
 refine qwb ?_;have⟨w0,wa,wb,w2,U,X⟩:=qmq M ⟨B5,Nl⟩;simp only[aa,bc,w0,w2,yq,U];refine C3.q (xc5 b) λ v H5⟨hv,hh⟩=>?_;have⟨H1,e1,f1,n1,g1⟩:=cq H (OR [.ptr b 0] Ew);rw[<-e1]at hh;rw[hv,hh];have O:=N.em f1;have hlt:=N.lt;have hsb:aF sv<H.au:=N.sl.lt;refine iH.sQ (fn:=TP) (lp:=RY) (pa:=Wb 0) (pb:=X6 0) quh qkg.1 qkg.2 (by decide) qsu qsv
  (mn (b:=b) (sv:=sv) (c:=c) g1 (by omega) hl) (λ i V Z=>LL c mG b sv i V Z) (λ _ _ _=>False) (nG b sv) (qm _) ?_ ?_ ?_ ?_ ?_ ?_ ?_ ?_ ?_
 .rintro x (q|q)
  .exact ⟨by omega,rfl,λ w=>w.elim (λ w=>by omega) λ w=>by omega⟩
  .exact q.elim
 .exact λ x C=>C.elim (λ q=>by omega) λ q=>by omega
 .exact ⟨.inl rfl,.inr rfl,c,O,FJ.zero c mG⟩
 .exact λ i V Ha Hb h hs hn=>h.loc hs hn
 .exact λ e V Ha Hb h _ _=>h
 .exact λ i V Z h=>h.hI FX
 .intro f i lr lb x C hL2 V p g hV hf6 B hL6 R;unfold kZ at C;rw[xm,xt]at C;obtain⟨k,hk,rfl⟩:=C;refine⟨_,rfl,?_⟩;obtain⟨-,wa,wb,-⟩:=qmq M ⟨B1 f,Nl⟩;simp only[aa,bc,wa,A6];refine⟨R,?_⟩;have fx:Fr (On f) p (p.set f lb):=(Fr.refl p).set (W:=On f) (.inl rfl) _;have gL:(p.set f lb).get f=B1 lb:=xf ..;have nL:(p.set f lb).au=p.au:=rfl;have L:=g.loc (Hb:=p.set f lb) (λ y t=>by rw[kz (λ q:f=y=>B (by rw[q];exact t))]) (qm _);generalize p.set f lb=H7 at *;have⟨a,E,ht⟩:=L.ex;have⟨l,r⟩:=ht.step hk;have hm:=Po.1 (zh hk);have m:k<a.sl.length:=by rw[ht.len];exact hm.1
  have K:f≠aF sv:=λ q=>B (by rw[q];exact g.vs);have lw:Op.ae [.ptr (aF sv) (cZ 21 sv k+3)] H7=B1 (.bool (a.en k).w):=E.ld m (k:=3) (by decide);cases hw:(a.en k).w with
  |true =>
   rw[hw]at lw;have⟨H8,s8,J,G⟩:=E.Ut m (j:=4) (n:=8) (u:=.agg (cu (a.en k).o)) (by rw[zt];exact yk _) (by rw[zt];exact uk _) (by decide) (e:={a.en k with d:=(a.en k).o}) (Kd _ _);have F:({a.en k with d:=(a.en k).o}:En)=mG (c.en k):=by
    have s:(c.en k).w=true:=by rw[<-l];exact hw
    rw[l];unfold mG;rw[xg ⟨hm.2,s⟩]
   have J:eh H8 b sv (a.set k (mG (c.en k))):=by rw[<-F];exact J
   have n78:=G.au;simp only[aa,bc,wb,qt,lw,E.ldO m,s8];exact⟨rfl,by rw[G.ah f (by omega) (λ(q:f=aF sv)=>K q)];exact gL,V,λ y t=>⟨by have:=(hV y t).1;omega,.inl t⟩,(fx.mono λ y _ q=>.inr q).trans G λ y(q:y=aF sv)=>.inl (.inl (by rw[q];exact g.vs)),.inl ⟨rfl,g.vb,g.vs,_,J,r⟩⟩
  |false =>
   rw[hw]at lw;have F:a.set k (mG (c.en k))=a:=by
    have hu:mG (c.en k)=a.en k:=by
     have s:(c.en k).w=false:=by rw[<-l];exact hw
     unfold mG;rw[qy (λ q=>by rw[s]at q;exact Py q.2),l]
    rw[hu];unfold Ca.set Ca.en;rw[xc m];simp
   rw[F]at r;simp only[aa,bc,wb,qt,lw];exact⟨rfl,gL,V,λ y t=>⟨by have:=(hV y t).1;omega,.inl t⟩,fx.mono λ y _ q=>.inr q,.inl ⟨rfl,g.vb,g.vs,_,E,r⟩⟩
 .intro d V Y hd1 P S Q hVd g;have⟨a,h1,I⟩:=g.ex;have el:(kZ c sv).length=(iR c).length:=by unfold kZ;rw[xr]
  rw[el]at I;have e:a = {c with sl:=c.sl.map mG}:=I.done λ e h=>by unfold mG;rw[qy λ q=>q.1 h]
  have z:d≠b:=by omega
  have A:d≠aF sv:=by omega
  have fW:Fr (nG b sv) H Y:=(sr f1).trans Q λ y q=>q.elim (λ w=>.inl w) Nn;simp only[aa,bc,X];refine C3.q (_Y h1 (by rw[I.len];exact hl)) λ _ D⟨h3,f3⟩=>?_;rw[e,xi3]at h3;have T:D.get d=B1 (.deferred (B1 [])):=by rw[f3.ah d P (λ q=>q.elim z A)];exact S
  have fo:Fr (On d) D (D.set d (.deferred B5)):=(Fr.refl D).set (W:=On d) (.inl rfl) _;simp only[aa,bc,Jh];exact⟨T,h3.fr fo (λ(q:b=d)=>z q.symm) (λ(q:aF sv=d)=>A q.symm),(wG fW f3).set (.inr (by omega)) _⟩
 .exact λ e d V Y _ _ _ _ _ _ h=>h.elim
end
end Go.Am
namespace Go.Am
open Go.Proofs Ca
variable{M:ak}[MK M]
def pR(s w:Nat):Ca:=⟨s,w,Jr (s*w) .zero,0⟩
def VN(s w k:Nat):(pR s w).en k=.zero:=by
 unfold Ca.en pR;simp only[Ui];split<;>rfl
def af3(lines:Int){s w:Nat}(hs:0<s)(hw:0<w):CI lines (pR s w) :=
 ⟨zy ..,hs,hw,λ i _ h=>by rw[VN]at h;exact absurd rfl h,λ i j _ _ h=>by rw[VN]at h;exact absurd rfl h⟩
def xf7(s w:Nat):(pR s w).plain:=λ i _ h=>by rw[VN]at h;exact absurd rfl h
def ι:∀n:Nat,(Jr n En.zero).flatMap aw=fM n (aw .zero)
 |0=>rfl
 |n+1=>by rw[Rc,j6,ι n];rfl
def tf(s w:Int):Prop:=1<=s/\s<=8/\1<=w/\w<=4
instance(s w:Int):Decidable (tf s w):=inferInstanceAs (Decidable (_/\_))
def VY(H:ar)(s w:Int)(v:AV)(H':ar):Prop:=Fr Em H H'/\(¬tf s w/\v=.tuple [.nilp,.int .i64 2]\/tf s w /\ ∃b sv,v=.tuple [.ptr b 0,.int .i64 0]/\eh H' b sv (pR s.toNat w.toNat)/\H.au<=b/\H.au<=aF sv)
def xjn{H:ar}(s w:Int):ze M Zg [.int .i64 s,.int .i64 w] H (VY H s w):=by
 refine ad7 ?_;obtain⟨w0,w2,j⟩:=Ex M ⟨B5,Zg⟩
 by_cases f:s<1
 .simp only[aa,bc,w0,w2,f];exact⟨Fr.refl _,.inl ⟨λ q=>by have:=q.1;omega,rfl⟩⟩
 by_cases g:8<s
 .simp only[aa,bc,w0,w2,f,g];exact⟨Fr.refl _,.inl ⟨λ q=>by have:=q.2.1;omega,rfl⟩⟩
 by_cases h:w<1
 .simp only[aa,bc,w0,w2,f,g,h];exact⟨Fr.refl _,.inl ⟨λ q=>by have:=q.2.2.1;omega,rfl⟩⟩
 by_cases l:4<w
 .simp only[aa,bc,w0,w2,f,g,h,l];exact⟨Fr.refl _,.inl ⟨λ q=>by have:=q.2.2.2;omega,rfl⟩⟩
 obtain⟨a,rfl⟩:=jk (show 0<=s by omega);obtain⟨d,rfl⟩:=jk (show 0<=w by omega);have p:a*d<=8*4:=Nat.mul_le_mul (by omega) (by omega);have t:aj .i64 ((a:Int)*(d:Int))=((a*d:Nat):Int):=by rw[<-Int.natCast_mul];exact jj (by omega) (by omega)
 have mk:=Xh xk 160 (aw .zero) (a*d) .i64 .i64 (by omega) (by omega);rw[<-ι]at mk;obtain⟨H1,e1,n,n1,-⟩:=cq H (OR ((Jr (a*d) En.zero).flatMap aw) xk);obtain⟨sv,e⟩:∃sv:AV,sv=.slice H.au 0 (a*d) (a*d):=⟨_,rfl⟩
 have i:Op.sliceTo (a*d) (a*d) H.au=sv:=by rw[e];rfl
 have r:aF sv=H.au:=by rw[e];rfl
 have m:Op.build [.int .i64 0,.int .i64 0,.nils,.int .i64 0] [(0,1),(1,1),(2,1)] [.int .i64 (a:Int),.int .i64 (d:Int),sv]=B1 (.agg (FO (pR a d) sv)):=by rw[e];rfl
 obtain⟨u,e2,k,-,o⟩:=cq H1 (OR (FO (pR a d) sv) j1);simp only[aa,bc,w0,w2,f,g,h,l,j,t,eZ,mk,i,<-e1,m,<-e2];refine⟨n.trans k λ _ q=>q.elim,.inr ⟨⟨by omega,by omega,by omega,by omega⟩,_,sv,rfl,⟨o,by rw[e2,xz];omega,⟨H.au,?_,?_,?_⟩,by omega,by show a<=8;omega,by show d<=4;omega,⟨wB _,by show(0:Int)<=1000000;decide⟩⟩,by omega,by omega⟩⟩
 .show sv=.slice H.au 0 (Jr (a*d) En.zero).length (Jr (a*d) En.zero).length;rw[zy];exact e
 .rw [e2,xz];omega
 .rw [k.ah _ (by omega) id,e1,xq];rfl
end Go.Am
