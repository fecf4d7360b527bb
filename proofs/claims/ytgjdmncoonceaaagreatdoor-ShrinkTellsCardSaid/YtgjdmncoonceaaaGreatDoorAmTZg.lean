import Derived.Test.YtgjdmncoonceaaaGreatDoorAmTZd
import Derived.Test.YtgjdmncoonceaaaGreatDoorAmTZf
import Derived.Test.YtgjdmncoonceaaaGreatDoorAmTZe
set_option linter.defProp false
set_option linter.unusedVariables false
set_option linter.unusedSimpArgs false
set_option linter.unusedSectionVars false
set_option maxRecDepth 100000
open BitVec renaming ofInt→BD
open Bool renaming false→B2,true→B4
open False renaming elim→ND
open Go renaming IntKind→OM
open List renaming range→MX,replicate→Ji
open Nat renaming beq→JW,ble→Nu,blt→OO
open Option renaming none→B5,some→B1
open Nat renaming reduceEqDiff→bc
namespace Go.Am
def iz(x:Nat):List AV:=[.int .i64 (x:Int)]
def ET(x:Nat):(iz x).length=1:=rfl
theorem PN(l:List Nat):l.flatMap iz=l.map λ(x:Nat)=>AV.int .i64 (x:Int):=by
 induction l with
 |nil=>rfl
 |cons a l ih=>rw[j6,ih];rfl
theorem xD(l:List Nat):(l.flatMap iz).length=l.length:=by grind [PN]
structure mJ(e:Nat)(H0 H:ar)(v:AV)(xs:List Nat):Prop where
 own:(v=.nils/\xs=[]) \/ ∃b m rest,v=.gslice b 0 m 1 0 xs.length/\b<H.au/\H0.au<=b/\m=xs.length+rest.length/\H.get b=B1 (.grown m 1 (xs.flatMap iz++rest) e (0,0))
 fr:Fr Em H0 H
section
variable{e:Nat}{H0 H:ar}{v:AV}{xs:List Nat}
theorem mJ.nil(e:Nat)(H:ar):mJ e H H .nils []:=⟨.inl ⟨rfl,rfl⟩,Fr.refl H⟩
def mJ.fresh(h:mJ e H0 H v xs):∀b,aM v b->H0.au<=b/\b<H.au:=by
 rintro b ⟨d,rfl⟩;rcases h.own with⟨rfl,_⟩|⟨b,m,rest,rfl,a,c,_⟩
 .grind
 .exact ⟨c,a⟩
def mJ.sl(h:mJ e H0 H v xs):bI iz 1 H v xs:=by
 rcases h.own with⟨rfl,rfl⟩|⟨b,m,rest,rfl,a,d,f,c⟩
 .exact ⟨rfl,rfl⟩
 .refine ⟨by rw[xD,Nat.mul_one],rfl,rfl,by omega,.inr ⟨a,_,Ra c,?_⟩⟩;rw[tR,xg (by grind [xD]),AN,yw,Nat.mul_one,Ow (by rw[xD];omega),za (by rw[xD];omega)]
def mJ.vX{H':ar}{W:Nat->Prop}(h:mJ e H0 H v xs)(f:Fr W H H')(c:Fr Em H0 H')(hw:∀b,aM v b -> ¬W b):mJ e H0 H' v xs:=by
 refine⟨?_,c⟩;rcases h.own with q|⟨b,m,rest,rfl,a,d,g,i⟩
 .grind
 .exact .inr ⟨b,m,rest,rfl,qn a f.au,d,g,by rw[f.ah b a (hw b ⟨by simp,rfl⟩)];exact i⟩
def mJ.em{H':ar}(h:mJ e H0 H v xs)(f:Fr Em H H'):mJ e H0 H' v xs:=h.vX f (h.fr.em f) λ _ _ q=>q
def mJ.cut(h:mJ e H0 H v xs){k:Nat}(hk:k<=xs.length){z:Int}(i:z=k)(kk:OM) :
 ∃g,Op.aA 1 [B5,B1 0,B5] [v,.int kk z]=B1 g/\mJ e H0 H g (xs.take k) /\ ∀b,aM g b->aM v b:=by
 rcases h.own with⟨rfl,rfl⟩|⟨b,m,rest,rfl,j,l,o,p⟩
 .have:k=0:=by simpa using hk
  subst this;refine⟨.nils,?_,(by grind),λ b hb=>hb⟩;have c:bound B5 0 0=B1 0:=rfl;simp[Op.aA,arg,jN,dk,c,tE i (qm 0)]
 .have e1:∀n,JW n n=true:=λ n=>by simp
  have a:∀d m,bound B5 d m=B1 d:=λ _ _=>rfl;have f:=kr (show k<=m-0 by omega);refine⟨.gslice b (0+0) m 1 (cond (JW 0 0) 0 (0*1)) (k-0),by simp only[Op.aA,arg,jN,zj,qr,dk,a,tE i (show k<=m-0 by omega),e1,f,kr (xw m),zx,xt],⟨.inr ⟨b,m,(xs.drop k).flatMap iz++rest,?_,j,l,?_,?_⟩,h.fr⟩,λ b hb=>⟨by simp,hb.2⟩⟩
  .grind
  .grind [xD]
  grind [yr]
def mJ.push(h:mJ e H0 H v xs){x:Nat}{zero:List AV}{bytes:Nat}(F:zero.length=1)(D:(xs.length+1)*bytes<=140737488355328)(u:xs.length+1<=140737488355328){K:bE->(Nat->AV)->Bool->AV->ar->Prop}{m:Bool}
 (hk:∀z H',mJ e H0 H' z (xs ++ [x])->Fr (aM v) H H'->(∀b,aM z b->aM v b\/H.au<=b)->K (.row [.int .i64 (x:Int)] e (0,0) B4) (Op.sliceTo 1 1) m z H') :
 jF m (Op.buildSlice e 1 zero [(0,1)] [.int .i64 (x:Int)]) λ g o mk=>jF g (Op.append e 1 bytes [v,mk H.au] (H.alloc o)) (K o mk):=by
 have hb:Op.buildSlice e 1 zero [(0,1)] [.int .i64 (x:Int)]=B1 (.row [.int .i64 (x:Int)] e (0,0) B4,Op.sliceTo 1 1):=Vl e 1 zero (.int .i64 (x:Int)) F rfl;rw[hb];have f:Fr Em H (H.alloc (.row [.int .i64 (x:Int)] e (0,0) B4)):=(Fr.refl H).alloc _;have k:Sl (H.alloc (.row [.int .i64 (x:Int)] e (0,0) B4)) 1 (Op.sliceTo 1 1 H.au) 1 [.int .i64 (x:Int)]:=B6 rfl;have e1:∀n,JW n n=true:=λ n=>by simp
 have ha:aL [AV.int .i64 (x:Int)]=true:=rfl;have j:OO 0 1=true:=rfl;have l:JW 1 0=false:=rfl;have d:=SD D u;refine jF.intro rfl ?_;rcases h.own with⟨rfl,rfl⟩|⟨b,i,rest,rfl,G,y,A,I⟩
 .have d:fits 1 bytes=true:=by simpa using d
  refine jF.intro (a:=.gslice (H.au+1) 0 1 1 0 1) (b:=(H.alloc (.row [.int .i64 (x:Int)] e (0,0) B4)).alloc (.grown 1 1 [.int .i64 (x:Int)] e (0,0))) ?_ (hk _ _ ⟨.inr ⟨H.au+1,1,[],rfl,?_,?_,rfl,?_⟩,?_⟩ ((f.alloc _).mono λ _ _ q=>q.elim) λ b hb=>.inr ?_)
  .simp only[Op.append,k.eN,k.first,qr,ha,xt,cS,l,zn,d,j,zx,dE,xy]
  .grind [xy]
  .have:=h.fr.au;omega
  .exact xp ..
  .exact (h.fr.em f).alloc _
  .rw [hb.2];show H.au<=H.au+1;omega
 .have p:(H.alloc (.row [.int .i64 (x:Int)] e (0,0) B4)).get b=B1 (.grown i 1 (xs.flatMap iz++rest) e (0,0)):=by grind [wq]
  cases rest with
  |nil =>
   have hm:i=xs.length:=by simpa using A
   subst hm;have s:Nu (0+xs.length+1) xs.length=false:=by grind [ub]
   have t:=kr (show 0+xs.length<=xs.length by omega);have B:=kr (xw (xs.length*1));refine jF.intro (a:=.gslice (H.au+1) 0 (xs.length+1) 1 0 (xs.length+1)) (b:=((H.alloc (.row [.int .i64 (x:Int)] e (0,0) B4)).kill b).alloc (.grown (xs.length+1) 1 (xs.flatMap iz ++ [.int .i64 (x:Int)]) e (0,0))) ?_ (hk _ _ ⟨.inr ⟨H.au+1,xs.length+1,[],?_,?_,?_,?_,?_⟩,?_⟩ ?_ λ b hb=>.inr ?_)
   .simp only[Op.append,k.eN,k.first,qr,ha,xt,cS,zn,e1,t,j,zx,s,d,p,B,dE,Ix,xy,pq,zp,JW]
   .grind
   .grind [xy,Ix]
   .omega
   .grind
   .grind [xp,iz,Ix,xy]
   .exact ((h.fr.em f).kill (.inr y)).alloc _
   .exact (Fr.kill (W:=aM (AV.gslice b 0 xs.length 1 0 xs.length)) (f.mono λ _ _ q=>q.elim) (.inl ⟨by simp,rfl⟩)).alloc _
   .rw [hb.2];show H.au<=H.au+1;omega
  |cons r rest =>
   have s:=kr (show 0+xs.length+1<=i by simp at A;omega);have t:=kr (show 0+xs.length<=i by omega);have w:(H.alloc (.row [.int .i64 (x:Int)] e (0,0) B4)).store b ((0+xs.length)*1) [.int .i64 (x:Int)]=B1 ((H.alloc (.row [.int .i64 (x:Int)] e (0,0) B4)).set b (.grown i 1 ((xs ++ [x]).flatMap iz++rest) e (0,0))):=by
    have E:dG (0,0) ((0+xs.length)*1) (cV [AV.int .i64 (x:Int)])=true:=by simp[dG]
    simp only[ar.store,ha,xt,p,E,AQ];rw[xg (by grind [xD]),qr];congr 4;rw[yg,Nat.mul_one,Ow (by rw[xD];omega),za (by rw[xD];omega),ki]
    .rfl
    .rw [yg,Nat.mul_one,show[AV.int .i64 (x:Int)].length=1 from rfl,Ij,jh (by rw[xD];omega),xD];simp
   refine jF.intro (a:=.gslice b 0 i 1 0 (xs.length+1)) (b:=(H.alloc (.row [.int .i64 (x:Int)] e (0,0) B4)).set b (.grown i 1 ((xs ++ [x]).flatMap iz++rest) e (0,0))) ?_ (hk _ _ ⟨.inr ⟨b,i,rest,?_,?_,y,?_,?_⟩,?_⟩ ?_ λ c C=>.inl ⟨by simp,C.2⟩)
   .simp only[Op.append,k.eN,k.first,qr,ha,xt,cS,l,zn,e1,t,j,zx,s,w]
   .grind
   .grind [t9,xy]
   .grind
   .exact xc ..
   .exact (h.fr.em f).set (.inr y) _
   .exact Fr.set (W:=aM (AV.gslice b 0 i 1 0 xs.length)) (f.mono λ _ _ q=>q.elim) (.inl ⟨by simp,rfl⟩) _
end
end Go.Am
namespace Go.Am
def QJ{len size b o:Nat}{k:OM}{j:Int}{i:Nat}(c:j=i)(a:i<len):Op.aV len size [.ptr b o,.int k j]=B1 (.ptr b (o+i*size)):=by
 simp only[Op.aV,J7 c a,qr]
def OJ{k:OM}{a:Nat}{b:Int}(hb:0<b):Op.bin .rem [.int k (a:Int),.int k b]=B1 (.int k ((a % b.toNat:Nat):Int)):=by
 grind [uI]
namespace Lang
def ints(l:List Nat):List Int:=l.map λ(n:Nat)=>(n:Int)
end Lang
end Go.Am
namespace Go.Am
def Pj(k k':OM)(a:Int)(n:Nat):Op.bin .shr [.int k a,.int k' n]=B1 (.int k (a.fdiv (2 ^ (min n k.bits)))):=by
 have e:A7 (n:Int) 0=false:=by rw[Kk];simp
 simp_all[Op.bin,nV,eB,tg]
def J6(k k':OM)(a:Int)(n:Nat):Op.bin .shl [.int k a,.int k' n]=B1 (.int k (aj k (a*2 ^ (min n k.bits)))):=by
 have e:A7 (n:Int) 0=false:=by rw[Kk];simp
 simp_all[Op.bin,nV,eB,tg]
end Go.Am
namespace Go.Am
namespace Lang
structure iV where
 op:Int
 a:Int
 b:Int
 c:Int
 AY:Int
def FC(o:Nat)(x y:Int):Int :=
 if o=4 then aj .u64 (x+y)else if o=5 then aj .u64 (x-y)else if o=6 then aj .u64 (x*y)
 else if o=7 then aj .u64 ((BD 64 x &&& BD 64 y).toNat)else if o=8 then aj .u64 ((BD 64 x ^^^ BD 64 y).toNat)
 else if o=9 then aj .u64 (x*2 ^ (y % 64).toNat)else aj .u64 (x / 2 ^ (y % 64).toNat)
structure pI where
 kind:Int
 au:Int
 pG:Int
 value:Int
 addr:Int
def iy:pI:=⟨0,0,0,0,0⟩
def pM(op:Nat):List UInt8 :=
 if op=2 then[65,73]else if op=3 then[65,66]else if 4<=op/\op<=10 then[65,66,67]
 else if op=11\/op=12\/op=14\/op=15\/op=16 then[65,66,73]else if op=13 then[73]else[]
def iV.mH(i:iV):Prop:=1<=i.op/\i.op<=18/\(65∈pM i.op.toNat->0<=i.a/\i.a<8)/\(66∈pM i.op.toNat->0<=i.b/\i.b<8)/\(67∈pM i.op.toNat->0<=i.c/\i.c<8)
instance(i:iV):Decidable i.mH:=inferInstanceAs (Decidable (_/\_))
def pS(n:Int):Nat:=(BD 64 n &&& 7#64).toNat
def rg(rs:List Int)(n:Int):Int:=rs.getD (pS n) 0
def nT(i:iV)(pc:Int)(q:Bool):pI:=if q=B4 then(if i.AY<0\/1024<i.AY then iy else⟨2,i.AY,0,0,0⟩)else⟨2,pc+1,0,0,0⟩
def iV.gh(i:iV)(rs:List Int)(pc:Int):pI :=
 if¬i.mH\/pc<0\/1024<=pc then iy
 else if i.op=1 then⟨7,pc+1,0,0,0⟩
 else if i.op=2 then⟨1,pc+1,i.a,aj .u64 i.AY,0⟩
 else if i.op=3 then⟨1,pc+1,i.a,rg rs i.b,0⟩
 else if i.op<=10 then⟨1,pc+1,i.a,FC i.op.toNat (rg rs i.b) (rg rs i.c),0⟩
 else if i.op=11 then⟨3,pc+1,i.a,0,aj .u64 (rg rs i.b+aj .u64 i.AY)⟩
 else if i.op=12 then⟨4,pc+1,0,rg rs i.a,aj .u64 (rg rs i.b+aj .u64 i.AY)⟩
 else if i.op=13 then nT i pc B4
 else if i.op=14 then nT i pc (decide (rg rs i.a=rg rs i.b))
 else if i.op=15 then nT i pc (decide (rg rs i.a≠rg rs i.b))
 else if i.op=16 then nT i pc (decide (rg rs i.a<rg rs i.b))
 else if i.op=17 then⟨5,pc+1,0,0,0⟩
 else⟨6,pc+1,0,0,0⟩
end Lang
end Go.Am
namespace Go.Am
def qQ(AP:ak)(g:Nat)(pre cap:List AV)(N O:Nat->Prop)(H0:ar)(xs:List (List AV)):Prop :=
 ∀(L:Nat)(R:Nat->(Nat->Prop)->ar->Prop)(S:(Nat->Prop)->ar->Prop)(W0:Nat->Prop)(H:ar),
  H0.au<=H.au->(∀b,N b\/O b->b<H0.au/\H.get b=H0.get b /\ ¬W0 b)->R 0 W0 H->(∀b,W0 b->b<H.au) ->
  (∀i W H H',R i W H->(∀b,W b->H'.get b=H.get b)->H.au<=H'.au->R i W H')->(∀W H H',S W H->(∀b,W b->H'.get b=H.get b)->H.au<=H'.au->S W H') ->
  (∀(i:Nat)x,xs[i]? = B1 x -> ∀W H',R i W H'->(∀b,W b->b<H'.au/\(W0 b\/H.au<=b))->Fr (λ b=>W0 b\/O b) H H' ->
   ∃bb H'' W',tc AP L x H' (.ret (.bool bb)) H''/\Fr W H' H''/\(∀b,W' b->b<H''.au/\(W b\/H'.au<=b))/\(bb=B4->R (i+1) W' H'')/\(bb=B2->S W' H'')) ->
  ∃v H' W',CALL AP g (pre++(.fn (.yield L) [] []::cap)) H (.ret v) H'/\Fr (λ b=>W0 b\/O b) H H'/\(∀b,W' b->b<H'.au/\(W0 b\/H.au<=b))/\(R xs.length W' H'\/S W' H')
section
variable{AP:ak}
def xm3{f:Nat}{fn:cj}{k:Nat}{lp:dZ}(hf:AP.func f=B1 fn)(hk:nth fn.loops k=B1 lp){tm:T AV}{aZ:List aN}{up:Option aI}{H:ar}{Q:cR}
 {g:Nat} {pre cap:List AV} {N O:Nat->Prop} {H0:ar} {xs:List (List AV)} (mX:qQ AP g pre cap N O H0 xs)
 (P:Nat->(Nat->Prop)->ar->Prop) (y:aX->(Nat->Prop)->ar->Prop) (m:Nat->Prop)
 (hn:H0.au<=H.au) (hN:∀b,N b\/O b->b<H0.au/\H.get b=H0.get b /\ ¬m b) (hW0:∀b,m b->b<H.au) (h0:P 0 m H)
 (loc:∀i W H H',P i W H->(∀b,W b->H'.get b=H.get b)->H.au<=H'.au->P i W H') (w:∀e W H H',y e W H->(∀b,W b->H'.get b=H.get b)->H.au<=H'.au->y e W H')
 (z:∀(L d i:Nat)x,xs[i]? = B1 x->H.au<=L -> ∀W H1,P i W H1->(∀b,W b->b<H1.au/\(m b\/H.au<=b))->Fr (λ b=>m b\/O b) H H1 -> ¬W L->L<H1.au->H1.get L=B1 (.loop .ready B5 f k tm d) ->
  ∃D,Li tm lp.params x=B1 D/\WP AP ⟨B1 L,f⟩ lp.assign ⟨D,[],B5,H1⟩ λ e dp=>e=.normal/\dp.H.get L=B1 (.loop .ready B5 f k tm d) /\
   WP AP ⟨B1 L,f⟩ lp.body ⟨dp.tm,dp.aZ,dp.up,dp.H.set L (.loop .busy B5 f k tm d)⟩ λ e2 a=>a.aZ=[]/\a.H.get L=B1 (.loop .busy B5 f k tm d) /\
    ∃W':Nat->Prop,(∀b,W' b->b<a.H.au/\(W b\/H1.au<=b))/\Fr (λ b=>W b\/b=L) H1 a.H/\(e2=.normal/\P (i+1) W' a.H\/gP e2/\y e2 W' a.H))
 (M:∀d W' H',H.au<=d->d<H'.au->H'.get d=B1 (.deferred (B1 []))->Fr (λ b=>m b\/O b) H H'->(∀b,W' b->b<H'.au/\(m b\/H.au<=b)/\b≠d)->P xs.length W' H'->Q .normal ⟨tm,.jC d::aZ,up,H'⟩)
 (C:∀e d W' H',gP e->H.au<=d->d<H'.au->H'.get d=B1 (.deferred (B1 []))->Fr (λ b=>m b\/O b) H H'->(∀b,W' b->b<H'.au/\(m b\/H.au<=b)/\b≠d)->y e W' H'->Q e ⟨tm,.jC d::aZ,up,H'⟩) :
 J4 AP ⟨B5,f⟩ k ⟨tm,aZ,up,H⟩ Q (.fn (.func g) pre cap):=by
 let d:=H.au
 let L:=H.au+1
 let Hd:=H.alloc (.deferred (B1 []))
 let HL:=Hd.alloc (.loop .ready B5 f k tm d)
 have hHL:HL.au=H.au+2:=rfl;have hgL:HL.get L=B1 (.loop .ready B5 f k tm d):=xp Hd _;have hgd:HL.get d=B1 (.deferred (B1 [])):=by rw[show HL.get d=Hd.get d from wq (by show H.au<H.au+1;omega) _];exact xp H _
 have R:Fr Em H HL:=((Fr.refl H).alloc _).alloc _;have hold:∀b,b<H.au->HL.get b=H.get b:=λ b hb=>R.ah b hb (λ q=>q);have⟨v,H',W',hc,B,J,hres⟩:=mX L
  (λ i W H'=>∃V:Nat->Prop,(∀b,V b->W b)/\W L /\ ¬V L /\ ¬W d/\(∀b,W b->V b\/b=L)/\P i V H'/\H'.get L=B1 (.loop .ready B5 f k tm d)/\L<H'.au)
  (λ W H'=>∃(V:Nat->Prop)(e:aX)(j:ik),(∀b,V b->W b)/\W L /\ ¬V L /\ ¬W d/\(∀b,W b->V b\/b=L)/\gP e/\kS e=B1 j/\y e V H'/\H'.get L=B1 (.loop .done (B1 j) f k tm d)/\L<H'.au)
  (λ b=>m b\/b=L) HL (by omega)
  (by grind)
  (by grind)
  (by grind)
  (λ i W H1 n⟨V,v1,v2,E,v4,v5,v6,F,G⟩hs hle=>⟨V,v1,v2,E,v4,v5,(by grind),by grind,qn G hle⟩)
  (by grind)
  (λ i x hx W H1⟨V,v1,v2,E,v4,v5,v6,F,G⟩hb U=>by
   have hLn0:L=H.au+1:=rfl;have S:Fr (λ b=>m b\/O b) H H1:=⟨(by omega),λ b hb hw=>by rw[U.ah b (by omega) (by grind),hold b hb]⟩
   have wL:∀b,V b->b<H1.au/\(m b\/H.au<=b):=λ b q=>(by grind)
   have⟨D,hbp,hw⟩:=z L d i x hx (by show H.au<=H.au+1;omega) V H1 v6 wL S E G F;obtain⟨e,n,hr,bb,rfl,c,k1,k2,k3,k4⟩:=s_ (Q:=λ e n=>∃bb,e=.ret (.bool bb) /\ ∃c:Nat->Prop,Fr W H1 n/\(∀b,c b->b<n.au/\(W b\/H1.au<=b)) /\
    (bb=B4 -> ∃V:Nat->Prop,(∀b,V b->c b)/\c L /\ ¬V L /\ ¬c d/\(∀b,c b->V b\/b=L)/\P (i+1) V n/\n.get L=B1 (.loop .ready B5 f k tm d)/\L<n.au) /\
    (bb=B2 -> ∃(V:Nat->Prop)(e:aX)(j:ik),(∀b,V b->c b)/\c L /\ ¬V L /\ ¬c d/\(∀b,c b->V b\/b=L)/\gP e/\kS e=B1 j/\y e V n/\n.get L=B1 (.loop .done (B1 j) f k tm d)/\L<n.au)) F hf hk hbp
    (pW hw λ e dp⟨he,hgl,hw2⟩=>by
     subst he;show bR aJ (beginRound dp.H L) _;have:beginRound dp.H L=B1 (dp.H.set L (.loop .busy B5 f k tm d)):=by grind [beginRound]
     rw[this];refine pW hw2 λ e2 a⟨hd2,hg2,W',w1,w2,w3⟩=>⟨hd2,?_⟩
     have I:L<a.H.au:=qn G w2.au;have hd1:d<H1.au:=by omega
     have fin:∀s p,Fr W H1 (a.H.set L (.loop s p f k tm d)):=λ s p=>⟨w2.au,λ b hb hw=>by
      rw[ar.aK,qy (by grind)];exact w2.ah b hb λ q=>(by grind)⟩
     have hW'L:∀b,(W' b/\b≠L)->(a.H.set L (.loop .ready B5 f k tm d)).get b=a.H.get b:=λ b hb=>by rw[ar.aK,qy (λ q=>hb.2 q.symm)]
     have Z:¬W' L:=λ q=>by
      grind
     have hnd:¬W' d:=λ q=>by
      grind
     have r:d≠L:=by omega
     have bounds:∀b,(W' b\/b=L)->b<a.H.au/\(W b\/H1.au<=b):=λ b hb=>hb.elim (by grind) λ q=>by grind
     rcases w3 with⟨rfl,w3⟩|⟨X,w3⟩
     .show bR aJ (da a.H L (cond B4 .ready .done) B5) _;have:da a.H L .ready B5=B1 (a.H.set L (.loop .ready B5 f k tm d)):=by simp_all[da]
      rw[xt,this];refine⟨B4,rfl,λ b=>W' b\/b=L,fin _ _,bounds,λ _=>⟨W',λ b hb=>.inl hb,.inr rfl,Z,λ q=>q.elim hnd r,λ b hb=>hb,loc _ _ _ _ w3 (by grind) (qm _),xc _ _ _,I⟩,λ h=>by cases h⟩
     .obtain ⟨j,Y⟩:∃j,kS e2=B1 j:=by cases e2<;>first|exact X.elim|exact⟨_,rfl⟩
      have hnn:Ap e2=false:=by cases e2<;>first|exact X.elim|rfl
      have l:∀(A:Prop),(bR aJ (da a.H L (cond (Ap e2) .ready .done) (kS e2)) λ H=>∃bb,(bP.ret (.bool (Ap e2))=.ret (.bool bb)) /\ ∃c:Nat->Prop,Fr W H1 H/\(∀b,c b->b<H.au/\(W b\/H1.au<=b)) /\
       (bb=B4 -> ∃V:Nat->Prop,(∀b,V b->c b)/\c L /\ ¬V L /\ ¬c d/\(∀b,c b->V b\/b=L)/\P (i+1) V H/\H.get L=B1 (.loop .ready B5 f k tm d)/\L<H.au) /\
       (bb=B2 -> ∃(V:Nat->Prop)(e:aX)(j:ik),(∀b,V b->c b)/\c L /\ ¬V L /\ ¬c d/\(∀b,c b->V b\/b=L)/\gP e/\kS e=B1 j/\y e V H/\H.get L=B1 (.loop .done (B1 j) f k tm d)/\L<H.au)):=λ _=>by
       have:da a.H L .done (B1 j)=B1 (a.H.set L (.loop .done (B1 j) f k tm d)):=by grind [da]
       rw[hnn,Y,zn,this];refine⟨B2,rfl,λ b=>W' b\/b=L,fin _ _,bounds,λ h=>(by cases h),λ _=>⟨W',e2,j,λ b hb=>.inl hb,.inr rfl,Z,λ q=>q.elim hnd r,λ b hb=>hb,X,Y,w _ _ _ _ w3 (λ b hb=>by rw[ar.aK,qy (by grind)]) (qm _),xc _ _ _,I⟩⟩
      cases e2 with
      |normal=>exact X.elim
      |panic _=>exact X.elim
      |exit _=>exact l True
      |goto _=>exact l True
      |ret=>exact l True)
   exact⟨bb,n,c,hr,k1,k2,k3,k4⟩)
 have r:d≠L:=by omega
 have hdW:¬((m d\/d=L)\/O d):=λ q=>(by grind)
 have t:H'.get d=B1 (.deferred (B1 [])):=by rw[B.ah d (by omega) hdW];exact hgd
 have K:d<H'.au:=(by omega)
 have u:∀(o:bE),Fr (λ b=>m b\/O b) H (H'.set L o):=λ o=>⟨xx (by omega) B.au,λ b hb hw=>by
  have:L=H.au+1:=rfl;rw[ar.aK,qy (by omega),B.ah b (by omega) (by grind),hold b hb]⟩
 refine⟨.ret v,H',hc,?_⟩;rcases hres with⟨V,v1,v2,E,v4,v5,v6,F,G⟩|⟨V,e,j,v1,v2,E,v4,v5,v6,F,G,v9,v10⟩
 .refine ⟨.ready,B5,f,k,tm,d,F,by simp,?_⟩;refine M d V _ (qm _) K (by rw[ar.aK,qy (λ q=>r q.symm)];exact t) (u _) (λ b hb=>⟨(J b (v1 b hb)).1,?_,λ q=>v4 (by rw[<-q];exact v1 b hb)⟩) (loc _ _ _ _ v6 (λ b hb=>by rw[ar.aK,qy (by rintro rfl;exact E hb)]) (qm _))
  grind
 .refine ⟨.done,B1 j,f,k,tm,d,v9,by simp,?_⟩;have he:rO (B1 j)=e:=by cases e<;>first|exact v6.elim|(cases F;rfl)
  rw[he];refine C e d V _ v6 (qm _) K (by rw[ar.aK,qy (λ q=>r q.symm)];exact t) (u _) (λ b hb=>⟨(J b (v1 b hb)).1,?_,λ q=>v4 (by rw[<-q];exact v1 b hb)⟩) (w _ _ _ _ G (λ b hb=>by rw[ar.aK,qy (by rintro rfl;exact E hb)]) (qm _))
  grind
def yJ:List Nat->List AV->Env->Option Env
 |[],[],E=>B1 E
 |t::ts,v::vs,E=>yJ ts vs ((t,v)::E)
 |_,_,_=>B5
def Ww(M:ak)(ctx:Ctx)(b:Kp×ai)(L:Nat)(lr lb:bE)(Q:aG):aG:=λ e E D H=>match e with
 | .normal=>H.get L=B1 lr/\W M ctx b B4 Q E D (H.set L lb)
 |_=>False
def Ct(M:ak)(ctx:Ctx)(b:Kp×ai)(L:Nat)(lr lb:bE)(Q:aG)(E:Env)(D:List aN)(H:ar):Ww M ctx b L lr lb Q .normal E D H=(H.get L=B1 lr/\W M ctx b B4 Q E D (H.set L lb)):=propext j9
def Qi(P:(Nat->Prop)->ar->Prop)(PS:aX->(Nat->Prop)->ar->Prop)(L:Nat)(lb:bE)(W:Nat->Prop)(H1:ar):aG:=λ e _ D H=>D=[]/\H.get L=B1 lb /\
 ∃W':Nat->Prop,(∀b,W' b->b<H.au/\(W b\/H1.au<=b))/\Fr (λ b=>W b\/b=L) H1 H/\(e=.normal/\P W' H\/gP e/\PS e W' H)
def gw.cons{ks:List Nat}{E:Env}{tm:T AV}(h:gw ks E tm){t:Nat}(v:AV)(c:bL t ks=B4):gw ks ((t,v)::E) (tm.set t v):=λ u x hu=>by
 rw[xM]at hu;split at hu
 .simp_all [T.aK]
 .rename_i e;have⟨a,b⟩:=h u x hu;simp_all[T.aK]
def XA{ks:List Nat}:∀{ts:List Nat}{vs:List AV}{E b:Env}{tm:T AV},gw ks E tm->(∀t∈ts,bL t ks=B4)->yJ ts vs E=B1 b -> ∃a,Li tm ts vs=B1 a/\gw ks b a
 |[],[],E,b,tm,h,ht,hb=>by cases hb;exact⟨tm,rfl,h⟩
 |[],_::_,_,_,_,_,_,hb=>nomatch hb
 |_::_,[],_,_,_,_,_,hb=>nomatch hb
 |t::ts,v::vs,E,b,tm,h,ht,hb=>XA (ts:=ts) (vs:=vs) (h.cons v (by grind)) (by grind) hb
def iP.iter{f:Nat}{fn:cj}{k:Nat}{lp:dZ}(Z:AP.func f=B1 fn)(hk:nth fn.loops k=B1 lp){ks:List Nat}{ts:List Nat}(hp:lp.params=ts)(A:∀t∈ts,bL t ks=B4){pa pb:Kp×ai}(ha:pa.1.ah=ks/\pa.2=lp.assign)(hb:pb.1.ah=ks/\pb.2=lp.body)
 {E:Env} {D:List aN} {H:ar} {Q:aG} {g:Nat} {pre cap:List AV} {N O:Nat->Prop} {H0:ar} {xs:List (List AV)} (mX:qQ AP g pre cap N O H0 xs)
 (P:Nat->(Nat->Prop)->ar->Prop) (h:aX->(Nat->Prop)->ar->Prop) (a:Nat->Prop)
 (hn:H0.au<=H.au) (T:∀b,N b\/O b->b<H0.au/\H.get b=H0.get b /\ ¬a b) (q:∀b,a b->b<H.au) (M:P 0 a H)
 (loc:∀i W H H',P i W H->(∀b,W b->H'.get b=H.get b)->H.au<=H'.au->P i W H') (l:∀e W H H',h e W H->(∀b,W b->H'.get b=H.get b)->H.au<=H'.au->h e W H')
 (c:∀(L i:Nat)(lr lb:bE)x,xs[i]? = B1 x->H.au<=L -> ∀W' H1,P i W' H1->(∀b,W' b->b<H1.au/\(a b\/H.au<=b))->Fr (λ b=>a b\/O b) H H1 -> ¬W' L->L<H1.au->H1.get L=B1 lr ->
  ∃m,yJ ts x E=B1 m/\W AP ⟨B1 L,f⟩ pa B4 (Ww AP ⟨B1 L,f⟩ pb L lr lb (Qi (P (i+1)) h L lb W' H1)) m [] H1)
 (F:∀d W' H',H.au<=d->d<H'.au->H'.get d=B1 (.deferred (B1 []))->Fr (λ b=>a b\/O b) H H'->(∀b,W' b->b<H'.au/\(a b\/H.au<=b)/\b≠d)->P xs.length W' H'->Q .normal E (.jC d::D) H')
 (z:∀e d W' H',gP e->H.au<=d->d<H'.au->H'.get d=B1 (.deferred (B1 []))->Fr (λ b=>a b\/O b) H H'->(∀b,W' b->b<H'.au/\(a b\/H.au<=b)/\b≠d)->h e W' H'->Q e E (.jC d::D) H') :
 iP AP ks ⟨B5,f⟩ k E D H Q (.fn (.func g) pre cap):=by
 intro tm up he;refine xm3 Z hk mX P h a hn T q M loc l ?_ (by grind) (by grind);intro L d i x hx S W' H1 U V s y p w;have⟨m,o,hw⟩:=c L i (.loop .ready B5 f k tm d) (.loop .busy B5 f k tm d) x hx S W' H1 U V s y p w;have⟨C,X,r⟩:=XA he A o;refine⟨C,by grind,?_⟩;rw[mj]at hw;have:=W3.wp _ _ (qm _) (up:=B5) hw (by rw[ha.1];exact r);rw[ha.2]at this;refine pW this λ e dp⟨B,J,n,G⟩=>?_;cases e with
 |normal =>
  have⟨hg,j⟩:=G;refine⟨rfl,hg,?_⟩;rw[mj]at j;have:=W3.wp _ _ (qm _) (up:=B5) j (show gw pb.1.ah J dp.tm by rw[hb.1,<-ha.1];exact n);rw[hb.2]at this;rw[B];refine pW this λ e2 st2⟨I,E2,R,Y,u,K,k1,k2,k3⟩=>⟨Y,u,K,k1,k2,k3⟩
 |_=>exact G.elim
def I2(rs:List eE)(Q:bP->ar->Prop)(E:Env)(d:Nat)(H:ar):eS AP rs Q .ret E [.jC d] H=(H.get d=B1 (.deferred (B1 []))/\jE E (H.set d (.deferred B5)) rs λ l=>Q (.ret (jK l)) (H.set d (.deferred B5))):=propext j9
end
end Go.Am
namespace Go.Am
structure Act where
 kind:Int
 core:Int
 n:Int
deriving DecidableEq
def Act.enc(a:Act):List AV:=[.int .i64 a.kind,.int .i64 a.core,.int .i64 a.n]
def Act.len(a:Act):a.enc.length=3:=rfl
def Act.one(a:Act):aL a.enc=true:=rfl
def Bytes(bs:List Int):Prop:=∀b∈bs,0<=b/\b<256
def Bytes.get{bs:List Int}(h:Bytes bs){i:Nat}{b:Int}(hb:bs[i]? = B1 b):0<=b/\b<256:=h b (zd hb)
end Go.Am
namespace Go.Am
def uT(AP:ak)(g:Nat)(pre cap:List AV)(N O:Nat->Prop)(I:Nat->ar->Prop)(H0:ar)(xs:List (List AV)):Prop :=
 ∀(L:Nat)(R:Nat->(Nat->Prop)->ar->Prop)(S:(Nat->Prop)->ar->Prop)(W0:Nat->Prop)(H:ar),
  H0.au<=H.au->(∀b,N b\/O b->b<H0.au/\H.get b=H0.get b /\ ¬W0 b)->R 0 W0 H->(∀b,W0 b->b<H.au) ->
  (∀i W H H',R i W H->(∀b,W b->H'.get b=H.get b)->H.au<=H'.au->R i W H')->(∀W H H',S W H->(∀b,W b->H'.get b=H.get b)->H.au<=H'.au->S W H') ->
  (∀i W H',R i W H'->I i H') ->
  (∀(i:Nat)x,xs[i]? = B1 x -> ∀W H',R i W H'->(∀b,W b->b<H'.au/\(W0 b\/H.au<=b))->Fr (λ b=>W0 b\/O b) H H' ->
   ∃bb H'' W',tc AP L x H' (.ret (.bool bb)) H''/\Fr W H' H''/\(∀b,W' b->b<H''.au/\(W b\/H'.au<=b))/\(bb=B4->R (i+1) W' H'')/\(bb=B2->S W' H'')) ->
  ∃v H' W',CALL AP g (pre++(.fn (.yield L) [] []::cap)) H (.ret v) H'/\Fr (λ b=>W0 b\/O b) H H'/\(∀b,W' b->b<H'.au/\(W0 b\/H.au<=b))/\(R xs.length W' H'\/S W' H')
section
variable{AP:ak}
def xm2{f:Nat}{fn:cj}{k:Nat}{lp:dZ}(hf:AP.func f=B1 fn)(hk:nth fn.loops k=B1 lp){tm:T AV}{aZ:List aN}{up:Option aI}{H:ar}{Q:cR}
 {g:Nat} {pre cap:List AV} {N O:Nat->Prop} {I:Nat->ar->Prop} {H0:ar} {xs:List (List AV)} (mX:uT AP g pre cap N O I H0 xs)
 (P:Nat->(Nat->Prop)->ar->Prop) (y:aX->(Nat->Prop)->ar->Prop) (m:Nat->Prop)
 (hn:H0.au<=H.au) (hN:∀b,N b\/O b->b<H0.au/\H.get b=H0.get b /\ ¬m b) (hW0:∀b,m b->b<H.au) (h0:P 0 m H)
 (loc:∀i W H H',P i W H->(∀b,W b->H'.get b=H.get b)->H.au<=H'.au->P i W H') (w:∀e W H H',y e W H->(∀b,W b->H'.get b=H.get b)->H.au<=H'.au->y e W H') (hI:∀i W H,P i W H->I i H)
 (z:∀(L d i:Nat)x,xs[i]? = B1 x->H.au<=L -> ∀W H1,P i W H1->(∀b,W b->b<H1.au/\(m b\/H.au<=b))->Fr (λ b=>m b\/O b) H H1 -> ¬W L->L<H1.au->H1.get L=B1 (.loop .ready B5 f k tm d) ->
  ∃D,Li tm lp.params x=B1 D/\WP AP ⟨B1 L,f⟩ lp.assign ⟨D,[],B5,H1⟩ λ e dp=>e=.normal/\dp.H.get L=B1 (.loop .ready B5 f k tm d) /\
   WP AP ⟨B1 L,f⟩ lp.body ⟨dp.tm,dp.aZ,dp.up,dp.H.set L (.loop .busy B5 f k tm d)⟩ λ e2 a=>a.aZ=[]/\a.H.get L=B1 (.loop .busy B5 f k tm d) /\
    ∃W':Nat->Prop,(∀b,W' b->b<a.H.au/\(W b\/H1.au<=b))/\Fr (λ b=>W b\/b=L) H1 a.H/\(e2=.normal/\P (i+1) W' a.H\/gP e2/\y e2 W' a.H))
 (R:∀d W' H',H.au<=d->d<H'.au->H'.get d=B1 (.deferred (B1 []))->Fr (λ b=>m b\/O b) H H'->(∀b,W' b->b<H'.au/\(m b\/H.au<=b)/\b≠d)->P xs.length W' H'->Q .normal ⟨tm,.jC d::aZ,up,H'⟩)
 (C:∀e d W' H',gP e->H.au<=d->d<H'.au->H'.get d=B1 (.deferred (B1 []))->Fr (λ b=>m b\/O b) H H'->(∀b,W' b->b<H'.au/\(m b\/H.au<=b)/\b≠d)->y e W' H'->Q e ⟨tm,.jC d::aZ,up,H'⟩) :
 J4 AP ⟨B5,f⟩ k ⟨tm,aZ,up,H⟩ Q (.fn (.func g) pre cap):=by
 let d:=H.au
 let L:=H.au+1
 let Hd:=H.alloc (.deferred (B1 []))
 let HL:=Hd.alloc (.loop .ready B5 f k tm d)
 have hHL:HL.au=H.au+2:=rfl;have hgL:HL.get L=B1 (.loop .ready B5 f k tm d):=xp Hd _;have hgd:HL.get d=B1 (.deferred (B1 [])):=by rw[show HL.get d=Hd.get d from wq (by show H.au<H.au+1;omega) _];exact xp H _
 have S:Fr Em H HL:=((Fr.refl H).alloc _).alloc _;have hold:∀b,b<H.au->HL.get b=H.get b:=λ b hb=>S.ah b hb (λ q=>q);have⟨v,H',W',hc,B,K,hres⟩:=mX L
  (λ i W H'=>∃V:Nat->Prop,(∀b,V b->W b)/\W L /\ ¬V L /\ ¬W d/\(∀b,W b->V b\/b=L)/\P i V H'/\H'.get L=B1 (.loop .ready B5 f k tm d)/\L<H'.au)
  (λ W H'=>∃(V:Nat->Prop)(e:aX)(j:ik),(∀b,V b->W b)/\W L /\ ¬V L /\ ¬W d/\(∀b,W b->V b\/b=L)/\gP e/\kS e=B1 j/\y e V H'/\H'.get L=B1 (.loop .done (B1 j) f k tm d)/\L<H'.au)
  (λ b=>m b\/b=L) HL (by omega)
  (by grind)
  (by grind)
  (by grind)
  (λ i W H1 n⟨V,v1,v2,E,v4,v5,v6,F,G⟩hs hle=>⟨V,v1,v2,E,v4,v5,(by grind),by grind,qn G hle⟩)
  (by grind)
  (by grind)
  (λ i x hx W H1⟨V,v1,v2,E,v4,v5,v6,F,G⟩hb X=>by
   have hLn0:L=H.au+1:=rfl;have U:Fr (λ b=>m b\/O b) H H1:=⟨(by omega),λ b hb hw=>by rw[X.ah b (by omega) (by grind),hold b hb]⟩
   have wL:∀b,V b->b<H1.au/\(m b\/H.au<=b):=λ b q=>(by grind)
   have⟨D,hbp,hw⟩:=z L d i x hx (by show H.au<=H.au+1;omega) V H1 v6 wL U E G F;obtain⟨e,n,hr,bb,rfl,c,k1,k2,k3,k4⟩:=s_ (Q:=λ e n=>∃bb,e=.ret (.bool bb) /\ ∃c:Nat->Prop,Fr W H1 n/\(∀b,c b->b<n.au/\(W b\/H1.au<=b)) /\
    (bb=B4 -> ∃V:Nat->Prop,(∀b,V b->c b)/\c L /\ ¬V L /\ ¬c d/\(∀b,c b->V b\/b=L)/\P (i+1) V n/\n.get L=B1 (.loop .ready B5 f k tm d)/\L<n.au) /\
    (bb=B2 -> ∃(V:Nat->Prop)(e:aX)(j:ik),(∀b,V b->c b)/\c L /\ ¬V L /\ ¬c d/\(∀b,c b->V b\/b=L)/\gP e/\kS e=B1 j/\y e V n/\n.get L=B1 (.loop .done (B1 j) f k tm d)/\L<n.au)) F hf hk hbp
    (pW hw λ e dp⟨he,hgl,hw2⟩=>by
     subst he;show bR aJ (beginRound dp.H L) _;have:beginRound dp.H L=B1 (dp.H.set L (.loop .busy B5 f k tm d)):=by grind [beginRound]
     rw[this];refine pW hw2 λ e2 a⟨hd2,hg2,W',w1,w2,w3⟩=>⟨hd2,?_⟩
     have J:L<a.H.au:=qn G w2.au;have hd1:d<H1.au:=by omega
     have fin:∀s p,Fr W H1 (a.H.set L (.loop s p f k tm d)):=λ s p=>⟨w2.au,λ b hb hw=>by
      rw[ar.aK,qy (by grind)];exact w2.ah b hb λ q=>(by grind)⟩
     have hW'L:∀b,(W' b/\b≠L)->(a.H.set L (.loop .ready B5 f k tm d)).get b=a.H.get b:=λ b hb=>by rw[ar.aK,qy (λ q=>hb.2 q.symm)]
     have hnV:¬W' L:=λ q=>by
      grind
     have hnd:¬W' d:=λ q=>by
      grind
     have r:d≠L:=by omega
     have bounds:∀b,(W' b\/b=L)->b<a.H.au/\(W b\/H1.au<=b):=λ b hb=>hb.elim (by grind) λ q=>by grind
     rcases w3 with⟨rfl,w3⟩|⟨Y,w3⟩
     .show bR aJ (da a.H L (cond B4 .ready .done) B5) _;have:da a.H L .ready B5=B1 (a.H.set L (.loop .ready B5 f k tm d)):=by simp_all[da]
      rw[xt,this];refine⟨B4,rfl,λ b=>W' b\/b=L,fin _ _,bounds,λ _=>⟨W',λ b hb=>.inl hb,.inr rfl,hnV,λ q=>q.elim hnd r,λ b hb=>hb,loc _ _ _ _ w3 (by grind) (qm _),xc _ _ _,J⟩,λ h=>by cases h⟩
     .obtain ⟨j,Z⟩:∃j,kS e2=B1 j:=by cases e2<;>first|exact Y.elim|exact⟨_,rfl⟩
      have hnn:Ap e2=false:=by cases e2<;>first|exact Y.elim|rfl
      have l:∀(A:Prop),(bR aJ (da a.H L (cond (Ap e2) .ready .done) (kS e2)) λ H=>∃bb,(bP.ret (.bool (Ap e2))=.ret (.bool bb)) /\ ∃c:Nat->Prop,Fr W H1 H/\(∀b,c b->b<H.au/\(W b\/H1.au<=b)) /\
       (bb=B4 -> ∃V:Nat->Prop,(∀b,V b->c b)/\c L /\ ¬V L /\ ¬c d/\(∀b,c b->V b\/b=L)/\P (i+1) V H/\H.get L=B1 (.loop .ready B5 f k tm d)/\L<H.au) /\
       (bb=B2 -> ∃(V:Nat->Prop)(e:aX)(j:ik),(∀b,V b->c b)/\c L /\ ¬V L /\ ¬c d/\(∀b,c b->V b\/b=L)/\gP e/\kS e=B1 j/\y e V H/\H.get L=B1 (.loop .done (B1 j) f k tm d)/\L<H.au)):=λ _=>by
       have:da a.H L .done (B1 j)=B1 (a.H.set L (.loop .done (B1 j) f k tm d)):=by grind [da]
       rw[hnn,Z,zn,this];refine⟨B2,rfl,λ b=>W' b\/b=L,fin _ _,bounds,λ h=>(by cases h),λ _=>⟨W',e2,j,λ b hb=>.inl hb,.inr rfl,hnV,λ q=>q.elim hnd r,λ b hb=>hb,Y,Z,w _ _ _ _ w3 (λ b hb=>by rw[ar.aK,qy (by grind)]) (qm _),xc _ _ _,J⟩⟩
      cases e2 with
      |normal=>exact Y.elim
      |panic _=>exact Y.elim
      |exit _=>exact l True
      |goto _=>exact l True
      |ret=>exact l True)
   exact⟨bb,n,c,hr,k1,k2,k3,k4⟩)
 have r:d≠L:=by omega
 have hdW:¬((m d\/d=L)\/O d):=λ q=>(by grind)
 have t:H'.get d=B1 (.deferred (B1 [])):=by rw[B.ah d (by omega) hdW];exact hgd
 have M:d<H'.au:=(by omega)
 have u:∀(o:bE),Fr (λ b=>m b\/O b) H (H'.set L o):=λ o=>⟨xx (by omega) B.au,λ b hb hw=>by
  have:L=H.au+1:=rfl;rw[ar.aK,qy (by omega),B.ah b (by omega) (by grind),hold b hb]⟩
 refine⟨.ret v,H',hc,?_⟩;rcases hres with⟨V,v1,v2,E,v4,v5,v6,F,G⟩|⟨V,e,j,v1,v2,E,v4,v5,v6,F,G,v9,v10⟩
 .refine ⟨.ready,B5,f,k,tm,d,F,by simp,?_⟩;refine R d V _ (qm _) M (by rw[ar.aK,qy (λ q=>r q.symm)];exact t) (u _) (λ b hb=>⟨(K b (v1 b hb)).1,?_,λ q=>v4 (by rw[<-q];exact v1 b hb)⟩) (loc _ _ _ _ v6 (λ b hb=>by rw[ar.aK,qy (by rintro rfl;exact E hb)]) (qm _))
  grind
 .refine ⟨.done,B1 j,f,k,tm,d,v9,by simp,?_⟩;have he:rO (B1 j)=e:=by cases e<;>first|exact v6.elim|(cases F;rfl)
  rw[he];refine C e d V _ v6 (qm _) M (by rw[ar.aK,qy (λ q=>r q.symm)];exact t) (u _) (λ b hb=>⟨(K b (v1 b hb)).1,?_,λ q=>v4 (by rw[<-q];exact v1 b hb)⟩) (w _ _ _ _ G (λ b hb=>by rw[ar.aK,qy (by rintro rfl;exact E hb)]) (qm _))
  grind
def iP.uv{f:Nat}{fn:cj}{k:Nat}{lp:dZ}(hf:AP.func f=B1 fn)(hk:nth fn.loops k=B1 lp){ks:List Nat}{ts:List Nat}(hp:lp.params=ts)(A:∀t∈ts,bL t ks=B4){pa pb:Kp×ai}(ha:pa.1.ah=ks/\pa.2=lp.assign)(hb:pb.1.ah=ks/\pb.2=lp.body)
 {E:Env} {D:List aN} {H:ar} {Q:aG} {g:Nat} {pre cap:List AV} {N O:Nat->Prop} {I:Nat->ar->Prop} {H0:ar} {xs:List (List AV)} (mX:uT AP g pre cap N O I H0 xs)
 (P:Nat->(Nat->Prop)->ar->Prop) (h:aX->(Nat->Prop)->ar->Prop) (a:Nat->Prop)
 (hn:H0.au<=H.au) (U:∀b,N b\/O b->b<H0.au/\H.get b=H0.get b /\ ¬a b) (q:∀b,a b->b<H.au) (R:P 0 a H)
 (loc:∀i W H H',P i W H->(∀b,W b->H'.get b=H.get b)->H.au<=H'.au->P i W H') (l:∀e W H H',h e W H->(∀b,W b->H'.get b=H.get b)->H.au<=H'.au->h e W H') (hI:∀i W H,P i W H->I i H)
 (c:∀(L i:Nat)(lr lb:bE)x,xs[i]? = B1 x->H.au<=L -> ∀W' H1,P i W' H1->(∀b,W' b->b<H1.au/\(a b\/H.au<=b))->Fr (λ b=>a b\/O b) H H1 -> ¬W' L->L<H1.au->H1.get L=B1 lr ->
  ∃m,yJ ts x E=B1 m/\W AP ⟨B1 L,f⟩ pa B4 (Ww AP ⟨B1 L,f⟩ pb L lr lb (Qi (P (i+1)) h L lb W' H1)) m [] H1)
 (F:∀d W' H',H.au<=d->d<H'.au->H'.get d=B1 (.deferred (B1 []))->Fr (λ b=>a b\/O b) H H'->(∀b,W' b->b<H'.au/\(a b\/H.au<=b)/\b≠d)->P xs.length W' H'->Q .normal E (.jC d::D) H')
 (z:∀e d W' H',gP e->H.au<=d->d<H'.au->H'.get d=B1 (.deferred (B1 []))->Fr (λ b=>a b\/O b) H H'->(∀b,W' b->b<H'.au/\(a b\/H.au<=b)/\b≠d)->h e W' H'->Q e E (.jC d::D) H') :
 iP AP ks ⟨B5,f⟩ k E D H Q (.fn (.func g) pre cap):=by
 intro tm up he;refine xm2 hf hk mX P h a hn U q R loc l hI ?_ (by grind) (by grind);intro L d i x hx T W' H1 V X s y p w;have⟨m,o,hw⟩:=c L i (.loop .ready B5 f k tm d) (.loop .busy B5 f k tm d) x hx T W' H1 V X s y p w;have⟨C,Y,r⟩:=XA he A o;refine⟨C,by grind,?_⟩;rw[mj]at hw;have:=W3.wp _ _ (qm _) (up:=B5) hw (by rw[ha.1];exact r);rw[ha.2]at this;refine pW this λ e dp⟨B,K,n,G⟩=>?_;cases e with
 |normal =>
  have⟨hg,j⟩:=G;refine⟨rfl,hg,?_⟩;rw[mj]at j;have:=W3.wp _ _ (qm _) (up:=B5) j (show gw pb.1.ah K dp.tm by rw[hb.1,<-ha.1];exact n);rw[hb.2]at this;rw[B];refine pW this λ e2 st2⟨J,E2,S,Z,u,M,k1,k2,k3⟩=>⟨Z,u,M,k1,k2,k3⟩
 |_=>exact G.elim
end
end Go.Am
namespace Go.Am
def O'{α:Type}{L E:List α}{p size:Nat}(b:E.length=size)(hp:p+size<=L.length)(h:∀r,r<size->L[p+r]? = E[r]?):L=L.take p++(E++L.drop (p+size)):=by
 have a:(L.drop p).take size=E:=by
  refine yj λ r=>?_
  grind
 grind [FU,yr]
def Dn{α:Type}{L E cs:List α}{p size j n:Nat}(d:E.length=size)(f:cs.length=n)(g:j+n<=size)(hp:p+size<=L.length)(h:∀r,r<size->L[p+r]? = E[r]?) :
 L.take (p+j)++cs++L.drop (p+j+n)=L.take p++((E.take j++cs++E.drop (j+n))++L.drop (p+size)):=by
 obtain⟨A,a⟩:∃A,A=L.take p:=⟨_,rfl⟩
 obtain⟨B,b⟩:∃B,B=L.drop (p+size):=⟨_,rfl⟩
 have hl:A.length=p:=by grind
 have c:=O' d hp h;rw[<-a,<-b]at c;rw[<-a,<-b];have e1:L.take (p+j)=A++E.take j:=by
  grind
 have e2:L.drop (p+j+n)=E.drop (j+n)++B:=by
  rw[c,Ij,hl,jh (by omega),jo,show p+j+n-p=j+n by omega,List.drop_append_of_le_length (by omega)]
 grind
section
variable{α:Type}{enc:α->List AV}{size:Nat}{H:ar}{v:AV}{xs:List α}
theorem xn(hs:∀x,(enc x).length=size){i:Nat}{x y:α}(a:xs[i]? = B1 x){j n:Nat}{cs:List AV}(b:cs.length=n)(d:j+n<=size)(f:enc y=(enc x).take j++cs++(enc x).drop (j+n)) :
 (xs.flatMap enc).take (i*size+j)++cs++(xs.flatMap enc).drop (i*size+j+n)=(xs.set i y).flatMap enc:=by
 have c:=Jf a;have hb:(i+1)*size<=xs.length*size:=j8 _ c;rw[vi]at hb;have hl:=FZ hs xs;rw[Dn (E:=enc x) (size:=size) (hs x) b d (by omega) (by grind [J0]),<-f,TP hs xs a]
 grind
def gW.zV{e:Nat}(hs:∀x,(enc x).length=size)(h:gW enc e size H v xs){i:Nat}{x y:α}(k:xs[i]? = B1 x){j n:Nat}{u:AV}(hu:u.cells.length=n)(ho:aL u.cells=B4)(l:j+n<=size)(m:enc y=(enc x).take j++u.cells++(enc x).drop (j+n)) :
 ∃H',Op.store n [.ptr (aE v) (cK size v i+j),u] H=B1 (.undef,H')/\gW enc e size H' v (xs.set i y)/\Fr (On (aE v)) H H':=by
 obtain⟨b,rfl,d,f⟩:=h;have g:=Jf k;have hl:=FZ hs xs;have hb:(i+1)*size<=xs.length*size:=j8 _ g;rw[vi]at hb;have c:=xK f (o:=i*size+j) (n:=n) (v:=u) hu (by omega) ho;have a:cK size (AV.slice b 0 xs.length xs.length) i=i*size:=by simp[cK]
 rw[a];refine⟨_,c,⟨b,?_,d,?_⟩,(Fr.refl H).set (W:=On b) (.inl rfl) _⟩
 .grind
 grind [xc,xn]
def aO.zV{e:Nat}(hs:∀x,(enc x).length=size)(h:aO enc e size H v xs){i:Nat}{x y:α}(k:xs[i]? = B1 x){j n:Nat}{u:AV}(hu:u.cells.length=n)(ho:aL u.cells=B4)(l:j+n<=size)(m:enc y=(enc x).take j++u.cells++(enc x).drop (j+n)) :
 ∃H',Op.store n [.ptr (aE v) (cK size v i+j),u] H=B1 (.undef,H')/\aO enc e size H' v (xs.set i y)/\Fr (aM v) H H':=by
 obtain⟨hl,h|⟨b,rfl,d,f⟩⟩:=h
 .grind
 .have g:=Jf k;have hb:(i+1)*size<=xs.length*size:=j8 _ g;rw[vi]at hb;have c:=Yl f (o:=i*size+j) (n:=n) (v:=u) hu (by omega) ho;have a:cK size (AV.gslice b 0 xs.length size 0 xs.length) i=i*size:=by simp[cK]
  rw[a];refine⟨_,c,⟨?_,.inr ⟨b,?_,d,?_⟩⟩,(Fr.refl H).set (.inl ⟨by simp,rfl⟩) _⟩
  .rw [FZ hs]
  .grind
  grind [xc,xn]
def aO.Kc{e:Nat}(hs:∀x,(enc x).length=size)(ho:∀x,aL (enc x)=B4)(h:aO enc e size H v xs){i:Nat}{x:α}(a:xs[i]? = B1 x)(y:α) :
 ∃H',Op.store size [.ptr (aE v) (cK size v i),.agg (enc y)] H=B1 (.undef,H')/\aO enc e size H' v (xs.set i y)/\Fr (aM v) H H':=by
 have:=h.zV hs a (y:=y) (j:=0) (n:=size) (u:=.agg (enc y)) (by grind [zo]) (by grind [zo]) (by omega) (by
  rw[zo,yf,jo,jh (by rw[hs];omega),zp])
 omega
def gW.Kc{e:Nat}(hs:∀x,(enc x).length=size)(ho:∀x,aL (enc x)=B4)(h:gW enc e size H v xs){i:Nat}{x:α}(a:xs[i]? = B1 x)(y:α) :
 ∃H',Op.store size [.ptr (aE v) (cK size v i),.agg (enc y)] H=B1 (.undef,H')/\gW enc e size H' v (xs.set i y)/\Fr (On (aE v)) H H':=by
 have:=h.zV hs a (y:=y) (j:=0) (n:=size) (u:=.agg (enc y)) (by grind [zo]) (by grind [zo]) (by omega) (by
  rw[zo,yf,jo,jh (by rw[hs];omega),zp])
 omega
end
end Go.Am
namespace Go.Am
open Go.Proofs Ca
variable{M:ak}[MK M]
abbrev uW(x:Int):AV:=.int .u64 x
def az(e:En):List AV:=.int .i64 e.line::.int .i64 e.st::.bool e.r::.bool e.w::(e.d.l.map uW++(e.o.l.map uW ++ [.int .i64 e.u]))
theorem zw(e:En):(az e).length=21:=by simp[az,e.d.h,e.o.h]
def ud(e:En):aL (az e)=true:=by
 rw[vd];unfold az;simp[aD]
def M5{H:ar}{s e:Nat}{a:AV}(h:H.get s=B1 (OR [a] e)){u:AV}(hu:aD u=B4):Op.store 1 [.ptr s 0,u] H=B1 (.undef,H.set s (OR [u] e)):=by
 have d:u.cells=[u]:=by cases u<;>first|rfl|cases hu
 have:=xK h (o:=0) (n:=1) (v:=u) (by rw[d];rfl) (by simp) (by rw[d,vd];simpa using hu);rw[this,d];rfl
def Jm(b:ai)(Q:aG)(E:Env)(D:List aN)(H:ar):kM b Q .normal E D H=Q .normal E D H:=rfl
def vF(b:ai)(Q:aG)(E:Env)(D:List aN)(H:ar):kM b Q .ret E D H=Q .ret E D H:=rfl
def FJ(c:Ca)(sv:AV):List AV:=[.int .i64 (c.fT:Int),.int .i64 (c.ways:Int),sv,.int .i64 c.us]
abbrev eA(sv:AV)(i:Nat):AV:=.ptr (aE sv) (cK 21 sv i)
structure eC(H:ar)(b:Nat)(sv:AV)(c:Ca):Prop where
 row:H.get b=B1 (OR (FJ c sv) YK)
 lt:b<H.au
 sl:gW az xk 21 H sv c.sl
 ne:aE sv≠b
 s8:c.fT<=8
 w4:c.ways<=4
 us:0<=c.us/\c.us<=1000000
def eC.em{H H':ar}{b:Nat}{sv:AV}{c:Ca}(h:eC H b sv c)(f:Fr Em H H'):eC H' b sv c:=⟨by rw[f.ah _ h.lt id];exact h.row,qn h.lt f.au,h.sl.fr f id,h.ne,h.s8,h.w4,h.us⟩
def eC.fr{H H':ar}{W:Nat->Prop}{b:Nat}{sv:AV}{c:Ca}(h:eC H b sv c)(f:Fr W H H')(a:¬W b)(d:¬W (aE sv)):eC H' b sv c:=⟨by rw[f.ah _ h.lt a];exact h.row,qn h.lt f.au,h.sl.fr f d,h.ne,h.s8,h.w4,h.us⟩
def eC.ix{H:ar}{b:Nat}{sv:AV}{c:Ca}(h:eC H b sv c){i:Nat}(a:i<c.sl.length):Op.aR 21 [sv,.int .i64 (i:Int)]=B1 (eA sv i):=(h.sl.sl zw).idx (Fp a) rfl .i64
def eC.ld{H:ar}{b:Nat}{sv:AV}{c:Ca}(h:eC H b sv c){i:Nat}(a:i<c.sl.length){k:Nat}(hk:k<21):Op.ae [.ptr (aE sv) (cK 21 sv i+k)] H=(az (c.en i))[k]?:=(h.sl.sl zw).ae zw (Fp a) hk
def eC.yH{H:ar}{b:Nat}{sv:AV}{c:Ca}(h:eC H b sv c){i:Nat}(a:i<c.sl.length):Op.ae [.ptr (aE sv) (cK 21 sv i)] H=B1 (.int .i64 (c.en i).line):=(h.sl.sl zw).ig zw (Fp a) (by decide)
def yp(b o:Nat)(H:ar):Op.eq .ptr B2 [.ptr b o,.nilp] H=B1 (.bool B2):=rfl
def lJ(b o:Nat)(H:ar):Op.eq .ptr B4 [.ptr b o,.nilp] H=B1 (.bool B4):=rfl
def Pe(H:ar):Op.eq .ptr B2 [.nilp,.nilp] H=B1 (.bool B4):=rfl
def uo(H:ar):Op.eq .ptr B4 [.nilp,.nilp] H=B1 (.bool B2):=rfl
def I4(R:Nat->(Nat->Prop)->ar->Prop)(S:(Nat->Prop)->ar->Prop)(W0 O:Nat->Prop)(H:ar)(n:Nat)(v:AV)(H':ar):Prop:=∃W':Nat->Prop,Fr (λ b=>W0 b\/O b) H H'/\(∀b,W' b->b<H'.au/\(W0 b\/H.au<=b))/\(R n W' H'\/S W' H')
def pY(c:Ca)(sv:AV)(line:Int):List (List AV):=if line<0 then[]else(MX c.ways).map λ k=>[eA sv (c.fr line+k)]
structure LH(R:Nat->(Nat->Prop)->ar->Prop)(W0:Nat->Prop)(H1 Hx:ar)(i:Nat)(V:Nat->Prop):Prop where
 hR:R i V Hx
 hV:∀b,V b->b<Hx.au/\(W0 b\/H1.au<=b)
 fr:Fr W0 H1 Hx
def m0{H0:ar}{p q b:Nat}{sv:AV}{c:Ca}{lines line:Int}(o:eC H0 b sv c)(e:CI lines c)(hp:H0.get p=B1 (OR [.ptr b 0] C6))(hq:H0.get q=B1 (OR [.int .i64 line] cH))(hpl:p<H0.au)(hql:q<H0.au) :
 qQ M Qc [] [.ptr p 0,.ptr q 0] (λ x=>x=p\/x=q\/x=b) (λ _=>False) H0 (pY c sv line):=by
 intro Y R S d H1 hnx y z U loc K step;have⟨p1,p2,p3⟩:=y p (.inl (.inl rfl));have⟨q1,N,O⟩:=y q (.inl (.inr (.inl rfl)));have⟨b1,P,Q⟩:=y b (.inl (.inr (.inr rfl)))
 suffices h:zb M Qc [.fn (.yield Y) [] [],.ptr p 0,.ptr q 0] H1 (I4 R S d (λ _=>False) H1 (pY c sv line).length)by
  have⟨v,H',o,W',q1,N,O⟩:=h.elim
  grind
 refine q0e ?_;obtain⟨w0,w6,s,D,F⟩:=q0f M ⟨B5,Qc⟩;have lp:∀{a:ar},Fr d H1 a->Op.ae [.ptr p 0] a=B1 (.ptr b 0):=λ f=>by rw[x9 (xb (by rw[f.ah _ (by omega) p3,p2];exact hp))];rfl
 have L:∀{a:ar},Fr d H1 a->Op.ae [.ptr q 0] a=B1 (.int .i64 line):=λ f=>by rw[x9 (xb (by rw[f.ah _ (by omega) O,N];exact hq))];rfl
 have lb:∀{a:ar}(k:Nat),Fr d H1 a->Op.ae [.ptr b k] a=(FJ c sv)[k]?:=λ k f=>x9 (xb (by rw[f.ah _ (by omega) Q,P];exact o.row)) k;have g:=Fr.refl (W:=d) H1
 by_cases hl:line<0
 .simp only[aa,bc,w0,lp g,yp,L g,hl];exact⟨d,Fr.refl _,λ b hb=>(by grind),(by simp_all[pY])⟩
 have C:(pY c sv line)=(MX c.ways).map λ k=>[eA sv (c.fr line+k)]:=by simp_all[pY,qy]
 rw[C]at step⊢;rw[xu,jj];have l0:Op.ae [.ptr b 0] H1=B1 (.int .i64 (c.fT:Int)):=lb 0 g;have l1:Op.ae [.ptr b 1] H1=B1 (.int .i64 (c.ways:Int)):=lb 1 g;have rm:Op.bin .rem [.int .i64 line,.int .i64 (c.fT:Int)]=B1 (.int .i64 ((line.toNat % c.fT:Nat):Int)):=by
  have:=e.s0
  grind [uI]
 have J:line.toNat % c.fT<c.fT:=Nat.mod_lt _ e.s0;have h8:=o.s8;have T:=o.w4;have A:(line.toNat % c.fT)*c.ways<=7*4:=Nat.mul_le_mul (by omega) T;have wm:aj .i64 (((line.toNat % c.fT:Nat):Int)*(c.ways:Int))=((c.fr line:Nat):Int):=by
  rw[<-Int.natCast_mul];exact jc (by omega) (by omega)
 have I:c.fr line<=28:=A;simp only[aa,bc,w0,lp g,yp,qo,L g,hl,w6,l0,l1,rm,wm];refine cu.intro (λ n E a=>∃(i:Nat)(V:Nat->Prop),E=[(27,.int .i64 (i:Int)),(26,.int .i64 (c.ways:Int)),(4,.int .i64 ((c.fr line:Nat):Int)),(0,.fn (.yield Y) [] []),(1,.ptr p 0)]/\n=c.ways-i/\i<=c.ways/\LH R d H1 a i V) ?_ ?_
 .exact ⟨_,_,⟨0,d,rfl,rfl,xw _,⟨z,λ b hb=>(by grind),Fr.refl _⟩⟩,by simp only[aa,bc]⟩
 rintro n E a ⟨i,V,rfl,rfl,hi,hI⟩;rcases xz i c.ways with r|Z
 .have u:(i:Int)<(c.ways:Int):=by omega
  have l2:Op.ae [.ptr b 2] a=B1 sv:=lb 2 hI.fr;have wi:aj .i64 (((c.fr line:Nat):Int)+(i:Int))=((c.fr line+i:Nat):Int):=by grind [jc]
  have ix:=o.ix (e.mM line r);have⟨bb,G,t,hr,X,m,ht,hs⟩:=step i [eA sv (c.fr line+i)] (by rw[xq,kj r];rfl) V a hI.hR hI.hV (hI.fr.mono λ _ _ q=>.inl q);have j:Fr d H1 G:=hI.fr.trans X λ b q=>(hI.hV b q).2;have l:∀b,t b->b<G.au/\(d b\/H1.au<=b):=λ b q=>⟨(m b q).1,(m b q).2.elim (λ w=>(hI.hV b w).2) λ w=>.inr (xx hI.fr.au w)⟩
  have wj:aj .i64 ((i:Int)+1)=((i+1:Nat):Int):=by rw[jc (by omega) (by omega)];omega
  simp only[aa,bc,s,u,D,lp hI.fr,qo,l2,wi,ix];refine C3.uZ hr ?_;cases bb with
  |true =>
   simp only[aa,bc,F,wj];exact⟨_,_,⟨i+1,t,rfl,rfl,by omega,⟨ht rfl,l,j⟩⟩,by simp only[aa,bc],by omega⟩
  |false =>
   simp only[aa,bc];exact⟨t,j.mono λ _ _ q=>.inl q,l,.inr (hs rfl)⟩
 .have u:¬(i:Int)<(c.ways:Int):=by omega
  have B:i=c.ways:=by omega
  simp only[aa,bc,s,u];exact⟨V,hI.fr.mono λ _ _ q=>.inl q,hI.hV,.inl (by rw[<-B];exact hI.hR)⟩
def xhk{H:ar}(b:Nat)(line:Int):zb M qsx [.ptr b 0,.int .i64 line] H λ v H'=>v=.fn (.func Qc) [] [.ptr H.au 0,.ptr (H.au+1) 0]/\H'=(H.alloc (OR [.ptr b 0] C6)).alloc (OR [.int .i64 line] cH):=by
 refine q7c ?_;obtain⟨H1,e1,-,n1,-⟩:=bZ H (OR [.ptr b 0] C6);simp_all[aa,q7d]
structure _7(c:Ca)(line:Int)(t:Nat)(i:Nat)(V:Nat->Prop)(Hx:ar):Prop where
 vt:V t
 g:Hx.get t=B1 (OR [.nilp] ya)
 lt:t<Hx.au
 no:∀k,k<i->c.mX line k=B2
structure AtS(c:Ca)(sv:AV)(line:Int)(t:Nat)(V:Nat->Prop)(Hx:ar):Prop where
 vt:V t
 ex:∃k,k<c.ways/\dL (c.mX line) c.ways=B1 k/\Hx.get t=B1 (OR [eA sv (c.fr line+k)] ya)
 lt:t<Hx.au
def wW(c:Ca)(sv:AV)(line:Int):AV:=match c.pos line with
 |none=>.nilp
 |some i=>eA sv i
def US{H:ar}{b:Nat}{sv:AV}{c:Ca}{lines line:Int}(Y:eC H b sv c)(p:CI lines c):zb M Nj [.ptr b 0,.int .i64 line] H λ v H'=>v=wW c sv line/\Fr Em H H':=by
 refine q91 ?_;have⟨w0,wa,wb,w2,w7⟩:=Q_ M ⟨B5,Nj⟩;obtain⟨H1,e1,f1,n1,-⟩:=bZ H (OR [.int .i64 line] cH);obtain⟨m,e2,D,-,-⟩:=bZ H1 (OR [.nilp] ya);have f2:Fr Em H m:=f1.trans D λ _ q=>q.elim;have n2:m.au=H.au+2:=by grind [xy]
 have T:m.get H.au=B1 (OR [.int .i64 line] cH):=by rw[D.ah _ (by omega) id,e1,xp]
 have g2:m.get (H.au+1)=B1 (OR [.nilp] ya):=by grind [xp]
 have cl:AV.cells (.int .i64 line)=[.int .i64 line]:=rfl;have l1:Op.ae [.ptr H.au 0] m=B1 (.int .i64 line):=x9 (xb T) 0;simp only[aa,bc,w0,cl,<-e1,<-e2,n1,w2,l1];refine C3.q (xhk b line) λ v H5⟨hv,hh⟩=>?_;obtain⟨H3,e3,Q,-,-⟩:=bZ m (OR [.ptr b 0] C6);obtain⟨C,e4,E,-,-⟩:=bZ H3 (OR [.int .i64 line] cH);rw[<-e3,<-e4]at hh;rw[hv,hh];have n:Fr Em m C:=Q.trans E λ _ q=>q.elim;have R:Fr Em H C:=f2.trans n λ _ q=>q.elim;have n3:H3.au=H.au+3:=by grind [xy]
 have n4:C.au=H.au+4:=by grind [xy]
 have g3:C.get m.au=B1 (OR [.ptr b 0] C6):=by rw[E.ah _ (by omega) id,e3,xp]
 have g4:C.get (m.au+1)=B1 (OR [.int .i64 line] cH):=by grind [xp]
 have F:=Y.em R;have hlt:=Y.lt;have hsb:aE sv<H.au:=Y.sl.lt;have kp:∀{j:ar},Fr (λ x=>(x=H.au+1)\/False) C j->eC j b sv c/\Op.ae [.ptr H.au 0] j=B1 (.int .i64 line):=λ f =>
  ⟨F.fr f (by grind) (by grind),x9 (xb (by rw[f.ah H.au (by omega) (by grind),n.ah _ (by omega) id];exact T)) 0⟩
 have res:∀{d:Nat}{j:ar}{x:AV},j.get (H.au+1)=B1 (OR [x] ya)->d≠H.au+1->Op.ae [.ptr (H.au+1) 0] (j.set d (.deferred B5))=B1 x:=λ g hd=>by
  rw[x9 (xb (by rw[yd hd];exact g))];rfl
 refine iP.iter (fn:=T7) (lp:=Qu) (pa:=Y9 0) (pb:=UQ 0) q7b qq9.1 qq9.2 (by decide) q41 q42
  (m0 F p g3 g4 (by omega) (by omega)) (λ i V j=>_7 c line (H.au+1) i V j) (λ e V j=>e=.ret/\AtS c sv line (H.au+1) V j) (λ x=>x=H.au+1) (qm _) ?_ ?_ ?_ ?_ ?_ ?_ ?_ ?_
 .grind
 .omega
 .exact ⟨rfl,by rw[n.ah _ (by omega) id];exact g2,by omega,λ k hk=>by omega⟩
 .exact λ i V Ha Hb h hs hn=>⟨h.vt,by rw[hs _ h.vt];exact h.g,qn h.lt hn,h.no⟩
 .rintro e V Ha Hb ⟨he,h⟩ hs hn;have⟨k,k1,O,k3⟩:=h.ex;exact⟨he,h.vt,⟨k,k1,O,by rw[hs _ h.vt];exact k3⟩,qn h.lt hn⟩
 .intro a i lr lb x N hL2 V l o hV G hnL hL6 hgL;unfold pY at N;split at N
  .grind
  rename_i hl;rw[xq,xr]at N;obtain⟨y,hy,rfl⟩:=N;have r:i<c.ways:=by grind
  rw[kj r]at hy;cases hy;refine⟨_,rfl,?_⟩;obtain⟨-,wa,wb,-⟩:=Q_ M ⟨B1 a,Nj⟩;simp only[aa,bc,wa,Ct];refine⟨hgL,?_⟩;have S:Fr (On a) l (l.set a lb):=(Fr.refl l).set (W:=On a) (.inl rfl) _;have gL:(l.set a lb).get a=B1 lb:=xc ..;have nL:(l.set a lb).au=l.au:=rfl;have⟨Z,lq6⟩:=kp G;have h7:eC (l.set a lb) b sv c:=Z.fr S (λ(q:b=a)=>by omega) (λ(q:aE sv=a)=>by omega);have K:Op.ae [.ptr H.au 0] (l.set a lb)=B1 (.int .i64 line):=by
   have hg:(l.set a lb).get H.au=l.get H.au:=by grind [yd]
   exact x9 (xb (by rw[hg,G.ah H.au (by omega) (by grind),n.ah _ (by omega) id];exact T)) 0
  have U:a≠H.au+1:=λ q=>(by omega)
  have J:(l.set a lb).get (H.au+1)=B1 (OR [.nilp] ya):=by rw[yd U];exact o.g
  generalize l.set a lb=H7 at *;have hi:=p.mM line r;obtain⟨e,he⟩:∃e,e=c.en (c.fr line+i):=⟨_,rfl⟩
  have l0:Op.ae [.ptr (aE sv) (cK 21 sv (c.fr line+i))] H7=B1 (.int .i64 e.line):=by rw[he];exact h7.yH hi
  have l1:Op.ae [.ptr (aE sv) (cK 21 sv (c.fr line+i)+1)] H7=B1 (.int .i64 e.st):=by rw[he];exact h7.ld hi (k:=1) (by decide)
  have s:c.mX line i=(e.st != 0 && e.line == line):=by rw[he];rfl
  have stay:c.mX line i=B2->Qi (λ V j=>_7 c line (H.au+1) (i+1) V j) (λ e V j=>e=.ret/\AtS c sv line (H.au+1) V j) a lb V l .normal [] [] H7:=λ hh =>
   ⟨rfl,gL,V,λ b hb=>(by grind),S.mono λ x _ q=>.inr q,.inl ⟨rfl,o.vt,J,by omega,λ k hk=>by
    by_cases q:k=i
    .grind
    .exact o.no k (by omega)⟩⟩
  by_cases L:e.st=0
  .simp only[aa,bc,wb,qo,l1,qv L];exact stay (by rw[s,L];rfl)
  by_cases B:e.line=line
  .have st:=M5 J (u:=eA sv (c.fr line+i)) rfl;simp only[aa,bc,wb,qo,l1,L,l0,K,qv B,st];refine⟨rfl,?_,V,?_,?_,.inr ⟨trivial,rfl,o.vt,⟨i,r,NS r (by grind) o.no,xc ..⟩,?_⟩⟩
   .simp_all [yd,rT]
   .exact λ b hb=>⟨by show b<H7.au;grind,.inl hb⟩
   .exact (S.mono λ x _ q=>.inr q).set (.inl (.inl o.vt)) _
   .show H.au+1<H7.au;omega
  .simp only[aa,bc,wb,qo,l1,L,l0,K,B];exact stay (by rw[s];simp[B])
 .intro d V P hd1 hd2 I z X o;have st:=M5 o.g (u:=.nilp) rfl;have w:d≠H.au+1:=λ q=>by omega
  have gd:(P.set (H.au+1) (OR [.nilp] ya)).get d=B1 (.deferred (B1 [])):=by simp_all[yd,rT]
  have rd:=res (d:=d) (xc P (H.au+1) (OR [.nilp] ya)) w;have t:c.pos line=none:=by
   unfold Ca.pos;split
   .rfl
   .rename_i hl;have A:=o.no;unfold pY at A;rw[qy hl,xu,jj]at A;rw[Nb A];rfl
  simp only[aa,bc,w7,st,I2,rd];refine⟨gd,?_,?_⟩
  .grind [wW]
  .exact (((R.trans (W':=λ x=>x=H.au+1\/False) z λ x q=>(by grind)).set (by omega) _).set (by omega) _)
 .rintro e d V P hj hd1 hd2 I z X ⟨he,hS⟩;subst he;have⟨k,k1,O,k3⟩:=hS.ex;have w:d≠H.au+1:=λ q=>by omega
  have rd:=res (d:=d) k3 w;have t:wW c sv line=eA sv (c.fr line+k):=by
   unfold wW Ca.pos
   by_cases hl:line<0
   .exfalso;obtain⟨L,B,-⟩:=MH O;unfold Ca.mX at B;simp only[zm,bne_iff_ne,ne_eq,beq_iff_eq]at B;have:=(p.ok _ (p.mM line k1) B.1).2.1;omega
   .rw [qy hl,O];rfl
  simp only[aa,bc,I2,rd];refine⟨I,t.symm,?_⟩;exact((R.trans (W':=λ x=>x=H.au+1\/False) z λ x q=>(by grind)).set (.inr (by omega)) _)
end Go.Am
namespace Go.Am
open Go.Proofs Ca
variable{M:ak}[MK M]
def fK{H:ar}{b e n:Nat}{l x:List AV}(h:H.get b=B1 (OR l e))(hl:l.length=n)(d:x.length=n)(a:aL x=B4):Op.store n [.ptr b 0,.agg x] H=B1 (.undef,H.set b (OR x e)):=by
 have st:=xK h (o:=0) (n:=n) (v:=.agg x) (by rw[zo];exact d) (by omega) (by rw[zo];exact a);rw[st,zo,yf,jo,jh (by omega),zp]
def eJ{H:ar}{b e n:Nat}{l:List AV}(h:H.get b=B1 (OR l e))(hl:l.length=n):Op.aq n [.ptr b 0] H=B1 (.agg l):=by
 rw[rS (xb h) (by omega),yw,za (by omega)]
def Eb(l:List AV):Op.build l [] []=B1 (.agg l):=rfl
def eZ:[AV.int .i64 0,.int .i64 0,.bool B2,.bool B2,.int .u64 0,.int .u64 0,.int .u64 0,.int .u64 0,.int .u64 0,.int .u64 0,.int .u64 0,.int .u64 0,.int .u64 0,.int .u64 0,.int .u64 0,.int .u64 0,.int .u64 0,.int .u64 0,.int .u64 0,.int .u64 0,.int .i64 0]=az .zero:=rfl
abbrev cD(d:L8):List AV:=d.l.map uW
theorem ye(d:L8):(cD d).length=8:=by simp[cD,d.h]
theorem ug(d:L8):aL (cD d)=true:=by simp_all[vd,aD]
def lZ:[AV.int .u64 0,.int .u64 0,.int .u64 0,.int .u64 0,.int .u64 0,.int .u64 0,.int .u64 0,.int .u64 0]=cD .zero:=rfl
def nE(b:Nat)(sv:AV):Nat->Prop:=λ x=>x=b\/x=aE sv
section
variable{H:ar}{b:Nat}{sv:AV}{c:Ca}{lines line:Int}
theorem eC.set(h:eC H b sv c){i:Nat}{e:En}{H':ar}(hs:gW az xk 21 H' sv (c.sl.set i e))(f:Fr (On (aE sv)) H H'):eC H' b sv (c.set i e) :=
 ⟨by rw[f.ah _ h.lt (λ q:b=aE sv=>h.ne q.symm)];exact h.row,qn h.lt f.au,hs,h.ne,h.s8,h.w4,h.us⟩
def eC.dp(h:eC H b sv c){i:Nat}(g:i<c.sl.length){j:Nat}(k:j<21){u:AV}(hu:aD u=B4){e:En}(he:az e=(az (c.en i)).set j u):∃H',Op.store 1 [.ptr (aE sv) (cK 21 sv i+j),u] H=B1 (.undef,H')/\eC H' b sv (c.set i e)/\Fr (On (aE sv)) H H':=by
 have⟨H',d,f,a⟩:=h.sl.zU zw (Fp g) k hu he;exact⟨H',d,h.set f a,a⟩
def eC.Tb(h:eC H b sv c){i:Nat}(g:i<c.sl.length){j n:Nat}{u:AV}(hu:u.cells.length=n)(ho:aL u.cells=B4)(k:j+n<=21){e:En}(he:az e=(az (c.en i)).take j++u.cells++(az (c.en i)).drop (j+n)):∃H',Op.store n [.ptr (aE sv) (cK 21 sv i+j),u] H=B1 (.undef,H')/\eC H' b sv (c.set i e)/\Fr (On (aE sv)) H H':=by
 have⟨H',d,f,a⟩:=h.sl.zV zw (Fp g) hu ho k he;exact⟨H',d,h.set f a,a⟩
def eC.FA(h:eC H b sv c){i:Nat}(g:i<c.sl.length)(e:En):∃H',Op.store 21 [.ptr (aE sv) (cK 21 sv i),.agg (az e)] H=B1 (.undef,H')/\eC H' b sv (c.set i e)/\Fr (On (aE sv)) H H':=by
 have⟨H',d,f,a⟩:=h.sl.Kc zw ud (Fp g) e;exact⟨H',d,h.set f a,a⟩
def eC.stU(h:eC H b sv c){u:Int}(hu:0<=u/\u<=1000000):∃H',Op.store 1 [.ptr b 3,.int .i64 u] H=B1 (.undef,H')/\eC H' b sv {c with us:=u}/\Fr (On b) H H':=by
 have st:=xK h.row (o:=3) (n:=1) (v:=.int .i64 u) rfl (by simp[FJ]) rfl;have e:(FJ c sv).take 3++(AV.int .i64 u).cells++(FJ c sv).drop (3+1)=FJ {c with us:=u} sv:=rfl;rw[e]at st;have f:Fr (On b) H (H.set b (OR (FJ {c with us:=u} sv) YK)):=(Fr.refl H).set (W:=On b) (.inl rfl) _;exact⟨_,st,⟨xc ..,h.lt,h.sl.fr f λ(q:aE sv=b)=>h.ne q,h.ne,h.s8,h.w4,hu⟩,f⟩
def eC.Uh(h:eC H b sv c)(k:Nat):Op.ae [.ptr b k] H=(FJ c sv)[k]?:=x9 (xb h.row) k
def eC.JC(h:eC H b sv c){i:Nat}(a:i<c.sl.length):Op.aq 21 [.ptr (aE sv) (cK 21 sv i)] H=B1 (.agg (az (c.en i))):=(h.sl.sl zw).aq zw (by decide) (Fp a)
def eC.cells(h:eC H b sv c){i:Nat}(a:i<c.sl.length){j n:Nat}(l:j+n<=21):Op.aq n [.ptr (aE sv) (cK 21 sv i+j)] H=B1 (.agg (((az (c.en i)).drop j).take n)):=by
 have⟨sb,e,k,d⟩:=h.sl;have hb:aE sv=sb:=by rw[e];rfl
 have ho:cK 21 sv i=i*21:=by grind [cK]
 have g:(i+1)*21<=c.sl.length*21:=j8 _ a;have hl:=FZ zw c.sl;rw[hb,ho,rS (xb d) (by omega)];have hm:=O' (L:=c.sl.flatMap az) (E:=az (c.en i)) (p:=i*21) (size:=21) (zw _) (by omega) (λ r hr=>J0 zw c.sl (Fp a) hr);have f:((c.sl.flatMap az).take (i*21)).length=i*21:=by grind
 have e1:(c.sl.flatMap az).drop (i*21+j)=(az (c.en i)).drop j++(c.sl.flatMap az).drop (i*21+21):=by
  conv=>lhs;rw[hm]
  rw[Ij,f,jh (by omega),jo,Oc,List.drop_append_of_le_length (by rw[zw];omega)]
 grind
def eC.O0(h:eC H b sv c){i:Nat}(a:i<c.sl.length):Op.aq 8 [.ptr (aE sv) (cK 21 sv i+4)] H=B1 (.agg (cD (c.en i).d)):=by
 rw[h.cells a (by decide)];have:((az (c.en i)).drop 4).take 8=cD (c.en i).d:=by
  show((cD (c.en i).d++(cD (c.en i).o ++ [AV.int .i64 (c.en i).u]))).take 8=_
  grind [ye]
 rw[this]
def eC.ldO(h:eC H b sv c){i:Nat}(a:i<c.sl.length):Op.aq 8 [.ptr (aE sv) (cK 21 sv i+12)] H=B1 (.agg (cD (c.en i).o)):=by
 rw[h.cells a (by decide)];have:((az (c.en i)).drop 12).take 8=cD (c.en i).o:=by
  have e:(az (c.en i)).drop 12=(cD (c.en i).d++(cD (c.en i).o ++ [AV.int .i64 (c.en i).u])).drop 8:=rfl
  grind [ye]
 rw[this]
def HN(c:Ca)(sv:AV)(line st:Int):AV:=match c.mg line st with
 |none=>.tuple [.nilp,.int .i64 20]
 |some i=>.tuple [eA sv i,.int .i64 0]
def MM(k:eC H b sv c)(e:CI lines c)(line st:Int):zb M YZ [.ptr b 0,.int .i64 line,.int .i64 st] H λ v H'=>v=HN c sv line st/\Fr Em H H':=by
 refine q92 ?_;obtain⟨w0,w2,h,a,f⟩:=q93 M ⟨B5,YZ⟩;simp only[aa,bc,w0,w2,yp,h];refine C3.q (US (line:=line) k e) λ v H1⟨m,d⟩=>?_;rw[m];unfold wW HN mg;cases hp:c.pos line with
 |none =>
  simp only[aa,bc,a,Pe];exact d
 |some i =>
  obtain⟨-,l,-⟩:=e.bD hp;have l1:Op.ae [.ptr (aE sv) (cK 21 sv i+1)] H1=B1 (.int .i64 (c.en i).st):=(k.em d).ld l (by decide)
  by_cases g:st=0
  .subst g;simp only[aa,bc,a,yp,f];exact d
  by_cases j:(c.en i).st=st
  .simp only[aa,bc,a,yp,g,qo,l1,qv j,f];exact d
  .simp only[aa,bc,a,yp,g,qo,l1,j];exact d
abbrev CaQ(H:ar)(b:Nat)(sv:AV)(c':Ca)(r:AV):AV->ar->Prop:=λ v H'=>v=r/\eC H' b sv c'/\Fr (nE b sv) H H'
def vX{H1 a:ar}(f:Fr (On (aE sv)) H1 a):Fr (nE b sv) H1 a:=f.mono λ _ _ q=>.inr q
def frB{H1 a:ar}(f:Fr (On b) H1 a):Fr (nE b sv) H1 a:=f.mono λ _ _ q=>.inl q
theorem si{H1 a:ar}(f:Fr Em H1 a):Fr (nE b sv) H1 a:=f.mono λ _ _ q=>q.elim
def wB{H1 a d:ar}(f:Fr (nE b sv) H1 a)(g:Fr (nE b sv) a d):Fr (nE b sv) H1 d:=f.trans g λ _ q=>.inl q
def Ye(a:eC H b sv c)(hu:c.us+1<=1000000){i:Nat}(n:i<c.sl.length):zb M qsy [.ptr b 0,eA sv i] H λ _ H'=>eC H' b sv (c.use i)/\Fr (nE b sv) H H':=by
 refine q7e ?_;have l3:Op.ae [.ptr b 3] H=B1 (.int .i64 c.us):=a.Uh 3;have:=a.us;have w1:aj .i64 (c.us+1)=c.us+1:=(by grind [jc])
 have⟨H1,s1,g,h⟩:=a.stU (u:=c.us+1) (by omega);have f:Op.ae [.ptr b 3] H1=B1 (.int .i64 (c.us+1)):=g.Uh 3;have⟨p,s2,l,k⟩:=g.dp n (j:=20) (by decide) (u:=.int .i64 (c.us+1)) rfl (e:={c.en i with u:=c.us+1}) (by
  show az {c.en i with u:=c.us+1} = (az (c.en i)).set 20 _;have⟨line,st,r,w,⟨d,m⟩,⟨o,ho⟩,u⟩:=c.en i
  match d,m,o,ho with
  |[d0,d1,d2,d3,d4,d5,d6,d7],_,[o0,o1,o2,o3,o4,o5,o6,o7],_=>rfl)
 simp only[aa,bc,q7f,qo,l3,w1,s1,f,s2];exact⟨l,wB (frB h) (vX k)⟩
def oe(c:Ca)(line:Int):AV:=match c.find line with
 |none=>.tuple [.agg (az .zero),.bool B2]
 |some e=>.tuple [.agg (az e),.bool B4]
def P2(k:eC H b sv c)(d:CI lines c)(line:Int):zb M WA [.ptr b 0,.int .i64 line] H λ v H'=>v=oe c line/\Fr Em H H':=by
 refine q4v ?_;obtain⟨w0,w4,f⟩:=q4w M ⟨B5,WA⟩;have⟨H1,e1,g,n1,l⟩:=bZ H (OR (az .zero) xk);simp only[aa,bc,w0,eZ,<-e1];refine C3.q (US (line:=line) (k.em g) d) λ v e⟨n,h⟩=>?_;rw[n];have j:e.get H.au=B1 (OR (az .zero) xk):=by rw[h.ah _ (by omega) id];exact l
 have a:Fr Em H e:=g.trans h λ _ q=>q.elim;unfold wW oe Ca.find;cases hp:c.pos line with
 |none =>
  have st:=fK j (zw _) (zw .zero) (ud _);have ld:=eJ (xc e H.au (OR (az .zero) xk)) (zw _);simp only[aa,bc,w4,Pe,eZ,Eb,st,ld];exact⟨rfl,a.set (by omega) _⟩
 |some i =>
  obtain⟨-,m,-⟩:=d.bD hp;have le:=(k.em a).JC m;have st:=fK j (zw _) (zw (c.en i)) (ud _);have ld:=eJ (xc e H.au (OR (az (c.en i)) xk)) (zw _);simp only[aa,bc,w4,yp,f,qo,le,st,ld];exact⟨rfl,a.set (by omega) _⟩
end
end Go.Am
namespace Go.Am
open Go.Proofs Ca
variable{M:ak}[MK M]
def Q4(e:En)(k:Nat)(hk:k<8)(y:Int):az {e with d:=e.d.put k y} = (az e).set (4+k) (uW y):=by
 have⟨line,st,r,w,⟨d,a⟩,⟨o,ho⟩,u⟩:=e
 match d,a,o,ho with
 |[d0,d1,d2,d3,d4,d5,d6,d7],_,[o0,o1,o2,o3,o4,o5,o6,o7],_ =>
  rcases(show k=0\/k=1\/k=2\/k=3\/k=4\/k=5\/k=6\/k=7 by omega)with rfl|rfl|rfl|rfl|rfl|rfl|rfl|rfl<;>rfl
def Mv(e:En)(k:Nat)(hk:k<8):(az e)[4+k]? = B1 (uW (e.d.get k)):=by
 have⟨line,st,r,w,⟨d,a⟩,⟨o,ho⟩,u⟩:=e
 match d,a,o,ho with
 |[d0,d1,d2,d3,d4,d5,d6,d7],_,[o0,o1,o2,o3,o4,o5,o6,o7],_ =>
  rcases(show k=0\/k=1\/k=2\/k=3\/k=4\/k=5\/k=6\/k=7 by omega)with rfl|rfl|rfl|rfl|rfl|rfl|rfl|rfl<;>rfl
def JH(e:En)(x:L8):az {e with d:=x} = (az e).take 4++(AV.agg (cD x)).cells++(az e).drop (4+8):=by
 have⟨line,st,r,w,⟨d,a⟩,⟨o,ho⟩,u⟩:=e
 match d,a,o,ho with
 |[d0,d1,d2,d3,d4,d5,d6,d7],_,[o0,o1,o2,o3,o4,o5,o6,o7],_=>rfl
def Jt(e:En)(x:L8):az {e with o:=x} = (az e).take 12++(AV.agg (cD x)).cells++(az e).drop (12+8):=by
 have⟨line,st,r,w,⟨d,a⟩,⟨o,ho⟩,u⟩:=e
 match d,a,o,ho with
 |[d0,d1,d2,d3,d4,d5,d6,d7],_,[o0,o1,o2,o3,o4,o5,o6,o7],_ =>
  have⟨x,f⟩:=x
  match x,f with
  |[x0,x1,x2,x3,x4,x5,x6,x7],_=>rfl
section
variable{H:ar}{b:Nat}{sv:AV}{c:Ca}{lines line:Int}
def Ak{a:Nat}(h:a<1000000):Op.bin .quo [.int .i64 (a:Int),.int .i64 8]=B1 (.int .i64 ((a / 8:Nat):Int)):=by
 grind [Pn,jc]
def KM{a:Nat}(h:a<1000000):Op.bin .rem [.int .i64 (a:Int),.int .i64 8]=B1 (.int .i64 ((a % 8:Nat):Int)):=OJ (by decide)
def Z0(i k:Nat)(hk:k<8):Op.aV 8 1 [.ptr (aE sv) (cK 21 sv i+4),.int .i64 (k:Int)]=B1 (.ptr (aE sv) (cK 21 sv i+(4+k))):=by
 have:=QJ (len:=8) (size:=1) (b:=aE sv) (o:=cK 21 sv i+4) (k:=.i64) (j:=(k:Int)) (i:=k) rfl hk
 grind
theorem KP{i:Nat}(a:i<c.sl.length)(e:En):(c.set i e).en i=e:=by rw[BP a,xg rfl]
def SV(c:Ca)(i:Nat)(e e':En):(c.set i e).set i e'=c.set i e':=by grind [Ca.set,List.set_set]
theorem Dj{i:Nat}(a:i<c.sl.length):(c.use i).en i = {c.en i with u:=c.us+1}:=by
 show(c.set i {c.en i with u:=c.us+1}).en i=_;exact KP a _
def zB(c:Ca)(a:Nat):AV:=match c.pos ((a / 8:Nat):Int)with
 |none=>.tuple [.int .u64 0,.int .i64 20]
 |some i=>.tuple [.int .u64 ((c.en i).d.get (a % 8)),.int .i64 0]
def xd2(n:eC H b sv c)(e:CI lines c)(hu:c.us+1<=1000000){a:Nat}(ha:a<1000000):zb M YE [.ptr b 0,.int .i64 (a:Int)] H (CaQ H b sv (c.word a).1 (zB c a)):=by
 refine q4z ?_;obtain⟨w0,w2,j,f,k⟩:=q40 M ⟨B5,YE⟩;have n0:¬(a:Int)<0:=by omega
 have hk:a % 8<8:=Nat.mod_lt _ (by decide);simp only[aa,bc,w0,w2,lJ,n0,j,Ak ha];refine C3.q (MM n e ((a / 8:Nat):Int) 0) λ v H1⟨t,l⟩=>?_;rw[t];have s:=n.em l;unfold HN zB Ca.word;rw[sX];cases hp:c.pos ((a / 8:Nat):Int)with
 |none =>
  have h:¬(20:Int)=0:=by decide
  simp only[aa,bc,xj,f,h]
  grind [si]
 |some i =>
  obtain⟨-,o,-⟩:=e.bD hp;have u:=qv (show(0:Int)=0 from rfl);simp only[aa,bc,xj,f,k];refine C3.q (Ye s hu o) λ _ p⟨m,r⟩=>?_;have g:i<(c.use i).sl.length:=by show i<(c.sl.set i _).length;grind
  have ld:Op.ae [.ptr (aE sv) (cK 21 sv i+(4+a % 8))] p=B1 (uW ((c.en i).d.get (a % 8))):=by
   rw[m.ld g (by omega),Dj o,Mv _ _ hk]
  simp only[aa,bc,KM ha,qo,Z0 i (a % 8) hk,ld];exact⟨rfl,m,wB (si l) r⟩
def O6(c:Ca)(a:Nat):AV:=match c.mg ((a / 8:Nat):Int) 2 with
 |none=>.int .i64 20
 |some _=>.int .i64 0
def xhe(p:eC H b sv c)(f:CI lines c)(hu:c.us+1<=1000000){a:Nat}(ha:a<1000000)(y:Int):zb M YO [.ptr b 0,.int .i64 (a:Int),.int .u64 y] H (CaQ H b sv (c.put a y) (O6 c a)):=by
 refine q69 ?_;obtain⟨w0,w2,l,g,m⟩:=q7a M ⟨B5,YO⟩;have n0:¬(a:Int)<0:=by omega
 have hk:a % 8<8:=Nat.mod_lt _ (by decide);simp only[aa,bc,w0,w2,lJ,n0,l,Ak ha];refine C3.q (MM p f ((a / 8:Nat):Int) 2) λ v H1⟨z,n⟩=>?_;rw[z];have t:=p.em n;unfold HN O6 Ca.put;cases hp:c.mg ((a / 8:Nat):Int) 2 with
 |none =>
  have k:¬(20:Int)=0:=by decide
  simp only[aa,bc,xj,g,k]
  grind [si]
 |some i =>
  obtain⟨-,x,-⟩:=f.bD (yQ hp).1;have D:=qv (show(0:Int)=0 from rfl);simp only[aa,bc,xj,g,m];refine C3.q (Ye t hu x) λ _ B⟨w,r⟩=>?_;have h:i<(c.use i).sl.length:=by show i<(c.sl.set i _).length;grind
  have⟨C,A,o,s⟩:=w.dp h (j:=4+a % 8) (by omega) (u:=.int .u64 y) rfl (e:={(c.use i).en i with d:=((c.use i).en i).d.put (a % 8) y}) (Q4 _ _ hk y);have e:(c.use i).set i {(c.use i).en i with d:=((c.use i).en i).d.put (a % 8) y} = {c with us:=c.us+1,sl:=c.sl.set i {c.en i with u:=c.us+1,d:=(c.en i).d.put (a % 8) y}}:=by
   grind [Dj,Ca.use,Ca.set,List.set_set]
  rw[e]at o;simp only[aa,bc,KM ha,qo,Z0 i (a % 8) hk,A];exact⟨rfl,o,wB (wB (si n) r) (vX s)⟩
def L_(s:eC H b sv c)(a:CI lines c)(line:Int)(wr:Bool):zb M VC [.ptr b 0,.int .i64 line,.bool wr] H λ _ H'=>eC H' b sv (c.mark line wr)/\Fr (nE b sv) H H':=by
 refine q4x ?_;obtain⟨w0,w2,B,D,f,p,g⟩:=q4y M ⟨B5,VC⟩;have m:¬(20:Int)=0:=by decide
 have J:=qv (show(0:Int)=0 from rfl);cases wr with
 |false =>
  simp only[aa,bc,w0,w2];refine C3.q (MM s a line 0) λ v H1⟨z,k⟩=>?_;rw[z];have l:=s.em k;unfold HN Ca.mark;rw[qy (by decide)];cases hp:c.mg line 0 with
  |none =>
   simp only[aa,bc,xj,D,m,p]
   grind [si]
  |some i =>
   obtain⟨-,h,-⟩:=a.bD (yQ hp).1;have⟨E,A,x,t⟩:=l.dp h (j:=2) (by decide) (u:=.bool B4) rfl (e:={c.en i with r:=B4}) rfl;simp only[aa,bc,xj,D,qo,A,p];exact⟨x,wB (si k) (vX t)⟩
 |true =>
  simp only[aa,bc,w0,w2,B];refine C3.q (MM s a line 2) λ v H1⟨z,k⟩=>?_;rw[z];have l:=s.em k;unfold HN Ca.mark;rw[xg rfl];cases hp:c.mg line 2 with
  |none =>
   simp only[aa,bc,xj,f,m,g]
   grind [si]
  |some i =>
   obtain⟨-,h,-⟩:=a.bD (yQ hp).1;have l3:Op.ae [.ptr (aE sv) (cK 21 sv i+3)] H1=B1 (.bool (c.en i).w):=l.ld h (by decide);dsimp only;cases hw:(c.en i).w with
   |true =>
    rw[xg rfl];rw[hw]at l3;simp only[aa,bc,xj,f,qo,l3,g]
    grind [si]
   |false =>
    rw[qy (by decide)];rw[hw]at l3;have⟨E,A,x,t⟩:=l.dp h (j:=3) (by decide) (u:=.bool B4) rfl (e:={c.en i with w:=B4}) rfl;have y:i<(c.set i {c.en i with w:=B4}).sl.length:=by show i<(c.sl.set i _).length;grind
    have⟨I,G,C,F⟩:=x.Tb y (j:=12) (n:=8) (u:=.agg (cD (c.en i).d)) (by grind [zo,ye]) (by grind [zo,ug]) (by decide) (e:={(c.set i {c.en i with w:=B4}).en i with o:=(c.en i).d}) (Jt _ _);rw[KP h,SV]at C;simp only[aa,bc,xj,f,qo,l3,l.O0 h,A,G,g];exact⟨C,wB (wB (si k) (vX t)) (vX F)⟩
def tT(c:Ca)(line:Int):AV:=.tuple [.agg (cD (c.df line).2),match c.mg line 2 with|none=>.int .i64 20|some _=>.int .i64 0]
def xes(g:eC H b sv c)(h:CI lines c)(line:Int):zb M ZQ [.ptr b 0,.int .i64 line] H λ v H'=>v=tT c line/\eC H' b sv (c.df line).1/\Fr (nE b sv) H H':=by
 refine qxs ?_;obtain⟨w0,w4,o⟩:=qxt M ⟨B5,ZQ⟩;have n:¬(20:Int)=0:=by decide
 have E:=qv (show(0:Int)=0 from rfl);have⟨H1,e1,p,n1,x⟩:=bZ H (OR (cD .zero) z7);have A:=g.lt;have B:aE sv<H.au:=g.sl.lt;simp only[aa,bc,w0,lZ,<-e1];refine C3.q (MM (g.em p) h line 2) λ v k⟨C,l⟩=>?_;rw[C];have a:Fr Em H k:=p.trans l λ _ q=>q.elim;have z:=g.em a;have s:k.get H.au=B1 (OR (cD .zero) z7):=by rw[l.ah _ (by omega) id];exact x
 unfold HN tT Ca.df;cases hp:c.mg line 2 with
 |none =>
  have st:=fK s (ye _) (ye .zero) (ug _);have ld:=eJ (xc k H.au (OR (cD .zero) z7)) (ye _);have fs:Fr Em H (k.set H.au (OR (cD .zero) z7)):=a.set (by omega) _;simp only[aa,bc,xj,w4,n,lZ,Eb,st,ld];exact⟨g.em fs,si fs⟩
 |some i =>
  obtain⟨-,w,-⟩:=h.bD (yQ hp).1;have⟨f,D,t,r⟩:=z.dp w (j:=1) (by decide) (u:=.int .i64 1) rfl (e:={c.en i with st:=1}) rfl;have m:i<(c.set i {c.en i with st:=1}).sl.length:=by show i<(c.sl.set i _).length;grind
  have l3:=t.O0 m;rw[KP w]at l3;have n2:=l.au;have y:f.get H.au=B1 (OR (cD .zero) z7):=by rw[r.ah _ (by omega) (λ(q:H.au=aE sv)=>by omega)];exact s
  have st:=fK y (ye _) (ye (c.en i).d) (ug _);have ld:=eJ (xc f H.au (OR (cD (c.en i).d) z7)) (ye _);have fo:Fr (On H.au) f (f.set H.au (OR (cD (c.en i).d) z7)):=(Fr.refl f).set (W:=On H.au) (.inl rfl) _;simp only[aa,bc,xj,w4,o,qo,D,l3,st,ld];exact⟨t.fr fo (λ(q:b=H.au)=>by omega) (λ(q:aE sv=H.au)=>by omega),(wB (si a) (vX r)).set (.inr (qm _)) _⟩
def xda(h:eC H b sv c)(f:CI lines c)(line:Int)(x:L8):zb M UC [.ptr b 0,.int .i64 line,.agg (cD x)] H λ _ H'=>eC H' b sv (c.cZ line x)/\Fr (nE b sv) H H':=by
 refine qv2 ?_;obtain⟨w0,w4,g⟩:=qv3 M ⟨B5,UC⟩;have m:¬(20:Int)=0:=by decide
 have L:=qv (show(0:Int)=0 from rfl);have⟨H1,e1,p,n1,B⟩:=bZ H (OR (cD x) z7);have E:=h.lt;have F:aE sv<H.au:=h.sl.lt;simp only[aa,bc,w0,<-e1];refine C3.q (MM (h.em p) f line 1) λ v o⟨G,k⟩=>?_;rw[G];have a:Fr Em H o:=p.trans k λ _ q=>q.elim;have t:=h.em a;have s:o.get H.au=B1 (OR (cD x) z7):=by rw[k.ah _ (by omega) id];exact B
 unfold HN Ca.cZ;cases hp:c.mg line 1 with
 |none =>
  simp only[aa,bc,xj,w4,m,g];exact⟨t,si a⟩
 |some i =>
  obtain⟨-,y,-⟩:=f.bD (yQ hp).1;have⟨z,I,D,r⟩:=t.dp y (j:=1) (by decide) (u:=.int .i64 2) rfl (e:={c.en i with st:=2}) rfl;have l:i<(c.set i {c.en i with st:=2}).sl.length:=by show i<(c.sl.set i _).length;grind
  have⟨K,J,w,A⟩:=D.Tb l (j:=4) (n:=8) (u:=.agg (cD x)) (by grind [zo,ye]) (by grind [zo,ug]) (by decide) (e:={(c.set i {c.en i with st:=2}).en i with d:=x}) (JH _ _);rw[KP y,SV]at w;have n2:=k.au;have C:z.get H.au=B1 (OR (cD x) z7):=by rw[r.ah _ (by omega) (λ(q:H.au=aE sv)=>by omega)];exact s
  simp only[aa,bc,xj,w4,qo,eJ s (ye x),I,eJ C (ye x),J,g];exact⟨w,wB (wB (si a) (vX r)) (vX A)⟩
def zF(c:Ca)(line:Int):AV:=.tuple [.agg (az (c.drop line).2),match c.mg line 0 with|none=>.int .i64 20|some _=>.int .i64 0]
def X6(h:eC H b sv c)(j:CI lines c)(line:Int):zb M U3 [.ptr b 0,.int .i64 line] H λ v H'=>v=zF c line/\eC H' b sv (c.drop line).1/\Fr (nE b sv) H H':=by
 refine q4r ?_;obtain⟨w0,w4,s⟩:=q4s M ⟨B5,U3⟩;have r:¬(20:Int)=0:=by decide
 have Q:=qv (show(0:Int)=0 from rfl);have⟨H1,e1,u,n1,C⟩:=bZ H (OR (az .zero) xk);have I:=h.lt;have J:aE sv<H.au:=h.sl.lt;simp only[aa,bc,w0,eZ,<-e1];refine C3.q (MM (h.em u) j line 0) λ v a⟨K,l⟩=>?_;rw[K];have d:Fr Em H a:=u.trans l λ _ q=>q.elim;have y:=h.em d;have n2:=l.au;have w:a.get H.au=B1 (OR (az .zero) xk):=by rw[l.ah _ (by omega) id];exact C
 unfold HN zF Ca.drop;cases hp:c.mg line 0 with
 |none =>
  have st:=fK w (zw _) (zw .zero) (ud _);have ld:=eJ (xc a H.au (OR (az .zero) xk)) (zw _);have fs:Fr Em H (a.set H.au (OR (az .zero) xk)):=d.set (by omega) _;simp only[aa,bc,xj,w4,r,eZ,Eb,st,ld];exact⟨h.em fs,si fs⟩
 |some i =>
  obtain⟨-,z,-⟩:=j.bD (yQ hp).1;have⟨f,B,m,P,D⟩:=bZ a (OR (az .zero) xk);have A:=fK D (zw _) (zw (c.en i)) (ud _);obtain⟨t,g⟩:∃X,X=f.set a.au (OR (az (c.en i)) xk):=⟨_,rfl⟩
  rw[<-g]at A;have n:Fr (On a.au) f t:=by rw[g];exact(Fr.refl f).set (W:=On a.au) (.inl rfl) _
  have F:=(y.em m).fr n (λ(q:b=a.au)=>by omega) (λ(q:aE sv=a.au)=>by omega);have⟨e,N,G,o⟩:=F.FA z .zero;have E:e.get a.au=B1 (OR (az (c.en i)) xk):=by rw[o.ah _ (by rw[g];show a.au<f.au;omega) (λ(q:a.au=aE sv)=>by omega),g,xc]
  have L:=eJ E (zw (c.en i));have p:e.get H.au=B1 (OR (az .zero) xk):=by rw[o.ah _ (by rw[g];show H.au<f.au;omega) (λ(q:H.au=aE sv)=>by omega),n.ah _ (by omega) (λ(q:H.au=a.au)=>by omega),m.ah _ (by omega) id];exact w
  have O:=fK p (zw _) (zw (c.en i)) (ud _);have ld:=eJ (xc e H.au (OR (az (c.en i)) xk)) (zw _);have fo:Fr (On H.au) e (e.set H.au (OR (az (c.en i)) xk)):=(Fr.refl e).set (W:=On H.au) (.inl rfl) _;have k:Fr (nE b sv) H t:=(wB (si d) (si m)).trans n λ x(q:x=a.au)=>.inr (by omega);simp only[aa,bc,xj,w4,s,qo,y.JC z,eZ,<-B,A,Eb,N,L,O,ld];exact⟨G.fr fo (λ(q:b=H.au)=>by omega) (λ(q:aE sv=H.au)=>by omega),(wB k (vX o)).set (.inr (qm _)) _⟩
end
end Go.Am
namespace Go.Am
open Go.Proofs Ca
variable{M:ak}[MK M]
def pU(sv:AV)(o:Option Nat):AV:=match o with
 |none=>.nilp
 |some i=>eA sv i
def ah3(sv:AV)(o:Option Nat):aD (pU sv o)=true:=by cases o<;>rfl
def ES{a:ar}{t d e:Nat}{x:AV}{o:bE}(g:a.get t=B1 (OR [x] e))(h:d≠t):Op.ae [.ptr t 0] (a.set d o)=B1 x:=by
 have f:(a.set d o).get t=B1 (OR [x] e):=by grind [yd]
 exact x9 (xb f) 0
structure XJ(c:Ca)(sv:AV)(line:Int)(t u:Nat)(i:Nat)(V:Nat->Prop)(Hx:ar):Prop where
 vt:V t
 vu:V u
 g:Hx.get t=B1 (OR [.nilp] ya)
 gu:Hx.get u=B1 (OR [pU sv ((c.iO line i).map (c.fr line + ·))] ya)
 lt:t<Hx.au
 ltu:u<Hx.au
 no:∀k,k<i->c.free line k=B2
structure Zz(c:Ca)(sv:AV)(line:Int)(t:Nat)(V:Nat->Prop)(Hx:ar):Prop where
 vt:V t
 ex:∃k,k<c.ways/\dL (c.free line) c.ways=B1 k/\Hx.get t=B1 (OR [eA sv (c.fr line+k)] ya)
 lt:t<Hx.au
section
variable{H:ar}{b:Nat}{sv:AV}{c:Ca}{lines line:Int}
def xm4(hc:eC H b sv c)(J:CI lines c)(hl:0<=line):zb M NZ [.ptr b 0,.int .i64 line] H λ v H'=>v=pU sv (c.room line)/\Fr Em H H':=by
 refine q45 ?_;have⟨w0,wa,wb,w2,s,w3,n,w5,w7,w12⟩:=FX M ⟨B5,NZ⟩;obtain⟨H1,e1,f1,n1,-⟩:=bZ H (OR [.nilp] ya);obtain⟨D,e2,P,-,-⟩:=bZ H1 (OR [.nilp] ya);have f2:Fr Em H D:=f1.trans P λ _ q=>q.elim;have n2:D.au=H.au+2:=by grind [xy]
 have g1:D.get H.au=B1 (OR [.nilp] ya):=by rw[P.ah _ (by omega) id,e1,xp]
 have g2:D.get (H.au+1)=B1 (OR [.nilp] ya):=by rw[e2,<-n1,xp]
 simp only[aa,bc,w0,<-e1,w2,w3,<-e2,n1,w5,w7];refine C3.q (xhk b line) λ v H5⟨hv,hh⟩=>?_;obtain⟨H3,e3,f23,-,-⟩:=bZ D (OR [.ptr b 0] C6);obtain⟨N,e4,Q,-,-⟩:=bZ H3 (OR [.int .i64 line] cH);rw[<-e3,<-e4]at hh;rw[hv,hh];have I:Fr Em D N:=f23.trans Q λ _ q=>q.elim;have f4:Fr Em H N:=f2.trans I λ _ q=>q.elim;have n3:H3.au=H.au+3:=by grind [xy]
 have n4:N.au=H.au+4:=by grind [xy]
 have g3:N.get D.au=B1 (OR [.ptr b 0] C6):=by rw[Q.ah _ (by omega) id,e3,xp]
 have g4:N.get (D.au+1)=B1 (OR [.int .i64 line] cH):=by grind [xp]
 have T:=hc.em f4;have hlt:=hc.lt;have hsb:aE sv<H.au:=hc.sl.lt;have E:pY c sv line=(MX c.ways).map λ k=>[eA sv (c.fr line+k)]:=by simp_all[pY,qy]
 refine iP.iter (fn:=SB) (lp:=QV) (pa:=Y3 0) (pb:=Xo 0) q0d qnr.1 qnr.2 (by decide) qxw qxx
  (m0 T J g3 g4 (by omega) (by omega)) (λ i V z=>XJ c sv line H.au (H.au+1) i V z) (λ e V z=>e=.ret/\Zz c sv line H.au V z) (λ x=>x=H.au\/x=H.au+1) (qm _) ?_ ?_ ?_ ?_ ?_ ?_ ?_ ?_
 .grind
 .omega
 .exact ⟨.inl rfl,.inr rfl,by rw[I.ah _ (by omega) id];exact g1,by rw[I.ah _ (by omega) id];exact g2,by omega,by omega,λ k hk=>by omega⟩
 .exact λ i V Ha Hb h hs hn=>⟨h.vt,h.vu,by rw[hs _ h.vt];exact h.g,by rw[hs _ h.vu];exact h.gu,qn h.lt hn,qn h.ltu hn,h.no⟩
 .rintro e V Ha Hb ⟨he,h⟩ hs hn;have⟨k,k1,k2,k3⟩:=h.ex;exact⟨he,h.vt,⟨k,k1,k2,by rw[hs _ h.vt];exact k3⟩,qn h.lt hn⟩
 .intro a i lr lb x hx hL2 V p l hV hf6 hnL hL6 hgL;rw[E,xq,xr]at hx;obtain⟨y,hy,rfl⟩:=hx;have C:i<c.ways:=by grind
  rw[kj C]at hy;cases hy;refine⟨_,rfl,?_⟩;obtain⟨-,wa,wb,-,s,-,n,-⟩:=FX M ⟨B1 a,NZ⟩;simp only[aa,bc,wa,Ct];refine⟨hgL,?_⟩;have fx:Fr (On a) p (p.set a lb):=(Fr.refl p).set (W:=On a) (.inl rfl) _;have gL:(p.set a lb).get a=B1 lb:=xc ..;have nL:(p.set a lb).au=p.au:=rfl;have hc6:eC p b sv c:=T.fr hf6 (by grind) (by grind);have h7:eC (p.set a lb) b sv c:=hc6.fr fx (λ(q:b=a)=>by omega) (λ(q:aE sv=a)=>by omega);have R:a≠H.au:=λ q=>(by omega)
  have S:a≠H.au+1:=λ q=>(by omega)
  have Y:(p.set a lb).get H.au=B1 (OR [.nilp] ya):=by rw[yd R];exact l.g
  have A:(p.set a lb).get (H.au+1)=B1 (OR [pU sv ((c.iO line i).map (c.fr line + ·))] ya):=by rw[yd S];exact l.gu
  generalize p.set a lb=H7 at *;have hi:=J.mM line C;obtain⟨e,he⟩:∃e,e=c.en (c.fr line+i):=⟨_,rfl⟩
  have l1:Op.ae [.ptr (aE sv) (cK 21 sv (c.fr line+i)+1)] H7=B1 (.int .i64 e.st):=by rw[he];exact h7.ld hi (k:=1) (by decide)
  have l2:Op.ae [.ptr (aE sv) (cK 21 sv (c.fr line+i)+2)] H7=B1 (.bool e.r):=by rw[he];exact h7.ld hi (k:=2) (by decide)
  have l3:Op.ae [.ptr (aE sv) (cK 21 sv (c.fr line+i)+3)] H7=B1 (.bool e.w):=by rw[he];exact h7.ld hi (k:=3) (by decide)
  have G:∀e:En,(az e)[20]? = B1 (.int .i64 e.u):=λ e=>by
   have⟨line,st,r,w,⟨d,hd⟩,⟨o,ho⟩,u⟩:=e
   match d,hd,o,ho with
   |[d0,d1,d2,d3,d4,d5,d6,d7],_,[o0,o1,o2,o3,o4,o5,o6,o7],_=>rfl
  have Z:∀k,c.fr line+k<c.sl.length->Op.ae [.ptr (aE sv) (cK 21 sv (c.fr line+k)+20)] H7=B1 (.int .i64 (c.en (c.fr line+k)).u):=λ k hk=>by rw[h7.ld hk (k:=20) (by decide),G]
  have hfree:c.free line i=(e.st == 0):=by rw[he];rfl
  have no':e.st≠0 -> ∀k,k<i+1->c.free line k=false:=λ h0 k hk=>by
   by_cases q:k=i
   .grind
   .exact l.no k (by omega)
  have t:Op.ae [.ptr (H.au+1) 0] H7=B1 (pU sv ((c.iO line i).map (c.fr line + ·))):=x9 (xb A) 0;have f:c.iO line (i+1)=if e.r ||e.w then c.iO line i else match c.iO line i with
   |none=>B1 i
   |some j=>if e.u<(c.en (c.fr line+j)).u then B1 i else B1 j:=by rw[he];rfl
  -- it stays as it is
  have stay:e.st≠0->c.iO line (i+1)=c.iO line i->Qi (λ V z=>XJ c sv line H.au (H.au+1) (i+1) V z) (λ e V z=>e=.ret/\Zz c sv line H.au V z) a lb V p .normal [] [] H7:=λ h0 hb =>
   ⟨rfl,gL,V,λ b hb=>(by grind),fx.mono λ x _ q=>.inr q,.inl ⟨rfl,l.vt,l.vu,Y,by grind,by omega,by omega,no' h0⟩⟩
  -- this one is taken
  obtain⟨H8,F⟩:∃X,X=H7.set (H.au+1) (OR [eA sv (c.fr line+i)] ya):=⟨_,rfl⟩
  have st:=M5 A (u:=eA sv (c.fr line+i)) rfl;rw[<-F]at st;have take:e.st≠0->c.iO line (i+1)=B1 i->Qi (λ V z=>XJ c sv line H.au (H.au+1) (i+1) V z) (λ e V z=>e=.ret/\Zz c sv line H.au V z) a lb V p .normal [] [] H8:=λ h0 hb =>
   ⟨rfl,by rw[F,yd (rT S)];exact gL,V,λ b hb=>⟨by rw[F];show b<H7.au;grind,.inl hb⟩,by rw[F];exact(fx.mono λ x _ q=>.inr q).set (.inl (.inl l.vu)) _,.inl ⟨rfl,l.vt,l.vu,by grind [yd],by rw[F,xc,hb];rfl,by rw[F];show H.au<H7.au;omega,by rw[F];show H.au+1<H7.au;omega,no' h0⟩⟩
  by_cases B:e.st=0
  .have stt:=M5 Y (u:=eA sv (c.fr line+i)) rfl;simp only[aa,bc,wb,qo,l1,qv B,stt];refine⟨rfl,?_,V,?_,?_,.inr ⟨trivial,rfl,l.vt,⟨i,C,NS C (by grind) l.no,xc ..⟩,?_⟩⟩
   .rw [yd (rT R)];exact gL
   .exact λ b hb=>⟨by show b<H7.au;grind,.inl hb⟩
   .exact (fx.mono λ x _ q=>.inr q).set (.inl (.inl l.vt)) _
   .show H.au<H7.au;omega
  cases hr:e.r with
  |true =>
   rw[hr]at l2;simp only[aa,bc,wb,qo,l1,B,s,l2];exact stay B (by rw[f,hr];rfl)
  |false =>
   rw[hr]at l2;cases hw:e.w with
   |true =>
    rw[hw]at l3;simp only[aa,bc,wb,qo,l1,B,s,l2,l3];exact stay B (by rw[f,hr,hw];rfl)
   |false =>
    rw[hw]at l3;rw[hr,hw]at f;cases hb:c.iO line i with
    |none =>
     rw[hb]at t f;have t:Op.ae [.ptr (H.au+1) 0] H7=B1 .nilp:=t;simp only[aa,bc,wb,qo,l1,B,s,l2,l3,n,t,Pe,st];exact take B f
    |some j =>
     rw[hb]at t f;have t:Op.ae [.ptr (H.au+1) 0] H7=B1 (eA sv (c.fr line+j)):=t;have hj:=(R9 hb).1;have a1:=Z i hi;rw[<-he]at a1;have a2:=Z j (J.mM line (by omega))
     by_cases q:e.u<(c.en (c.fr line+j)).u
     .simp only[aa,bc,wb,qo,l1,B,s,l2,l3,n,t,yp,a1,a2,q,st];exact take B (by rw[f];simp[q])
     .simp only[aa,bc,wb,qo,l1,B,s,l2,l3,n,t,yp,a1,a2,q];exact stay B (by rw[f,hb];simp[q])
 .intro d V O hd1 hd2 U L hVd l;have hno:=l.no;have A:=l.gu;rw[E,xu,jj]at hno A;have t:Op.ae [.ptr (H.au+1) 0] O=B1 (pU sv ((c.iO line c.ways).map (c.fr line + ·))):=x9 (xb A) 0;have st:=M5 l.g (u:=pU sv ((c.iO line c.ways).map (c.fr line + ·))) (ah3 ..);have K:d≠H.au:=λ q=>by omega
  have gd:(O.set H.au (OR [pU sv ((c.iO line c.ways).map (c.fr line + ·))] ya)).get d=B1 (.deferred (B1 [])):=by simp_all[yd,rT]
  have rd:Op.ae [.ptr H.au 0] ((O.set H.au (OR [pU sv ((c.iO line c.ways).map (c.fr line + ·))] ya)).set d (.deferred B5))=B1 (pU sv ((c.iO line c.ways).map (c.fr line + ·))):=ES (xc ..) K;have m:c.room line=(c.iO line c.ways).map (c.fr line + ·):=by
   grind [Ca.room,Nb]
  rw[<-m]at t st gd rd;simp only[aa,bc,w12,t,st,vF,I2,rd];refine⟨gd,?_⟩;exact(((f4.trans (W':=λ x=>(x=H.au\/x=H.au+1)\/False) L λ x q=>(by grind)).set (by omega) _).set (by omega) _)
 .rintro e d V O hj hd1 hd2 U L hVd ⟨he,hS⟩;subst he;have⟨k,k1,k2,k3⟩:=hS.ex;have K:d≠H.au:=λ q=>by omega
  have rd:Op.ae [.ptr H.au 0] (O.set d (.deferred B5))=B1 (eA sv (c.fr line+k)):=ES k3 K;have m:c.room line=B1 (c.fr line+k):=by unfold Ca.room;rw[k2]
  simp only[aa,bc,vF,I2,rd];refine⟨U,by rw[m];rfl,?_⟩;exact((f4.trans (W':=λ x=>(x=H.au\/x=H.au+1)\/False) L λ x q=>(by grind)).set (by omega) _)
end
end Go.Am
namespace Go.Am
open Go.Proofs Ca
variable{M:ak}[MK M]
def bdE(line st:Int)(x:L8):Op.build (az .zero) [(0,1),(1,1),(4,8)] [.int .i64 line,.int .i64 st,.agg (cD x)]=B1 (.agg (az ⟨line,st,B2,B2,x,.zero,0⟩)):=by
 have⟨x,a⟩:=x
 match x,a with
 |[x0,x1,x2,x3,x4,x5,x6,x7],_=>rfl
def pC(c:Ca)(line st:Int)(x:L8):AV:=.tuple [.agg (az (c.fill line st x).2.1),.bool (decide ((c.fill line st x).2.2=0/\(c.fill line st x).2.1.st≠0)),.int .i64 (c.fill line st x).2.2]
section
variable{H:ar}{b:Nat}{sv:AV}{c:Ca}{lines line:Int}
def xb6(n:eC H b sv c)(l:CI lines c)(hu:c.us+1<=1000000)(hl:0<=line){st:Int}(L:st=1\/st=2)(x:L8) :
 zb M Oa [.ptr b 0,.int .i64 line,.int .i64 st,.agg (cD x)] H λ v H'=>v=pC c line st x/\eC H' b sv (c.fill line st x).1/\Fr (nE b sv) H H':=by
 refine q4t ?_;obtain⟨w0,w2,Q,P,u,R⟩:=q4u M ⟨B5,Oa⟩;obtain⟨H1,e1,f1,n1,-⟩:=bZ H (OR (cD x) z7);obtain⟨m,e2,p,-,-⟩:=bZ H1 (OR (az .zero) xk);have z:Fr Em H m:=f1.trans p λ _ q=>q.elim;have n2:m.au=H.au+2:=by grind [xy]
 have g1:m.get H.au=B1 (OR (cD x) z7):=by rw[p.ah _ (by omega) id,e1,xp]
 have S:m.get (H.au+1)=B1 (OR (az .zero) xk):=by grind [xp]
 have nl:¬line<0:=by omega
 have hlt:=n.lt;have hsb:aE sv<H.au:=n.sl.lt
 -- an error
 have err:∀{g:ar}(k:Int),Fr Em m g->k≠0->(c.fill line st x).2.2=k->(c.fill line st x).1=c->(c.fill line st x).2.1=.zero ->
  Op.store 21 [.ptr (H.au+1) 0,.agg (az .zero)] g=B1 (.undef,g.set (H.au+1) (OR (az .zero) xk))/\Op.aq 21 [.ptr (H.au+1) 0] (g.set (H.au+1) (OR (az .zero) xk))=B1 (.agg (az .zero)) /\
  (AV.tuple [.agg (az .zero),.bool B2,.int .i64 k]=pC c line st x/\eC (g.set (H.au+1) (OR (az .zero) xk)) b sv (c.fill line st x).1/\Fr (nE b sv) H (g.set (H.au+1) (OR (az .zero) xk))):=by
  intro g k f hk h1 h2 h3;have gx:g.get (H.au+1)=B1 (OR (az .zero) xk):=by rw[f.ah _ (by omega) id];exact S
  have fs:Fr Em H (g.set (H.au+1) (OR (az .zero) xk)):=(z.trans f λ _ q=>q.elim).set (by omega) _;refine⟨fK gx (zw _) (zw .zero) (ud _),eJ (xc ..) (zw _),?_,by rw[h2];exact n.em fs,si fs⟩
  grind [pC]
 have r:∀{q:AV},W M ⟨B5,Oa⟩ (qq8 16) B4 (fj 0 (fq (W M ⟨B5,Oa⟩ (qq8 23)) (eS M [.de 21 8,.tmp 9,.tmp 10] (tq λ v H'=>v=pC c line st x/\eC H' b sv (c.fill line st x).1/\Fr (nE b sv) H H'))))
  [(21,q),(10,.int .i64 0),(9,.bool B2),(8,.ptr (H.au+1) 0),(7,.ptr H.au 0),(0,.ptr b 0),(1,.int .i64 line),(2,.int .i64 st),(3,.agg (cD x))] [] m:=by
  intro q;simp only[aa,bc,P];refine C3.q (US (line:=line) (n.em z) l) λ v H3⟨N,F⟩=>?_;rw[N];unfold wW;cases hp:c.pos line with
  |some i =>
   have⟨s1,s2,O⟩:=err 21 F (by decide) (by unfold Ca.fill;rw[hp]) (by unfold Ca.fill;rw[hp]) (by unfold Ca.fill;rw[hp]);simp only[aa,bc,lJ,eZ,Eb,s1,s2];exact O
  |none =>
   simp only[aa,bc,uo,Q];have D:=z.trans F λ _ q=>q.elim;refine C3.q (xm4 (n.em D) l hl) λ v a⟨N,f4⟩=>?_;rw[N];have e:=F.trans f4 λ _ q=>q.elim;cases hr:c.room line with
   |none =>
    have⟨s1,s2,O⟩:=err 22 e (by decide) (by unfold Ca.fill;rw[hp,hr]) (by unfold Ca.fill;rw[hp,hr]) (by unfold Ca.fill;rw[hp,hr]);unfold pU;simp only[aa,bc,u,Pe,eZ,Eb,s1,s2];exact O
   |some i =>
    obtain⟨k,k1,k2,-⟩:=T2 hr;have Z:i<c.sl.length:=by rw[k2];exact l.mM line k1
    have o:=z.trans e λ _ q=>q.elim;have V:=n.em o;have n4:=e.au;have⟨C,e5,A,n5,g5⟩:=bZ a (OR (az .zero) xk);have s6:=fK g5 (zw _) (zw (c.en i)) (ud _);obtain⟨h,w⟩:∃X,X=C.set a.au (OR (az (c.en i)) xk):=⟨_,rfl⟩
    rw[<-w]at s6;have B:Fr (On a.au) C h:=by rw[w];exact(Fr.refl C).set (W:=On a.au) (.inl rfl) _
    have n6:h.au=a.au+1:=by rw[w];exact n5
    have g6:h.get a.au=B1 (OR (az (c.en i)) xk):=by rw[w,xc]
    have h6:eC h b sv c:=(V.em A).fr B (λ(q:b=a.au)=>by omega) (λ(q:aE sv=a.au)=>by omega);have G:h.get H.au=B1 (OR (cD x) z7):=by rw[B.ah _ (by omega) (λ(q:H.au=a.au)=>by omega),A.ah _ (by omega) id,e.ah _ (by omega) id];exact g1
    have I:h.get (H.au+1)=B1 (OR (az .zero) xk):=by rw[B.ah _ (by omega) (λ(q:H.au+1=a.au)=>by omega),A.ah _ (by omega) id,e.ah _ (by omega) id];exact S
    have⟨H7,s7,h7,f7⟩:=h6.FA Z ⟨line,st,B2,B2,x,.zero,0⟩;have K:i<(c.set i ⟨line,st,B2,B2,x,.zero,0⟩).sl.length:=by show i<(c.sl.set i _).length;grind
    have l6:=eJ G (ye x);unfold pU;simp only[aa,bc,u,yp,R,qo,V.JC Z,eZ,<-e5,s6,l6,bdE,s7];refine C3.q (Ye h7 hu K) λ _ d⟨Y,f8⟩=>?_;have j:Fr (nE b sv) h d:=wB (vX f7) f8;have nW:∀y,H.au<=y -> ¬nE b sv y:=λ y hy q=>q.elim (by omega) λ q=>by omega
    have T:d.get a.au=B1 (OR (az (c.en i)) xk):=by rw[j.ah _ (by omega) (by grind)];exact g6
    have J:d.get (H.au+1)=B1 (OR (az .zero) xk):=by rw[j.ah _ (by omega) (by grind)];exact I
    have l8:=eJ T (zw (c.en i));have s:Op.ae [.ptr a.au 1] d=B1 (.int .i64 (c.en i).st):=x9 (xb T) 1;have s9:=fK J (zw _) (zw (c.en i)) (ud _);have g9:(d.set (H.au+1) (OR (az (c.en i)) xk)).get a.au=B1 (OR (az (c.en i)) xk):=by grind [yd]
    have t:Op.ae [.ptr a.au 1] (d.set (H.au+1) (OR (az (c.en i)) xk))=B1 (.int .i64 (c.en i).st):=x9 (xb g9) 1;have l9:=eJ (xc d (H.au+1) (OR (az (c.en i)) xk)) (zw (c.en i));have ef:c.fill line st x=({c with us:=c.us+1,sl:=c.sl.set i ⟨line,st,B2,B2,x,.zero,c.us+1⟩},c.en i,0):=by grind [Ca.fill]
    have eu:(c.set i ⟨line,st,B2,B2,x,.zero,0⟩).use i = {c with us:=c.us+1,sl:=c.sl.set i ⟨line,st,B2,B2,x,.zero,c.us+1⟩}:=by
     grind [Ca.use,KP,Ca.set,List.set_set]
    rw[eu]at Y;have fo:Fr (On (H.au+1)) d (d.set (H.au+1) (OR (az (c.en i)) xk)):=(Fr.refl d).set (W:=On (H.au+1)) (.inl rfl) _;have E:Fr (nE b sv) H d:=wB ((wB (si o) (si A)).trans B λ y(q:y=a.au)=>(by omega)) j;have end_:eC (d.set (H.au+1) (OR (az (c.en i)) xk)) b sv (c.fill line st x).1/\Fr (nE b sv) H (d.set (H.au+1) (OR (az (c.en i)) xk)):=by
     rw[ef];exact⟨Y.fr fo (λ(q:b=H.au+1)=>by omega) (λ(q:aE sv=H.au+1)=>by omega),E.set (.inr (by omega)) _⟩
    by_cases U:(c.en i).st=0
    .simp only[aa,bc,l8,s,qv U,s9,t,l9]
     grind [pC]
    .simp only[aa,bc,l8,s,U,s9,t,l9]
     grind [pC]
 rcases L with rfl|rfl
 .have t1:=qv (show(1:Int)=1 from rfl);simp only[aa,bc,w0,<-e1,n1,eZ,<-e2,w2,yp,nl];exact r
 .have t1:¬(2:Int)=1:=by decide
  have t2:=qv (show(2:Int)=2 from rfl);simp only[aa,bc,w0,<-e1,n1,eZ,<-e2,w2,yp,nl,t1];exact r
end
end Go.Am
namespace Go.Am
open Go.Proofs Ca
variable{M:ak}[MK M]
theorem P0(p:Nat->Bool)(k:Nat):(MX (k+1)).filter p=(MX k).filter p++(if p k then[k]else[]):=by
 grind [List.range_succ]
def xgp(p:Nat->Bool){k:Nat}:∀m:Nat,∃X,(MX (k+m)).filter p=(MX k).filter p++X
 |0=>⟨[],by simp⟩
 |m+1=>by
  obtain⟨X,a⟩:=xgp p m;rw[<-Ad,P0,a]
  grind
theorem VJ(p:Nat->Bool){n k:Nat}(hk:k<n)(hp:p k=B4):((MX n).filter p)[((MX k).filter p).length]? = B1 k:=by
 obtain⟨m,rfl⟩:∃m,n=k+1+m:=⟨n-(k+1),by omega⟩
 have⟨X,a⟩:=xgp p (k:=k+1) m
 grind [P0]
def lH(c:Ca):List Nat:=(MX c.sl.length).filter λ k=>(c.en k).st != 0
def kQ(c:Ca)(sv:AV):List (List AV):=(lH c).map λ k=>[eA sv k]
def E_(b:Nat)(sv:AV)(c:Ca)(Hx:ar):Prop:=∃c',eC Hx b sv c'/\c'.sl.length=c.sl.length /\ ∀k,(c'.en k).st=(c.en k).st
def hH{H0:ar}{p b:Nat}{sv:AV}{c:Ca}(hp:H0.get p=B1 (OR [.ptr b 0] C6))(hpl:p<H0.au)(hl:c.sl.length<=40) :
 uT M Qs [] [.ptr p 0] (λ x=>x=p) (λ _=>False) (λ _=>E_ b sv c) H0 (kQ c sv):=by
 intro Y R S g H1 hnx X m Z loc P hI step;have⟨p1,p2,p3⟩:=X p (.inl rfl)
 suffices h:zb M Qs [.fn (.yield Y) [] [],.ptr p 0] H1 (I4 R S g (λ _=>False) H1 (kQ c sv).length)by
  have⟨v,H',hc,W',y,q2,q3⟩:=h.elim
  grind
 refine qxu ?_;obtain⟨w0,w1,w7,w9,j,z,B,A,K⟩:=qxv M ⟨B5,Qs⟩;have lp:∀{d:ar},Fr g H1 d->Op.ae [.ptr p 0] d=B1 (.ptr b 0):=λ f=>by rw[x9 (xb (by rw[f.ah _ (by omega) p3,p2];exact hp))];rfl
 have r0:=Fr.refl (W:=g) H1;have⟨c1,N,G,U⟩:=hI 0 g H1 m;have l2:Op.ae [.ptr b 2] H1=B1 sv:=N.Uh 2;have ln:Op.cG [sv]=B1 (.int .i64 ((c.sl.length:Nat):Int)):=by rw[<-G];exact(N.sl.sl zw).len
 simp only[aa,bc,w0,w1,lp r0,yp,w7,w9,qo,l2,ln];refine cu.intro (λ n E d=>∃(i:Nat)(V:Nat->Prop),E=[(11,.int .i64 (i:Int)),(10,.int .i64 ((c.sl.length:Nat):Int)),(0,.fn (.yield Y) [] []),(1,.ptr p 0)]/\n=c.sl.length-i/\i<=c.sl.length/\LH R g H1 d ((MX i).filter λ k=>(c.en k).st != 0).length V) ?_ ?_
 .exact ⟨_,_,⟨0,g,rfl,rfl,xw _,⟨m,λ b hb=>(by grind),Fr.refl _⟩⟩,by simp only[aa,bc]⟩
 rintro n E d ⟨i,V,rfl,rfl,hi,a⟩;rcases xz i c.sl.length with hlt|hge
 .have y:(i:Int)<((c.sl.length:Nat):Int):=by omega
  have⟨T,F,hl',J⟩:=hI _ V d a.hR;have u:Op.ae [.ptr b 2] d=B1 sv:=F.Uh 2;have t:i<T.sl.length:=by omega
  have ix:=F.ix t;have ls:Op.ae [.ptr (aE sv) (cK 21 sv i+1)] d=B1 (.int .i64 (c.en i).st):=by rw[<-J i];exact F.ld t (k:=1) (by decide)
  have Q:aj .i64 ((i:Int)+1)=((i+1:Nat):Int):=by grind [jc]
  have O:=P0 (λ k=>(c.en k).st != 0) i
  by_cases C:(c.en i).st=0
  .have s:((MX (i+1)).filter λ k=>(c.en k).st != 0).length=((MX i).filter λ k=>(c.en k).st != 0).length:=by rw[O];simp[C]
   simp only[aa,bc,j,y,z,A,lp a.fr,qo,u,ix,ls,qv C,B,Q];exact⟨_,_,⟨i+1,V,rfl,rfl,by omega,by rw[s];exact a⟩,by simp only[aa,bc],by omega⟩
  .have s:((MX (i+1)).filter λ k=>(c.en k).st != 0).length=((MX i).filter λ k=>(c.en k).st != 0).length+1:=by rw[O];simp[C]
   have hg:(kQ c sv)[((MX i).filter λ k=>(c.en k).st != 0).length]? = B1 [eA sv i]:=by
    grind [kQ,lH,VJ]
   have⟨bb,L,D,hr,I,r,ht,hs⟩:=step _ _ hg V d a.hR a.hV (a.fr.mono λ _ _ q=>.inl q);have l:Fr g H1 L:=a.fr.trans I λ b q=>(a.hV b q).2;have o:∀b,D b->b<L.au/\(g b\/H1.au<=b):=λ b q=>⟨(r b q).1,(r b q).2.elim (λ w=>(a.hV b w).2) λ w=>.inr (xx a.fr.au w)⟩
   simp only[aa,bc,j,y,z,A,lp a.fr,qo,u,ix,ls,C,K];refine C3.uZ hr ?_;cases bb with
   |true =>
    simp only[aa,bc,B,Q];exact⟨_,_,⟨i+1,D,rfl,rfl,by omega,⟨by grind,o,l⟩⟩,by simp only[aa,bc],by omega⟩
   |false =>
    simp only[aa,bc,vF];exact⟨D,l.mono λ _ _ q=>.inl q,o,.inr (hs rfl)⟩
 .have y:¬(i:Int)<((c.sl.length:Nat):Int):=by omega
  have hiw:i=c.sl.length:=by omega
  simp only[aa,bc,j,y,Jm];refine⟨V,a.fr.mono λ _ _ q=>.inl q,a.hV,.inl ?_⟩;have e:(kQ c sv).length=((MX i).filter λ k=>(c.en k).st != 0).length:=by grind [kQ,lH]
  rw[e];exact a.hR
def A_{H:ar}(b:Nat):zb M qqa [.ptr b 0] H λ v H'=>v=.fn (.func Qs) [] [.ptr H.au 0]/\H'=H.alloc (OR [.ptr b 0] C6):=by
 refine q43 ?_;simp_all[aa,q44]
structure Fy(c:Ca)(g:En->En)(i:Nat)(c':Ca):Prop where
 fT:c'.fT=c.fT
 ways:c'.ways=c.ways
 us:c'.us=c.us
 len:c'.sl.length=c.sl.length
 en:∀k,k<c.sl.length->c'.en k=if k∈(lH c).take i then g (c.en k)else c.en k
def Fy.zero(c:Ca)(g:En->En):Fy c g 0 c:=⟨rfl,rfl,rfl,rfl,λ k hk=>by simp⟩
def xe2(c:Ca):(lH c).Nodup:=List.Nodup.sublist (List.filter_sublist) List.nodup_range
def TF{c:Ca}{k:Nat}:k∈lH c↔k<c.sl.length/\(c.en k).st≠0:=by
 grind [lH]
def xja{l:List Nat}(h:l.Nodup){i k:Nat}(hk:l[i]? = B1 k):k∉l.take i:=by
 grind [LY,List.pairwise_iff_getElem]
def Fy.step{c a:Ca}{g:En->En}{i k:Nat}(h:Fy c g i a)(hk:(lH c)[i]? = B1 k):a.en k=c.en k/\Fy c g (i+1) (a.set k (g (c.en k))):=by
 have hm:=TF.1 (zd hk);have hn:=xja (xe2 c) hk;have he:a.en k=c.en k:=by rw[h.en k hm.1,qy hn]
 refine⟨he,h.fT,h.ways,h.us,by show(a.sl.set k _).length=_;rw[ze];exact h.len,λ j d=>?_⟩;rw[BP (by rw[h.len];omega),j7,hk]
 by_cases q:k=j
 .grind
 .rw [qy q,h.en j d]
  grind
def Fy.done{c a:Ca}{g:En->En}(h:Fy c g (lH c).length a)(hg:∀e:En,e.st=0->g e=e):a = {c with sl:=c.sl.map g}:=by
 have d:a.sl=c.sl.map g:=by
  refine yj λ k=>?_;rcases xz k c.sl.length with q|q
  .rw [Fp (by rw[h.len];exact q),xq,Fp q,h.en k q,za (qm _)];simp_all[TF]
  .rw [jp (by rw[h.len];exact q),jp (by rw[xu];exact q)]
 have⟨s,w,l,u⟩:=a;have f:=h.fT;have i:=h.ways;have j:=h.us
 grind
structure MA(c:Ca)(g:En->En)(b:Nat)(sv:AV)(i:Nat)(V:Nat->Prop)(Hx:ar):Prop where
 vb:V b
 vs:V (aE sv)
 ex:∃c',eC Hx b sv c'/\Fy c g i c'
def eC.loc{a Hb:ar}{b:Nat}{sv:AV}{c:Ca}(h:eC a b sv c)(g:Hb.get b=a.get b)(d:Hb.get (aE sv)=a.get (aE sv))(hn:a.au<=Hb.au):eC Hb b sv c :=
 ⟨by rw[g];exact h.row,qn h.lt hn,by
  have⟨sb,e1,e2,e⟩:=h.sl;have f:aE sv=sb:=by rw[e1];rfl
  rw[f]at d;exact⟨sb,e1,qn e2 hn,by rw[d];exact e⟩,h.ne,h.s8,h.w4,h.us⟩
def MA.loc{c:Ca}{g:En->En}{b:Nat}{sv:AV}{i:Nat}{V:Nat->Prop}{a Hb:ar}(h:MA c g b sv i V a)(hs:∀x,V x->Hb.get x=a.get x)(hn:a.au<=Hb.au):MA c g b sv i V Hb:=by
 have⟨d,e,f⟩:=h.ex;exact⟨h.vb,h.vs,d,e.loc (hs _ h.vb) (hs _ h.vs) hn,f⟩
def MA.hI{c:Ca}{g:En->En}(hg:∀e:En,(g e).st=e.st){b:Nat}{sv:AV}{i:Nat}{V:Nat->Prop}{d:ar}(h:MA c g b sv i V d):E_ b sv c d:=by
 have⟨f,j,a⟩:=h.ex;refine⟨f,j,a.len,λ k=>?_⟩;rcases xz k c.sl.length with q|q
 .rw [a.en k q];split
  .exact hg _
  .rfl
 .rw [Vq q,Vq (by rw[a.len];exact q)]
section
variable{H:ar}{b:Nat}{sv:AV}{c:Ca}{lines line:Int}
def _e(E:eC H b sv c)(hl:c.sl.length<=40):zb M MV [.ptr b 0] H λ _ H'=>eC H' b sv c.bt/\Fr (nE b sv) H H':=by
 refine qxr ?_;have⟨w0,wa,wb,w2,R,S⟩:=mu M ⟨B5,MV⟩;simp only[aa,bc,w0,w2,yp,R];refine C3.q (A_ b) λ v H5⟨hv,hh⟩=>?_;have⟨H1,e1,U,n1,g1⟩:=bZ H (OR [.ptr b 0] C6);rw[<-e1]at hh;rw[hv,hh];have F:=E.em U;have hlt:=E.lt;have hsb:aE sv<H.au:=E.sl.lt;refine iP.uv (fn:=SJ) (lp:=Rz) (pa:=XB 0) (pb:=YU 0) qv0 qlj.1 qlj.2 (by decide) qt6 qt7
  (hH (b:=b) (sv:=sv) (c:=c) g1 (by omega) hl) (λ i V T=>MA c qV b sv i V T) (λ _ _ _=>False) (nE b sv) (qm _) ?_ ?_ ?_ ?_ ?_ ?_ ?_ ?_ ?_
 .rintro x (q|q)
  .exact ⟨by omega,rfl,λ w=>w.elim (by omega) λ w=>by omega⟩
  grind
 .exact λ x z=>z.elim (by omega) λ q=>by omega
 .exact ⟨.inl rfl,.inr rfl,c,F,Fy.zero c qV⟩
 .exact λ i V Ha Hb h hs hn=>h.loc hs hn
 .grind
 .exact λ i V T h=>h.hI Yp
 .intro f i lr lb x z hL2 V l s hV hf6 hnL hL6 K;unfold kQ at z;rw[xq,xr]at z;obtain⟨k,hk,rfl⟩:=z;refine⟨_,rfl,?_⟩;obtain⟨-,wa,wb,-⟩:=mu M ⟨B1 f,MV⟩;simp only[aa,bc,wa,Ct];refine⟨K,?_⟩;have fx:Fr (On f) l (l.set f lb):=(Fr.refl l).set (W:=On f) (.inl rfl) _;have gL:(l.set f lb).get f=B1 lb:=xc ..;have nL:(l.set f lb).au=l.au:=rfl;have D:=s.loc (Hb:=l.set f lb) (by grind [yd]) (qm _);generalize l.set f lb=H7 at *;have⟨a,h7,ht⟩:=D.ex;have⟨hek,P⟩:=ht.step hk;have hm:=TF.1 (zd hk);have p:k<a.sl.length:=by rw[ht.len];omega
  have⟨H8,s8,h8,f8⟩:=h7.dp p (j:=2) (by decide) (u:=.bool B2) rfl (e:={a.en k with r:=B2}) rfl;have N:k<(a.set k {a.en k with r:=B2}).sl.length:=by show k<(a.sl.set k _).length;grind
  have⟨H9,s9,Z,f9⟩:=h8.dp N (j:=3) (by decide) (u:=.bool B2) rfl (e:={(a.set k {a.en k with r:=B2}).en k with w:=B2}) rfl;rw[KP p,SV]at Z;have O:k<(a.set k {a.en k with r:=B2,w:=B2}).sl.length:=by show k<(a.sl.set k _).length;grind
  have⟨t,Q,m,B⟩:=Z.Tb O (j:=12) (n:=8) (u:=.agg (cD .zero)) (by grind [zo,ye]) (by grind [zo,ug]) (by decide) (e:={(a.set k {a.en k with r:=B2,w:=B2}).en k with o:=.zero}) (Jt _ _);rw[KP p,SV]at m;have ec:({a.en k with r:=B2,w:=B2,o:=.zero}:En)=qV (c.en k):=by simp_all[qV]
  have m:eC t b sv (a.set k (qV (c.en k))):=by grind
  have g:Fr (On (aE sv)) H7 t:=(f8.trans f9 λ _ q=>.inl q).trans B λ _ q=>.inl q;have C:f≠aE sv:=λ q=>(by omega)
  have n710:=g.au;simp only[aa,bc,wb,lZ,Eb,qo,s8,s9,Q];refine⟨rfl,by rw[g.ah f (by omega) (λ(q:f=aE sv)=>C q)];exact gL,V,λ y hy=>⟨by have:=(hV y hy).1;omega,.inl hy⟩,(fx.mono λ y _ q=>.inr q).trans g λ y(q:y=aE sv)=>.inl (.inl (by rw[q];exact s.vs)),.inl ⟨rfl,s.vb,s.vs,_,m,P⟩⟩
 .intro d V A hd1 hd2 L J hVd s;have⟨a,X,Y⟩:=s.ex;have el:(kQ c sv).length=(lH c).length:=by grind [kQ]
  rw[el]at Y;have e:a=c.bt:=Y.done λ e h=>by simp_all[qV]
  rw[e]at X;have G:d≠b:=by omega
  have I:d≠aE sv:=by omega
  have fo:Fr (On d) A (A.set d (.deferred B5)):=(Fr.refl A).set (W:=On d) (.inl rfl) _;have fW:Fr (nE b sv) H A:=(si U).trans J λ y q=>q.elim (λ w=>.inl w) ND;simp only[aa,bc,S,I2];exact⟨L,X.fr fo (λ(q:b=d)=>G q.symm) (λ(q:aE sv=d)=>I q.symm),fW.set (.inr (by omega)) _⟩
 grind
end
end Go.Am
namespace Go.Am
open Go.Proofs Ca
variable{M:ak}[MK M]
def mD(e:En):En:=if e.st≠0/\e.w=B4 then{e with d:=e.o}else e
def xne(e:En):(mD e).st=e.st:=by grind [mD]
def Dz(e:En):qV (mD e)=back e:=by
 unfold qV back;rw[xne]
 by_cases h:e.st=0
 .simp_all [mD]
 .rw [qy h,qy h];unfold mD
  grind
def xic(c:Ca):Ca.bt {c with sl:=c.sl.map mD} = c.discard:=by
 unfold Ca.bt Ca.discard;simp only[AF];congr 1;exact List.map_congr_left λ e _=>Dz e
section
variable{H:ar}{b:Nat}{sv:AV}{c:Ca}{lines line:Int}
def xbz(F:eC H b sv c)(hl:c.sl.length<=40):zb M NV [.ptr b 0] H λ _ H'=>eC H' b sv c.discard/\Fr (nE b sv) H H':=by
 refine qv1 ?_;have⟨w0,wa,wb,w2,P,Q⟩:=qmc M ⟨B5,NV⟩;simp only[aa,bc,w0,w2,yp,P];refine C3.q (A_ b) λ v H5⟨hv,hh⟩=>?_;have⟨H1,e1,U,n1,g1⟩:=bZ H (OR [.ptr b 0] C6);rw[<-e1]at hh;rw[hv,hh];have G:=F.em U;have hlt:=F.lt;have hsb:aE sv<H.au:=F.sl.lt;refine iP.uv (fn:=Sn) (lp:=Qq) (pa:=U9 0) (pb:=XN 0) qt8 d_.1 d_.2 (by decide) qsi qsj
  (hH (b:=b) (sv:=sv) (c:=c) g1 (by omega) hl) (λ i V S=>MA c mD b sv i V S) (λ _ _ _=>False) (nE b sv) (qm _) ?_ ?_ ?_ ?_ ?_ ?_ ?_ ?_ ?_
 .rintro x (q|q)
  .exact ⟨by omega,rfl,λ w=>w.elim (by omega) λ w=>by omega⟩
  grind
 .exact λ x t=>t.elim (by omega) λ q=>by omega
 .exact ⟨.inl rfl,.inr rfl,c,G,Fy.zero c mD⟩
 .exact λ i V Ha Hb h hs hn=>h.loc hs hn
 .grind
 .exact λ i V S h=>h.hI xne
 .intro f i lr lb x t hL2 V g l hV hf6 hnL hL6 K;unfold kQ at t;rw[xq,xr]at t;obtain⟨k,hk,rfl⟩:=t;refine⟨_,rfl,?_⟩;obtain⟨-,wa,wb,-⟩:=qmc M ⟨B1 f,NV⟩;simp only[aa,bc,wa,Ct];refine⟨K,?_⟩;have Y:Fr (On f) g (g.set f lb):=(Fr.refl g).set (W:=On f) (.inl rfl) _;have Z:(g.set f lb).get f=B1 lb:=xc ..;have nL:(g.set f lb).au=g.au:=rfl;have E:=l.loc (Hb:=g.set f lb) (by grind [yd]) (qm _);generalize g.set f lb=H7 at *;have⟨a,A,ht⟩:=E.ex;have⟨hek,p⟩:=ht.step hk;have hm:=TF.1 (zd hk);have m:k<a.sl.length:=by rw[ht.len];omega
  have D:f≠aE sv:=λ q=>(by omega)
  have lw:Op.ae [.ptr (aE sv) (cK 21 sv k+3)] H7=B1 (.bool (a.en k).w):=A.ld m (k:=3) (by decide);cases hw:(a.en k).w with
  |true =>
   rw[hw]at lw;have⟨H8,s8,h8,B⟩:=A.Tb m (j:=4) (n:=8) (u:=.agg (cD (a.en k).o)) (by grind [zo,ye]) (by grind [zo,ug]) (by decide) (e:={a.en k with d:=(a.en k).o}) (JH _ _);have T:({a.en k with d:=(a.en k).o}:En)=mD (c.en k):=by
    simp_all[mD]
   have h8:eC H8 b sv (a.set k (mD (c.en k))):=by grind
   have n78:=B.au;simp only[aa,bc,wb,qo,lw,A.ldO m,s8];exact⟨rfl,by rw[B.ah f (by omega) (λ(q:f=aE sv)=>D q)];exact Z,V,λ y O=>⟨by have:=(hV y O).1;omega,.inl O⟩,(Y.mono λ y _ q=>.inr q).trans B λ y(q:y=aE sv)=>.inl (.inl (by rw[q];exact l.vs)),.inl ⟨rfl,l.vb,l.vs,_,h8,p⟩⟩
  |false =>
   rw[hw]at lw;have T:a.set k (mD (c.en k))=a:=by
    have hu:mD (c.en k)=a.en k:=by
     simp_all[mD]
    rw[hu];unfold Ca.set Ca.en;simp_all
   rw[T]at p;simp only[aa,bc,wb,qo,lw];exact⟨rfl,Z,V,λ y O=>(by grind),Y.mono λ y _ q=>.inr q,.inl ⟨rfl,l.vb,l.vs,_,A,p⟩⟩
 .intro d V R hd1 I L J hVd l;have⟨a,h1,C⟩:=l.ex;have el:(kQ c sv).length=(lH c).length:=by grind [kQ]
  rw[el]at C;have e:a = {c with sl:=c.sl.map mD}:=C.done λ e h=>by simp_all[mD]
  have r:d≠b:=by omega
  have s:d≠aE sv:=by omega
  have fW:Fr (nE b sv) H R:=(si U).trans J λ y q=>q.elim (λ w=>.inl w) ND;simp only[aa,bc,Q];refine C3.q (_e h1 (by rw[C.len];exact hl)) λ _ z⟨h3,X⟩=>?_;rw[e,xic]at h3;have N:z.get d=B1 (.deferred (B1 [])):=by rw[X.ah d I (λ q=>q.elim r s)];exact L
  have fo:Fr (On d) z (z.set d (.deferred B5)):=(Fr.refl z).set (W:=On d) (.inl rfl) _;simp only[aa,bc,I2];exact⟨N,h3.fr fo (λ(q:b=d)=>r q.symm) (λ(q:aE sv=d)=>s q.symm),(wB fW X).set (.inr (by omega)) _⟩
 .exact λ e d V R _ _ _ _ _ _ h=>h.elim
end
end Go.Am
namespace Go.Am
open Go.Proofs Ca
variable{M:ak}[MK M]
def pJ(s w:Nat):Ca:=⟨s,w,Ji (s*w) .zero,0⟩
def W8(s w k:Nat):(pJ s w).en k=.zero:=by
 grind [Ca.en,pJ]
def ag5(lines:Int){s w:Nat}(hs:0<s)(hw:0<w):CI lines (pJ s w) :=
 ⟨jg ..,hs,hw,λ i _ h=>by rw[W8]at h;exact absurd rfl h,λ i j _ _ h=>by rw[W8]at h;exact absurd rfl h⟩
def xfm(s w:Nat):(pJ s w).plain:=λ i _ h=>by rw[W8]at h;exact absurd rfl h
def xgr:∀n:Nat,(Ji n En.zero).flatMap az=fY n (az .zero)
 |0=>rfl
 |n+1=>by rw[OC,j6,xgr n];rfl
def ta(s w:Int):Prop:=1<=s/\s<=8/\1<=w/\w<=4
instance(s w:Int):Decidable (ta s w):=inferInstanceAs (Decidable (_/\_))
def ZN(H:ar)(s w:Int)(v:AV)(H':ar):Prop:=Fr Em H H'/\(¬ta s w/\v=.tuple [.nilp,.int .i64 2]\/ta s w /\ ∃b sv,v=.tuple [.ptr b 0,.int .i64 0]/\eC H' b sv (pJ s.toNat w.toNat)/\H.au<=b/\H.au<=aE sv)
def xix{H:ar}(s w:Int):zb M Wp [.int .i64 s,.int .i64 w] H (ZN H s w):=by
 refine ag8 ?_;obtain⟨w0,w2,j⟩:=af2 M ⟨B5,Wp⟩
 by_cases f:s<1
 .simp only[aa,bc,w0,w2,f];exact⟨Fr.refl _,.inl ⟨λ q=>by have:=q.1;omega,rfl⟩⟩
 by_cases g:8<s
 .simp only[aa,bc,w0,w2,f,g];exact⟨Fr.refl _,.inl ⟨λ q=>by have:=q.2.1;omega,rfl⟩⟩
 by_cases h:w<1
 .simp only[aa,bc,w0,w2,f,g,h];exact⟨Fr.refl _,.inl ⟨λ q=>by have:=q.2.2.1;omega,rfl⟩⟩
 by_cases l:4<w
 .simp only[aa,bc,w0,w2,f,g,h,l];exact⟨Fr.refl _,.inl ⟨λ q=>by have:=q.2.2.2;omega,rfl⟩⟩
 obtain⟨a,rfl⟩:=ji (show 0<=s by omega);obtain⟨d,rfl⟩:=ji (show 0<=w by omega);have p:a*d<=8*4:=Nat.mul_le_mul (by omega) (by omega);have t:aj .i64 ((a:Int)*(d:Int))=((a*d:Nat):Int):=by grind [jc]
 have mk:=UG xk 160 (az .zero) (a*d) .i64 .i64 (by omega) (by omega);rw[<-xgr]at mk;obtain⟨H1,e1,n,n1,-⟩:=bZ H (OR ((Ji (a*d) En.zero).flatMap az) xk);obtain⟨sv,e⟩:∃sv:AV,sv=.slice H.au 0 (a*d) (a*d):=⟨_,rfl⟩
 have i:Op.sliceTo (a*d) (a*d) H.au=sv:=by rw[e];rfl
 have r:aE sv=H.au:=by rw[e];rfl
 have m:Op.build [.int .i64 0,.int .i64 0,.nils,.int .i64 0] [(0,1),(1,1),(2,1)] [.int .i64 (a:Int),.int .i64 (d:Int),sv]=B1 (.agg (FJ (pJ a d) sv)):=by rw[e];rfl
 obtain⟨u,e2,k,-,o⟩:=bZ H1 (OR (FJ (pJ a d) sv) YK);simp only[aa,bc,w0,w2,f,g,h,l,j,t,eZ,mk,i,<-e1,m,<-e2];refine⟨n.trans k λ _ q=>q.elim,.inr ⟨⟨by omega,by omega,by omega,by omega⟩,_,sv,rfl,⟨o,by rw[e2,xy];omega,⟨H.au,?_,?_,?_⟩,by omega,by show a<=8;omega,by show d<=4;omega,⟨yP _,by show(0:Int)<=1000000;decide⟩⟩,by omega,by omega⟩⟩
 .show sv=.slice H.au 0 (Ji (a*d) En.zero).length (Ji (a*d) En.zero).length
  grind
 .grind [xy]
 .rw [k.ah _ (by omega) id,e1,xp];rfl
end Go.Am
