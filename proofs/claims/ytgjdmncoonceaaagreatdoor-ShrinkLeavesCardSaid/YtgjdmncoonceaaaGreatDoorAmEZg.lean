import Derived.Test.YtgjdmncoonceaaaGreatDoorAmEZd
import Derived.Test.YtgjdmncoonceaaaGreatDoorAmEZf
import Derived.Test.YtgjdmncoonceaaaGreatDoorAmEZe
set_option linter.defProp false
set_option linter.unusedVariables false
set_option linter.unusedSimpArgs false
set_option linter.unusedSectionVars false
set_option maxRecDepth 100000
open BitVec renaming ofInt→BH
open Bool renaming false→B2,true→B4
open False renaming elim→NR
open Go renaming IntKind→OA
open List renaming range→N2,replicate→I5
open Nat renaming beq→I4,ble→Nz,blt→Oz
open Option renaming none→B5,some→B1
open Nat renaming reduceEqDiff→bc
namespace Go.Am
def iz(x:Nat):List AV:=[.int .i64 (x:Int)]
def ae8(x:Nat):(iz x).length=1:=rfl
theorem OM(l:List Nat):l.flatMap iz=l.map λ(x:Nat)=>AV.int .i64 (x:Int):=by
 induction l with
 |nil=>rfl
 |cons a l ih=>rw[j8,ih];rfl
theorem xO(l:List Nat):(l.flatMap iz).length=l.length:=by grind [OM]
structure mK(e:Nat)(H0 H:ar)(v:AV)(xs:List Nat):Prop where
 own:(v=.nils/\xs=[]) \/ ∃b m rest,v=.gslice b 0 m 1 0 xs.length/\b<H.au/\H0.au<=b/\m=xs.length+rest.length/\H.get b=B1 (.grown m 1 (xs.flatMap iz++rest) e (0,0))
 fr:Fr Em H0 H
section
variable{e:Nat}{H0 H:ar}{v:AV}{xs:List Nat}
theorem mK.nil(e:Nat)(H:ar):mK e H H .nils []:=⟨.inl ⟨rfl,rfl⟩,Fr.refl H⟩
def mK.fresh(h:mK e H0 H v xs):∀b,aM v b->H0.au<=b/\b<H.au:=by
 rintro b ⟨d,rfl⟩;rcases h.own with⟨rfl,_⟩|⟨b,m,rest,rfl,a,c,_⟩
 .grind
 .exact ⟨c,a⟩
def mK.sl(h:mK e H0 H v xs):bN iz 1 H v xs:=by
 rcases h.own with⟨rfl,rfl⟩|⟨b,m,rest,rfl,a,d,f,c⟩
 .exact ⟨rfl,rfl⟩
 .refine ⟨by rw[xO,Nat.mul_one],rfl,rfl,by omega,.inr ⟨a,_,Oo c,?_⟩⟩;rw[tV,xg (by grind [xO]),AG,yx,Nat.mul_one,PB (by rw[xO];omega),zd (by rw[xO];omega)]
def mK.vT{H':ar}{W:Nat->Prop}(h:mK e H0 H v xs)(f:Fr W H H')(c:Fr Em H0 H')(hw:∀b,aM v b -> ¬W b):mK e H0 H' v xs:=by
 refine⟨?_,c⟩;rcases h.own with q|⟨b,m,rest,rfl,a,d,g,i⟩
 .grind
 .exact .inr ⟨b,m,rest,rfl,qn a f.au,d,g,by rw[f.ah b a (hw b ⟨by simp,rfl⟩)];exact i⟩
def mK.em{H':ar}(h:mK e H0 H v xs)(f:Fr Em H H'):mK e H0 H' v xs:=h.vT f (h.fr.em f) λ _ _ q=>q
def mK.cut(h:mK e H0 H v xs){k:Nat}(hk:k<=xs.length){z:Int}(i:z=k)(kk:OA) :
 ∃g,Op.aA 1 [B5,B1 0,B5] [v,.int kk z]=B1 g/\mK e H0 H g (xs.take k) /\ ∀b,aM g b->aM v b:=by
 rcases h.own with⟨rfl,rfl⟩|⟨b,m,rest,rfl,j,l,o,p⟩
 .have:k=0:=by simpa using hk
  subst this;refine⟨.nils,?_,(by grind),λ b hb=>hb⟩;have c:bound B5 0 0=B1 0:=rfl;simp[Op.aA,arg,jL,dh,c,ti i (qm 0)]
 .have e1:∀n,I4 n n=true:=λ n=>by simp
  have a:∀d m,bound B5 d m=B1 d:=λ _ _=>rfl;have f:=kz (show k<=m-0 by omega);refine⟨.gslice b (0+0) m 1 (cond (I4 0 0) 0 (0*1)) (k-0),by simp only[Op.aA,arg,jL,zk,qr,dh,a,ti i (show k<=m-0 by omega),e1,f,kz (xw m),zy,xt],⟨.inr ⟨b,m,(xs.drop k).flatMap iz++rest,?_,j,l,?_,?_⟩,h.fr⟩,λ b hb=>⟨by simp,hb.2⟩⟩
  .grind
  .grind [xO]
  grind [yu]
def mK.push(h:mK e H0 H v xs){x:Nat}{zero:List AV}{bytes:Nat}(F:zero.length=1)(D:(xs.length+1)*bytes<=140737488355328)(u:xs.length+1<=140737488355328){K:bE->(Nat->AV)->Bool->AV->ar->Prop}{m:Bool}
 (hk:∀z H',mK e H0 H' z (xs ++ [x])->Fr (aM v) H H'->(∀b,aM z b->aM v b\/H.au<=b)->K (.row [.int .i64 (x:Int)] e (0,0) B4) (Op.sliceTo 1 1) m z H') :
 jB m (Op.buildSlice e 1 zero [(0,1)] [.int .i64 (x:Int)]) λ g o mk=>jB g (Op.append e 1 bytes [v,mk H.au] (H.alloc o)) (K o mk):=by
 have hb:Op.buildSlice e 1 zero [(0,1)] [.int .i64 (x:Int)]=B1 (.row [.int .i64 (x:Int)] e (0,0) B4,Op.sliceTo 1 1):=Xd e 1 zero (.int .i64 (x:Int)) F rfl;rw[hb];have f:Fr Em H (H.alloc (.row [.int .i64 (x:Int)] e (0,0) B4)):=(Fr.refl H).alloc _;have k:Sl (H.alloc (.row [.int .i64 (x:Int)] e (0,0) B4)) 1 (Op.sliceTo 1 1 H.au) 1 [.int .i64 (x:Int)]:=Cr rfl;have e1:∀n,I4 n n=true:=λ n=>by simp
 have ha:aN [AV.int .i64 (x:Int)]=true:=rfl;have j:Oz 0 1=true:=rfl;have l:I4 1 0=false:=rfl;have d:=Td D u;refine jB.intro rfl ?_;rcases h.own with⟨rfl,rfl⟩|⟨b,i,rest,rfl,G,y,A,I⟩
 .have d:fits 1 bytes=true:=by simpa using d
  refine jB.intro (a:=.gslice (H.au+1) 0 1 1 0 1) (b:=(H.alloc (.row [.int .i64 (x:Int)] e (0,0) B4)).alloc (.grown 1 1 [.int .i64 (x:Int)] e (0,0))) ?_ (hk _ _ ⟨.inr ⟨H.au+1,1,[],rfl,?_,?_,rfl,?_⟩,?_⟩ ((f.alloc _).mono λ _ _ q=>q.elim) λ b hb=>.inr ?_)
  .simp only[Op.append,k.eJ,k.first,qr,ha,xt,cQ,l,zo,d,j,zy,dC,xy]
  .grind [xy]
  .have:=h.fr.au;omega
  .exact xp ..
  .exact (h.fr.em f).alloc _
  .rw [hb.2];show H.au<=H.au+1;omega
 .have p:(H.alloc (.row [.int .i64 (x:Int)] e (0,0) B4)).get b=B1 (.grown i 1 (xs.flatMap iz++rest) e (0,0)):=by grind [wx]
  cases rest with
  |nil =>
   have hm:i=xs.length:=by simpa using A
   subst hm;have s:Nz (0+xs.length+1) xs.length=false:=by grind [uo]
   have t:=kz (show 0+xs.length<=xs.length by omega);have B:=kz (xw (xs.length*1));refine jB.intro (a:=.gslice (H.au+1) 0 (xs.length+1) 1 0 (xs.length+1)) (b:=((H.alloc (.row [.int .i64 (x:Int)] e (0,0) B4)).kill b).alloc (.grown (xs.length+1) 1 (xs.flatMap iz ++ [.int .i64 (x:Int)]) e (0,0))) ?_ (hk _ _ ⟨.inr ⟨H.au+1,xs.length+1,[],?_,?_,?_,?_,?_⟩,?_⟩ ?_ λ b hb=>.inr ?_)
   .simp only[Op.append,k.eJ,k.first,qr,ha,xt,cQ,zo,e1,t,j,zy,s,d,p,B,dC,GK,xy,px,zq,I4]
   .grind
   .grind [xy,GK]
   .omega
   .grind
   .grind [xp,iz,GK,xy]
   .exact ((h.fr.em f).kill (.inr y)).alloc _
   .exact (Fr.kill (W:=aM (AV.gslice b 0 xs.length 1 0 xs.length)) (f.mono λ _ _ q=>q.elim) (.inl ⟨by simp,rfl⟩)).alloc _
   .rw [hb.2];show H.au<=H.au+1;omega
  |cons r rest =>
   have s:=kz (show 0+xs.length+1<=i by simp at A;omega);have t:=kz (show 0+xs.length<=i by omega);have w:(H.alloc (.row [.int .i64 (x:Int)] e (0,0) B4)).store b ((0+xs.length)*1) [.int .i64 (x:Int)]=B1 ((H.alloc (.row [.int .i64 (x:Int)] e (0,0) B4)).set b (.grown i 1 ((xs ++ [x]).flatMap iz++rest) e (0,0))):=by
    have E:dD (0,0) ((0+xs.length)*1) (cR [AV.int .i64 (x:Int)])=true:=by simp[dD]
    simp only[ar.store,ha,xt,p,E,AF];rw[xg (by grind [xO]),qr];congr 4;rw[ya,Nat.mul_one,PB (by rw[xO];omega),zd (by rw[xO];omega),kh]
    .rfl
    .rw [ya,Nat.mul_one,show[AV.int .i64 (x:Int)].length=1 from rfl,G2,jj (by rw[xO];omega),xO];simp
   refine jB.intro (a:=.gslice b 0 i 1 0 (xs.length+1)) (b:=(H.alloc (.row [.int .i64 (x:Int)] e (0,0) B4)).set b (.grown i 1 ((xs ++ [x]).flatMap iz++rest) e (0,0))) ?_ (hk _ _ ⟨.inr ⟨b,i,rest,?_,?_,y,?_,?_⟩,?_⟩ ?_ λ c C=>.inl ⟨by simp,C.2⟩)
   .simp only[Op.append,k.eJ,k.first,qr,ha,xt,cQ,l,zo,e1,t,j,zy,s,w]
   .grind
   .grind [tj,xy]
   .grind
   .exact xb ..
   .exact (h.fr.em f).set (.inr y) _
   .exact Fr.set (W:=aM (AV.gslice b 0 i 1 0 xs.length)) (f.mono λ _ _ q=>q.elim) (.inl ⟨by simp,rfl⟩) _
end
end Go.Am
namespace Go.Am
def QU{len size b o:Nat}{k:OA}{j:Int}{i:Nat}(c:j=i)(a:i<len):Op.aV len size [.ptr b o,.int k j]=B1 (.ptr b (o+i*size)):=by
 simp only[Op.aV,ME c a,qr]
def RN{k:OA}{a:Nat}{b:Int}(hb:0<b):Op.bin .rem [.int k (a:Int),.int k b]=B1 (.int k ((a % b.toNat:Nat):Int)):=by
 grind [uR]
namespace Lang
def ints(l:List Nat):List Int:=l.map λ(n:Nat)=>(n:Int)
end Lang
end Go.Am
namespace Go.Am
def Ry(k k':OA)(a:Int)(n:Nat):Op.bin .shr [.int k a,.int k' n]=B1 (.int k (a.fdiv (2 ^ (min n k.bits)))):=by
 have e:AJ (n:Int) 0=false:=by rw[LZ];simp
 simp_all[Op.bin,nN,eh,tq]
def J0(k k':OA)(a:Int)(n:Nat):Op.bin .shl [.int k a,.int k' n]=B1 (.int k (aj k (a*2 ^ (min n k.bits)))):=by
 have e:AJ (n:Int) 0=false:=by rw[LZ];simp
 simp_all[Op.bin,nN,eh,tq]
end Go.Am
namespace Go.Am
namespace Lang
structure iQ where
 op:Int
 a:Int
 b:Int
 c:Int
 AO:Int
def FZ(o:Nat)(x y:Int):Int :=
 if o=4 then aj .u64 (x+y)else if o=5 then aj .u64 (x-y)else if o=6 then aj .u64 (x*y)
 else if o=7 then aj .u64 ((BH 64 x &&& BH 64 y).toNat)else if o=8 then aj .u64 ((BH 64 x ^^^ BH 64 y).toNat)
 else if o=9 then aj .u64 (x*2 ^ (y % 64).toNat)else aj .u64 (x / 2 ^ (y % 64).toNat)
structure py where
 kind:Int
 au:Int
 pO:Int
 value:Int
 addr:Int
def ir:py:=⟨0,0,0,0,0⟩
def pC(op:Nat):List UInt8 :=
 if op=2 then[65,73]else if op=3 then[65,66]else if 4<=op/\op<=10 then[65,66,67]
 else if op=11\/op=12\/op=14\/op=15\/op=16 then[65,66,73]else if op=13 then[73]else[]
def iQ.mL(i:iQ):Prop:=1<=i.op/\i.op<=18/\(65∈pC i.op.toNat->0<=i.a/\i.a<8)/\(66∈pC i.op.toNat->0<=i.b/\i.b<8)/\(67∈pC i.op.toNat->0<=i.c/\i.c<8)
instance(i:iQ):Decidable i.mL:=inferInstanceAs (Decidable (_/\_))
def qA(n:Int):Nat:=(BH 64 n &&& 7#64).toNat
def rg(rs:List Int)(n:Int):Int:=rs.getD (qA n) 0
def nR(i:iQ)(pc:Int)(q:Bool):py:=if q=B4 then(if i.AO<0\/1024<i.AO then ir else⟨2,i.AO,0,0,0⟩)else⟨2,pc+1,0,0,0⟩
def iQ.fZ(i:iQ)(rs:List Int)(pc:Int):py :=
 if¬i.mL\/pc<0\/1024<=pc then ir
 else if i.op=1 then⟨7,pc+1,0,0,0⟩
 else if i.op=2 then⟨1,pc+1,i.a,aj .u64 i.AO,0⟩
 else if i.op=3 then⟨1,pc+1,i.a,rg rs i.b,0⟩
 else if i.op<=10 then⟨1,pc+1,i.a,FZ i.op.toNat (rg rs i.b) (rg rs i.c),0⟩
 else if i.op=11 then⟨3,pc+1,i.a,0,aj .u64 (rg rs i.b+aj .u64 i.AO)⟩
 else if i.op=12 then⟨4,pc+1,0,rg rs i.a,aj .u64 (rg rs i.b+aj .u64 i.AO)⟩
 else if i.op=13 then nR i pc B4
 else if i.op=14 then nR i pc (decide (rg rs i.a=rg rs i.b))
 else if i.op=15 then nR i pc (decide (rg rs i.a≠rg rs i.b))
 else if i.op=16 then nR i pc (decide (rg rs i.a<rg rs i.b))
 else if i.op=17 then⟨5,pc+1,0,0,0⟩
 else⟨6,pc+1,0,0,0⟩
end Lang
end Go.Am
namespace Go.Am
def qU(AP:ak)(g:Nat)(pre cap:List AV)(N O:Nat->Prop)(H0:ar)(xs:List (List AV)):Prop :=
 ∀(L:Nat)(R:Nat->(Nat->Prop)->ar->Prop)(S:(Nat->Prop)->ar->Prop)(W0:Nat->Prop)(H:ar),
  H0.au<=H.au->(∀b,N b\/O b->b<H0.au/\H.get b=H0.get b /\ ¬W0 b)->R 0 W0 H->(∀b,W0 b->b<H.au) ->
  (∀i W H H',R i W H->(∀b,W b->H'.get b=H.get b)->H.au<=H'.au->R i W H')->(∀W H H',S W H->(∀b,W b->H'.get b=H.get b)->H.au<=H'.au->S W H') ->
  (∀(i:Nat)x,xs[i]? = B1 x -> ∀W H',R i W H'->(∀b,W b->b<H'.au/\(W0 b\/H.au<=b))->Fr (λ b=>W0 b\/O b) H H' ->
   ∃bb H'' W',sI AP L x H' (.ret (.bool bb)) H''/\Fr W H' H''/\(∀b,W' b->b<H''.au/\(W b\/H'.au<=b))/\(bb=B4->R (i+1) W' H'')/\(bb=B2->S W' H'')) ->
  ∃v H' W',CALL AP g (pre++(.fn (.yield L) [] []::cap)) H (.ret v) H'/\Fr (λ b=>W0 b\/O b) H H'/\(∀b,W' b->b<H'.au/\(W0 b\/H.au<=b))/\(R xs.length W' H'\/S W' H')
section
variable{AP:ak}
def xno{f:Nat}{fn:bZ}{k:Nat}{lp:dV}(hf:AP.func f=B1 fn)(hk:nth fn.loops k=B1 lp){tm:T AV}{aZ:List aL}{up:Option aH}{H:ar}{Q:cP}
 {g:Nat} {pre cap:List AV} {N O:Nat->Prop} {H0:ar} {xs:List (List AV)} (nj:qU AP g pre cap N O H0 xs)
 (P:Nat->(Nat->Prop)->ar->Prop) (y:aX->(Nat->Prop)->ar->Prop) (m:Nat->Prop)
 (hn:H0.au<=H.au) (hN:∀b,N b\/O b->b<H0.au/\H.get b=H0.get b /\ ¬m b) (hW0:∀b,m b->b<H.au) (h0:P 0 m H)
 (loc:∀i W H H',P i W H->(∀b,W b->H'.get b=H.get b)->H.au<=H'.au->P i W H') (w:∀e W H H',y e W H->(∀b,W b->H'.get b=H.get b)->H.au<=H'.au->y e W H')
 (z:∀(L d i:Nat)x,xs[i]? = B1 x->H.au<=L -> ∀W H1,P i W H1->(∀b,W b->b<H1.au/\(m b\/H.au<=b))->Fr (λ b=>m b\/O b) H H1 -> ¬W L->L<H1.au->H1.get L=B1 (.loop .ready B5 f k tm d) ->
  ∃D,Mi tm lp.params x=B1 D/\WP AP ⟨B1 L,f⟩ lp.assign ⟨D,[],B5,H1⟩ λ e dk=>e=.normal/\dk.H.get L=B1 (.loop .ready B5 f k tm d) /\
   WP AP ⟨B1 L,f⟩ lp.body ⟨dk.tm,dk.aZ,dk.up,dk.H.set L (.loop .busy B5 f k tm d)⟩ λ e2 a=>a.aZ=[]/\a.H.get L=B1 (.loop .busy B5 f k tm d) /\
    ∃W':Nat->Prop,(∀b,W' b->b<a.H.au/\(W b\/H1.au<=b))/\Fr (λ b=>W b\/b=L) H1 a.H/\(e2=.normal/\P (i+1) W' a.H\/gH e2/\y e2 W' a.H))
 (M:∀d W' H',H.au<=d->d<H'.au->H'.get d=B1 (.deferred (B1 []))->Fr (λ b=>m b\/O b) H H'->(∀b,W' b->b<H'.au/\(m b\/H.au<=b)/\b≠d)->P xs.length W' H'->Q .normal ⟨tm,.iy d::aZ,up,H'⟩)
 (C:∀e d W' H',gH e->H.au<=d->d<H'.au->H'.get d=B1 (.deferred (B1 []))->Fr (λ b=>m b\/O b) H H'->(∀b,W' b->b<H'.au/\(m b\/H.au<=b)/\b≠d)->y e W' H'->Q e ⟨tm,.iy d::aZ,up,H'⟩) :
 Jr AP ⟨B5,f⟩ k ⟨tm,aZ,up,H⟩ Q (.fn (.func g) pre cap):=by
 let d:=H.au
 let L:=H.au+1
 let Hd:=H.alloc (.deferred (B1 []))
 let HL:=Hd.alloc (.loop .ready B5 f k tm d)
 have hHL:HL.au=H.au+2:=rfl;have hgL:HL.get L=B1 (.loop .ready B5 f k tm d):=xp Hd _;have hgd:HL.get d=B1 (.deferred (B1 [])):=by rw[show HL.get d=Hd.get d from wx (by show H.au<H.au+1;omega) _];exact xp H _
 have R:Fr Em H HL:=((Fr.refl H).alloc _).alloc _;have hold:∀b,b<H.au->HL.get b=H.get b:=λ b hb=>R.ah b hb (λ q=>q);have⟨v,H',W',hc,B,J,hres⟩:=nj L
  (λ i W H'=>∃V:Nat->Prop,(∀b,V b->W b)/\W L /\ ¬V L /\ ¬W d/\(∀b,W b->V b\/b=L)/\P i V H'/\H'.get L=B1 (.loop .ready B5 f k tm d)/\L<H'.au)
  (λ W H'=>∃(V:Nat->Prop)(e:aX)(j:ic),(∀b,V b->W b)/\W L /\ ¬V L /\ ¬W d/\(∀b,W b->V b\/b=L)/\gH e/\kV e=B1 j/\y e V H'/\H'.get L=B1 (.loop .done (B1 j) f k tm d)/\L<H'.au)
  (λ b=>m b\/b=L) HL (by omega)
  (by grind)
  (by grind)
  (by grind)
  (λ i W H1 n⟨V,v1,v2,E,v4,v5,v6,F,G⟩hs hle=>⟨V,v1,v2,E,v4,v5,(by grind),by grind,qn G hle⟩)
  (by grind)
  (λ i x hx W H1⟨V,v1,v2,E,v4,v5,v6,F,G⟩hb U=>by
   have hLn0:L=H.au+1:=rfl;have S:Fr (λ b=>m b\/O b) H H1:=⟨(by omega),λ b hb hw=>by rw[U.ah b (by omega) (by grind),hold b hb]⟩
   have wM:∀b,V b->b<H1.au/\(m b\/H.au<=b):=λ b q=>(by grind)
   have⟨D,hbp,hw⟩:=z L d i x hx (by show H.au<=H.au+1;omega) V H1 v6 wM S E G F;obtain⟨e,n,hr,bb,rfl,c,k1,k2,k3,k4⟩:=q6l (Q:=λ e n=>∃bb,e=.ret (.bool bb) /\ ∃c:Nat->Prop,Fr W H1 n/\(∀b,c b->b<n.au/\(W b\/H1.au<=b)) /\
    (bb=B4 -> ∃V:Nat->Prop,(∀b,V b->c b)/\c L /\ ¬V L /\ ¬c d/\(∀b,c b->V b\/b=L)/\P (i+1) V n/\n.get L=B1 (.loop .ready B5 f k tm d)/\L<n.au) /\
    (bb=B2 -> ∃(V:Nat->Prop)(e:aX)(j:ic),(∀b,V b->c b)/\c L /\ ¬V L /\ ¬c d/\(∀b,c b->V b\/b=L)/\gH e/\kV e=B1 j/\y e V n/\n.get L=B1 (.loop .done (B1 j) f k tm d)/\L<n.au)) F hf hk hbp
    (pY hw λ e dk⟨he,hgl,hw2⟩=>by
     subst he;show bR aI (beginRound dk.H L) _;have:beginRound dk.H L=B1 (dk.H.set L (.loop .busy B5 f k tm d)):=by grind [beginRound]
     rw[this];refine pY hw2 λ e2 a⟨hd2,hg2,W',w1,w2,w3⟩=>⟨hd2,?_⟩
     have I:L<a.H.au:=qn G w2.au;have hd1:d<H1.au:=by omega
     have fin:∀s p,Fr W H1 (a.H.set L (.loop s p f k tm d)):=λ s p=>⟨w2.au,λ b hb hw=>by
      rw[ar.aK,qy (by grind)];exact w2.ah b hb λ q=>(by grind)⟩
     have hW'L:∀b,(W' b/\b≠L)->(a.H.set L (.loop .ready B5 f k tm d)).get b=a.H.get b:=λ b hb=>by rw[ar.aK,qy (λ q=>hb.2 q.symm)]
     have Z:¬W' L:=λ q=>by
      grind
     have hnd:¬W' d:=λ q=>by
      grind
     have r:d≠L:=by omega
     have bounds:∀b,(W' b\/b=L)->b<a.H.au/\(W b\/H1.au<=b):=λ b hb=>hb.elim (by grind) λ q=>by grind
     rcases w3 with⟨rfl,w3⟩|⟨X,w3⟩
     .show bR aI (cW a.H L (cond B4 .ready .done) B5) _;have:cW a.H L .ready B5=B1 (a.H.set L (.loop .ready B5 f k tm d)):=by simp_all[cW]
      rw[xt,this];refine⟨B4,rfl,λ b=>W' b\/b=L,fin _ _,bounds,λ _=>⟨W',λ b hb=>.inl hb,.inr rfl,Z,λ q=>q.elim hnd r,λ b hb=>hb,loc _ _ _ _ w3 (by grind) (qm _),xb _ _ _,I⟩,λ h=>by cases h⟩
     .obtain ⟨j,Y⟩:∃j,kV e2=B1 j:=by cases e2<;>first|exact X.elim|exact⟨_,rfl⟩
      have hnn:AA e2=false:=by cases e2<;>first|exact X.elim|rfl
      have l:∀(A:Prop),(bR aI (cW a.H L (cond (AA e2) .ready .done) (kV e2)) λ H=>∃bb,(bM.ret (.bool (AA e2))=.ret (.bool bb)) /\ ∃c:Nat->Prop,Fr W H1 H/\(∀b,c b->b<H.au/\(W b\/H1.au<=b)) /\
       (bb=B4 -> ∃V:Nat->Prop,(∀b,V b->c b)/\c L /\ ¬V L /\ ¬c d/\(∀b,c b->V b\/b=L)/\P (i+1) V H/\H.get L=B1 (.loop .ready B5 f k tm d)/\L<H.au) /\
       (bb=B2 -> ∃(V:Nat->Prop)(e:aX)(j:ic),(∀b,V b->c b)/\c L /\ ¬V L /\ ¬c d/\(∀b,c b->V b\/b=L)/\gH e/\kV e=B1 j/\y e V H/\H.get L=B1 (.loop .done (B1 j) f k tm d)/\L<H.au)):=λ _=>by
       have:cW a.H L .done (B1 j)=B1 (a.H.set L (.loop .done (B1 j) f k tm d)):=by grind [cW]
       rw[hnn,Y,zo,this];refine⟨B2,rfl,λ b=>W' b\/b=L,fin _ _,bounds,λ h=>(by cases h),λ _=>⟨W',e2,j,λ b hb=>.inl hb,.inr rfl,Z,λ q=>q.elim hnd r,λ b hb=>hb,X,Y,w _ _ _ _ w3 (λ b hb=>by rw[ar.aK,qy (by grind)]) (qm _),xb _ _ _,I⟩⟩
      cases e2 with
      |normal=>exact X.elim
      |panic _=>exact X.elim
      |exit _=>exact l True
      |goto _=>exact l True
      |ret=>exact l True)
   exact⟨bb,n,c,hr,k1,k2,k3,k4⟩)
 have r:d≠L:=by omega
 have hdW:¬((m d\/d=L)\/O d):=λ q=>(by grind)
 have t:H'.get d=B1 (.deferred (B1 [])):=by rw[B.ah d (by omega) hdW];exact hgd
 have K:d<H'.au:=(by omega)
 have u:∀(o:bE),Fr (λ b=>m b\/O b) H (H'.set L o):=λ o=>⟨xx (by omega) B.au,λ b hb hw=>by
  have:L=H.au+1:=rfl;rw[ar.aK,qy (by omega),B.ah b (by omega) (by grind),hold b hb]⟩
 refine⟨.ret v,H',hc,?_⟩;rcases hres with⟨V,v1,v2,E,v4,v5,v6,F,G⟩|⟨V,e,j,v1,v2,E,v4,v5,v6,F,G,v9,v10⟩
 .refine ⟨.ready,B5,f,k,tm,d,F,by simp,?_⟩;refine M d V _ (qm _) K (by rw[ar.aK,qy (λ q=>r q.symm)];exact t) (u _) (λ b hb=>⟨(J b (v1 b hb)).1,?_,λ q=>v4 (by rw[<-q];exact v1 b hb)⟩) (loc _ _ _ _ v6 (λ b hb=>by rw[ar.aK,qy (by rintro rfl;exact E hb)]) (qm _))
  grind
 .refine ⟨.done,B1 j,f,k,tm,d,v9,by simp,?_⟩;have he:rG (B1 j)=e:=by cases e<;>first|exact v6.elim|(cases F;rfl)
  rw[he];refine C e d V _ v6 (qm _) K (by rw[ar.aK,qy (λ q=>r q.symm)];exact t) (u _) (λ b hb=>⟨(J b (v1 b hb)).1,?_,λ q=>v4 (by rw[<-q];exact v1 b hb)⟩) (w _ _ _ _ G (λ b hb=>by rw[ar.aK,qy (by rintro rfl;exact E hb)]) (qm _))
  grind
def yV:List Nat->List AV->Env->Option Env
 |[],[],E=>B1 E
 |t::ts,v::vs,E=>yV ts vs ((t,v)::E)
 |_,_,_=>B5
def ZS(M:ak)(ctx:Ctx)(b:Kp×ai)(L:Nat)(lr lb:bE)(Q:aF):aF:=λ e E D H=>match e with
 | .normal=>H.get L=B1 lr/\W M ctx b B4 Q E D (H.set L lb)
 |_=>False
def A9(M:ak)(ctx:Ctx)(b:Kp×ai)(L:Nat)(lr lb:bE)(Q:aF)(E:Env)(D:List aL)(H:ar):ZS M ctx b L lr lb Q .normal E D H=(H.get L=B1 lr/\W M ctx b B4 Q E D (H.set L lb)):=propext kc
def Qi(P:(Nat->Prop)->ar->Prop)(PS:aX->(Nat->Prop)->ar->Prop)(L:Nat)(lb:bE)(W:Nat->Prop)(H1:ar):aF:=λ e _ D H=>D=[]/\H.get L=B1 lb /\
 ∃W':Nat->Prop,(∀b,W' b->b<H.au/\(W b\/H1.au<=b))/\Fr (λ b=>W b\/b=L) H1 H/\(e=.normal/\P W' H\/gH e/\PS e W' H)
def fX.cons{ks:List Nat}{E:Env}{tm:T AV}(h:fX ks E tm){t:Nat}(v:AV)(c:bK t ks=B4):fX ks ((t,v)::E) (tm.set t v):=λ u x hu=>by
 rw[wC]at hu;split at hu
 .simp_all [T.aK]
 .rename_i e;have⟨a,b⟩:=h u x hu;simp_all[T.aK]
def VQ{ks:List Nat}:∀{ts:List Nat}{vs:List AV}{E b:Env}{tm:T AV},fX ks E tm->(∀t∈ts,bK t ks=B4)->yV ts vs E=B1 b -> ∃a,Mi tm ts vs=B1 a/\fX ks b a
 |[],[],E,b,tm,h,ht,hb=>by cases hb;exact⟨tm,rfl,h⟩
 |[],_::_,_,_,_,_,_,hb=>nomatch hb
 |_::_,[],_,_,_,_,_,hb=>nomatch hb
 |t::ts,v::vs,E,b,tm,h,ht,hb=>VQ (ts:=ts) (vs:=vs) (h.cons v (by grind)) (by grind) hb
def iE.iter{f:Nat}{fn:bZ}{k:Nat}{lp:dV}(Z:AP.func f=B1 fn)(hk:nth fn.loops k=B1 lp){ks:List Nat}{ts:List Nat}(hp:lp.params=ts)(A:∀t∈ts,bK t ks=B4){pa pb:Kp×ai}(ha:pa.1.ah=ks/\pa.2=lp.assign)(hb:pb.1.ah=ks/\pb.2=lp.body)
 {E:Env} {D:List aL} {H:ar} {Q:aF} {g:Nat} {pre cap:List AV} {N O:Nat->Prop} {H0:ar} {xs:List (List AV)} (nj:qU AP g pre cap N O H0 xs)
 (P:Nat->(Nat->Prop)->ar->Prop) (h:aX->(Nat->Prop)->ar->Prop) (a:Nat->Prop)
 (hn:H0.au<=H.au) (T:∀b,N b\/O b->b<H0.au/\H.get b=H0.get b /\ ¬a b) (q:∀b,a b->b<H.au) (M:P 0 a H)
 (loc:∀i W H H',P i W H->(∀b,W b->H'.get b=H.get b)->H.au<=H'.au->P i W H') (l:∀e W H H',h e W H->(∀b,W b->H'.get b=H.get b)->H.au<=H'.au->h e W H')
 (c:∀(L i:Nat)(lr lb:bE)x,xs[i]? = B1 x->H.au<=L -> ∀W' H1,P i W' H1->(∀b,W' b->b<H1.au/\(a b\/H.au<=b))->Fr (λ b=>a b\/O b) H H1 -> ¬W' L->L<H1.au->H1.get L=B1 lr ->
  ∃m,yV ts x E=B1 m/\W AP ⟨B1 L,f⟩ pa B4 (ZS AP ⟨B1 L,f⟩ pb L lr lb (Qi (P (i+1)) h L lb W' H1)) m [] H1)
 (F:∀d W' H',H.au<=d->d<H'.au->H'.get d=B1 (.deferred (B1 []))->Fr (λ b=>a b\/O b) H H'->(∀b,W' b->b<H'.au/\(a b\/H.au<=b)/\b≠d)->P xs.length W' H'->Q .normal E (.iy d::D) H')
 (z:∀e d W' H',gH e->H.au<=d->d<H'.au->H'.get d=B1 (.deferred (B1 []))->Fr (λ b=>a b\/O b) H H'->(∀b,W' b->b<H'.au/\(a b\/H.au<=b)/\b≠d)->h e W' H'->Q e E (.iy d::D) H') :
 iE AP ks ⟨B5,f⟩ k E D H Q (.fn (.func g) pre cap):=by
 intro tm up he;refine xno Z hk nj P h a hn T q M loc l ?_ (by grind) (by grind);intro L d i x hx S W' H1 U V s y p w;have⟨m,o,hw⟩:=c L i (.loop .ready B5 f k tm d) (.loop .busy B5 f k tm d) x hx S W' H1 U V s y p w;have⟨C,X,r⟩:=VQ he A o;refine⟨C,by grind,?_⟩;rw[lM]at hw;have:=W3.wp _ _ (qm _) (up:=B5) hw (by rw[ha.1];exact r);rw[ha.2]at this;refine pY this λ e dk⟨B,J,n,G⟩=>?_;cases e with
 |normal =>
  have⟨hg,j⟩:=G;refine⟨rfl,hg,?_⟩;rw[lM]at j;have:=W3.wp _ _ (qm _) (up:=B5) j (show fX pb.1.ah J dk.tm by rw[hb.1,<-ha.1];exact n);rw[hb.2]at this;rw[B];refine pY this λ e2 st2⟨I,E2,R,Y,u,K,k1,k2,k3⟩=>⟨Y,u,K,k1,k2,k3⟩
 |_=>exact G.elim
def JH(rs:List eC)(Q:bM->ar->Prop)(E:Env)(d:Nat)(H:ar):eH AP rs Q .ret E [.iy d] H=(H.get d=B1 (.deferred (B1 []))/\i9 E (H.set d (.deferred B5)) rs λ l=>Q (.ret (jH l)) (H.set d (.deferred B5))):=propext kc
end
end Go.Am
namespace Go.Am
structure Act where
 kind:Int
 core:Int
 n:Int
deriving DecidableEq
def Act.enc(a:Act):List AV:=[.int .i64 a.kind,.int .i64 a.core,.int .i64 a.n]
def Act.len(a:Act):a.enc.length=3:=rfl
def Act.one(a:Act):aN a.enc=true:=rfl
def Bytes(bs:List Int):Prop:=∀b∈bs,0<=b/\b<256
def Bytes.get{bs:List Int}(h:Bytes bs){i:Nat}{b:Int}(hb:bs[i]? = B1 b):0<=b/\b<256:=h b (ze hb)
end Go.Am
namespace Go.Am
def ta(AP:ak)(g:Nat)(pre cap:List AV)(N O:Nat->Prop)(I:Nat->ar->Prop)(H0:ar)(xs:List (List AV)):Prop :=
 ∀(L:Nat)(R:Nat->(Nat->Prop)->ar->Prop)(S:(Nat->Prop)->ar->Prop)(W0:Nat->Prop)(H:ar),
  H0.au<=H.au->(∀b,N b\/O b->b<H0.au/\H.get b=H0.get b /\ ¬W0 b)->R 0 W0 H->(∀b,W0 b->b<H.au) ->
  (∀i W H H',R i W H->(∀b,W b->H'.get b=H.get b)->H.au<=H'.au->R i W H')->(∀W H H',S W H->(∀b,W b->H'.get b=H.get b)->H.au<=H'.au->S W H') ->
  (∀i W H',R i W H'->I i H') ->
  (∀(i:Nat)x,xs[i]? = B1 x -> ∀W H',R i W H'->(∀b,W b->b<H'.au/\(W0 b\/H.au<=b))->Fr (λ b=>W0 b\/O b) H H' ->
   ∃bb H'' W',sI AP L x H' (.ret (.bool bb)) H''/\Fr W H' H''/\(∀b,W' b->b<H''.au/\(W b\/H'.au<=b))/\(bb=B4->R (i+1) W' H'')/\(bb=B2->S W' H'')) ->
  ∃v H' W',CALL AP g (pre++(.fn (.yield L) [] []::cap)) H (.ret v) H'/\Fr (λ b=>W0 b\/O b) H H'/\(∀b,W' b->b<H'.au/\(W0 b\/H.au<=b))/\(R xs.length W' H'\/S W' H')
section
variable{AP:ak}
def xnn{f:Nat}{fn:bZ}{k:Nat}{lp:dV}(hf:AP.func f=B1 fn)(hk:nth fn.loops k=B1 lp){tm:T AV}{aZ:List aL}{up:Option aH}{H:ar}{Q:cP}
 {g:Nat} {pre cap:List AV} {N O:Nat->Prop} {I:Nat->ar->Prop} {H0:ar} {xs:List (List AV)} (nj:ta AP g pre cap N O I H0 xs)
 (P:Nat->(Nat->Prop)->ar->Prop) (y:aX->(Nat->Prop)->ar->Prop) (m:Nat->Prop)
 (hn:H0.au<=H.au) (hN:∀b,N b\/O b->b<H0.au/\H.get b=H0.get b /\ ¬m b) (hW0:∀b,m b->b<H.au) (h0:P 0 m H)
 (loc:∀i W H H',P i W H->(∀b,W b->H'.get b=H.get b)->H.au<=H'.au->P i W H') (w:∀e W H H',y e W H->(∀b,W b->H'.get b=H.get b)->H.au<=H'.au->y e W H') (hI:∀i W H,P i W H->I i H)
 (z:∀(L d i:Nat)x,xs[i]? = B1 x->H.au<=L -> ∀W H1,P i W H1->(∀b,W b->b<H1.au/\(m b\/H.au<=b))->Fr (λ b=>m b\/O b) H H1 -> ¬W L->L<H1.au->H1.get L=B1 (.loop .ready B5 f k tm d) ->
  ∃D,Mi tm lp.params x=B1 D/\WP AP ⟨B1 L,f⟩ lp.assign ⟨D,[],B5,H1⟩ λ e dk=>e=.normal/\dk.H.get L=B1 (.loop .ready B5 f k tm d) /\
   WP AP ⟨B1 L,f⟩ lp.body ⟨dk.tm,dk.aZ,dk.up,dk.H.set L (.loop .busy B5 f k tm d)⟩ λ e2 a=>a.aZ=[]/\a.H.get L=B1 (.loop .busy B5 f k tm d) /\
    ∃W':Nat->Prop,(∀b,W' b->b<a.H.au/\(W b\/H1.au<=b))/\Fr (λ b=>W b\/b=L) H1 a.H/\(e2=.normal/\P (i+1) W' a.H\/gH e2/\y e2 W' a.H))
 (R:∀d W' H',H.au<=d->d<H'.au->H'.get d=B1 (.deferred (B1 []))->Fr (λ b=>m b\/O b) H H'->(∀b,W' b->b<H'.au/\(m b\/H.au<=b)/\b≠d)->P xs.length W' H'->Q .normal ⟨tm,.iy d::aZ,up,H'⟩)
 (C:∀e d W' H',gH e->H.au<=d->d<H'.au->H'.get d=B1 (.deferred (B1 []))->Fr (λ b=>m b\/O b) H H'->(∀b,W' b->b<H'.au/\(m b\/H.au<=b)/\b≠d)->y e W' H'->Q e ⟨tm,.iy d::aZ,up,H'⟩) :
 Jr AP ⟨B5,f⟩ k ⟨tm,aZ,up,H⟩ Q (.fn (.func g) pre cap):=by
 let d:=H.au
 let L:=H.au+1
 let Hd:=H.alloc (.deferred (B1 []))
 let HL:=Hd.alloc (.loop .ready B5 f k tm d)
 have hHL:HL.au=H.au+2:=rfl;have hgL:HL.get L=B1 (.loop .ready B5 f k tm d):=xp Hd _;have hgd:HL.get d=B1 (.deferred (B1 [])):=by rw[show HL.get d=Hd.get d from wx (by show H.au<H.au+1;omega) _];exact xp H _
 have S:Fr Em H HL:=((Fr.refl H).alloc _).alloc _;have hold:∀b,b<H.au->HL.get b=H.get b:=λ b hb=>S.ah b hb (λ q=>q);have⟨v,H',W',hc,B,K,hres⟩:=nj L
  (λ i W H'=>∃V:Nat->Prop,(∀b,V b->W b)/\W L /\ ¬V L /\ ¬W d/\(∀b,W b->V b\/b=L)/\P i V H'/\H'.get L=B1 (.loop .ready B5 f k tm d)/\L<H'.au)
  (λ W H'=>∃(V:Nat->Prop)(e:aX)(j:ic),(∀b,V b->W b)/\W L /\ ¬V L /\ ¬W d/\(∀b,W b->V b\/b=L)/\gH e/\kV e=B1 j/\y e V H'/\H'.get L=B1 (.loop .done (B1 j) f k tm d)/\L<H'.au)
  (λ b=>m b\/b=L) HL (by omega)
  (by grind)
  (by grind)
  (by grind)
  (λ i W H1 n⟨V,v1,v2,E,v4,v5,v6,F,G⟩hs hle=>⟨V,v1,v2,E,v4,v5,(by grind),by grind,qn G hle⟩)
  (by grind)
  (by grind)
  (λ i x hx W H1⟨V,v1,v2,E,v4,v5,v6,F,G⟩hb X=>by
   have hLn0:L=H.au+1:=rfl;have U:Fr (λ b=>m b\/O b) H H1:=⟨(by omega),λ b hb hw=>by rw[X.ah b (by omega) (by grind),hold b hb]⟩
   have wM:∀b,V b->b<H1.au/\(m b\/H.au<=b):=λ b q=>(by grind)
   have⟨D,hbp,hw⟩:=z L d i x hx (by show H.au<=H.au+1;omega) V H1 v6 wM U E G F;obtain⟨e,n,hr,bb,rfl,c,k1,k2,k3,k4⟩:=q6l (Q:=λ e n=>∃bb,e=.ret (.bool bb) /\ ∃c:Nat->Prop,Fr W H1 n/\(∀b,c b->b<n.au/\(W b\/H1.au<=b)) /\
    (bb=B4 -> ∃V:Nat->Prop,(∀b,V b->c b)/\c L /\ ¬V L /\ ¬c d/\(∀b,c b->V b\/b=L)/\P (i+1) V n/\n.get L=B1 (.loop .ready B5 f k tm d)/\L<n.au) /\
    (bb=B2 -> ∃(V:Nat->Prop)(e:aX)(j:ic),(∀b,V b->c b)/\c L /\ ¬V L /\ ¬c d/\(∀b,c b->V b\/b=L)/\gH e/\kV e=B1 j/\y e V n/\n.get L=B1 (.loop .done (B1 j) f k tm d)/\L<n.au)) F hf hk hbp
    (pY hw λ e dk⟨he,hgl,hw2⟩=>by
     subst he;show bR aI (beginRound dk.H L) _;have:beginRound dk.H L=B1 (dk.H.set L (.loop .busy B5 f k tm d)):=by grind [beginRound]
     rw[this];refine pY hw2 λ e2 a⟨hd2,hg2,W',w1,w2,w3⟩=>⟨hd2,?_⟩
     have J:L<a.H.au:=qn G w2.au;have hd1:d<H1.au:=by omega
     have fin:∀s p,Fr W H1 (a.H.set L (.loop s p f k tm d)):=λ s p=>⟨w2.au,λ b hb hw=>by
      rw[ar.aK,qy (by grind)];exact w2.ah b hb λ q=>(by grind)⟩
     have hW'L:∀b,(W' b/\b≠L)->(a.H.set L (.loop .ready B5 f k tm d)).get b=a.H.get b:=λ b hb=>by rw[ar.aK,qy (λ q=>hb.2 q.symm)]
     have hnV:¬W' L:=λ q=>by
      grind
     have hnd:¬W' d:=λ q=>by
      grind
     have r:d≠L:=by omega
     have bounds:∀b,(W' b\/b=L)->b<a.H.au/\(W b\/H1.au<=b):=λ b hb=>hb.elim (by grind) λ q=>by grind
     rcases w3 with⟨rfl,w3⟩|⟨Y,w3⟩
     .show bR aI (cW a.H L (cond B4 .ready .done) B5) _;have:cW a.H L .ready B5=B1 (a.H.set L (.loop .ready B5 f k tm d)):=by simp_all[cW]
      rw[xt,this];refine⟨B4,rfl,λ b=>W' b\/b=L,fin _ _,bounds,λ _=>⟨W',λ b hb=>.inl hb,.inr rfl,hnV,λ q=>q.elim hnd r,λ b hb=>hb,loc _ _ _ _ w3 (by grind) (qm _),xb _ _ _,J⟩,λ h=>by cases h⟩
     .obtain ⟨j,Z⟩:∃j,kV e2=B1 j:=by cases e2<;>first|exact Y.elim|exact⟨_,rfl⟩
      have hnn:AA e2=false:=by cases e2<;>first|exact Y.elim|rfl
      have l:∀(A:Prop),(bR aI (cW a.H L (cond (AA e2) .ready .done) (kV e2)) λ H=>∃bb,(bM.ret (.bool (AA e2))=.ret (.bool bb)) /\ ∃c:Nat->Prop,Fr W H1 H/\(∀b,c b->b<H.au/\(W b\/H1.au<=b)) /\
       (bb=B4 -> ∃V:Nat->Prop,(∀b,V b->c b)/\c L /\ ¬V L /\ ¬c d/\(∀b,c b->V b\/b=L)/\P (i+1) V H/\H.get L=B1 (.loop .ready B5 f k tm d)/\L<H.au) /\
       (bb=B2 -> ∃(V:Nat->Prop)(e:aX)(j:ic),(∀b,V b->c b)/\c L /\ ¬V L /\ ¬c d/\(∀b,c b->V b\/b=L)/\gH e/\kV e=B1 j/\y e V H/\H.get L=B1 (.loop .done (B1 j) f k tm d)/\L<H.au)):=λ _=>by
       have:cW a.H L .done (B1 j)=B1 (a.H.set L (.loop .done (B1 j) f k tm d)):=by grind [cW]
       rw[hnn,Z,zo,this];refine⟨B2,rfl,λ b=>W' b\/b=L,fin _ _,bounds,λ h=>(by cases h),λ _=>⟨W',e2,j,λ b hb=>.inl hb,.inr rfl,hnV,λ q=>q.elim hnd r,λ b hb=>hb,Y,Z,w _ _ _ _ w3 (λ b hb=>by rw[ar.aK,qy (by grind)]) (qm _),xb _ _ _,J⟩⟩
      cases e2 with
      |normal=>exact Y.elim
      |panic _=>exact Y.elim
      |exit _=>exact l True
      |goto _=>exact l True
      |ret=>exact l True)
   exact⟨bb,n,c,hr,k1,k2,k3,k4⟩)
 have r:d≠L:=by omega
 have hdW:¬((m d\/d=L)\/O d):=λ q=>(by grind)
 have t:H'.get d=B1 (.deferred (B1 [])):=by rw[B.ah d (by omega) hdW];exact hgd
 have M:d<H'.au:=(by omega)
 have u:∀(o:bE),Fr (λ b=>m b\/O b) H (H'.set L o):=λ o=>⟨xx (by omega) B.au,λ b hb hw=>by
  have:L=H.au+1:=rfl;rw[ar.aK,qy (by omega),B.ah b (by omega) (by grind),hold b hb]⟩
 refine⟨.ret v,H',hc,?_⟩;rcases hres with⟨V,v1,v2,E,v4,v5,v6,F,G⟩|⟨V,e,j,v1,v2,E,v4,v5,v6,F,G,v9,v10⟩
 .refine ⟨.ready,B5,f,k,tm,d,F,by simp,?_⟩;refine R d V _ (qm _) M (by rw[ar.aK,qy (λ q=>r q.symm)];exact t) (u _) (λ b hb=>⟨(K b (v1 b hb)).1,?_,λ q=>v4 (by rw[<-q];exact v1 b hb)⟩) (loc _ _ _ _ v6 (λ b hb=>by rw[ar.aK,qy (by rintro rfl;exact E hb)]) (qm _))
  grind
 .refine ⟨.done,B1 j,f,k,tm,d,v9,by simp,?_⟩;have he:rG (B1 j)=e:=by cases e<;>first|exact v6.elim|(cases F;rfl)
  rw[he];refine C e d V _ v6 (qm _) M (by rw[ar.aK,qy (λ q=>r q.symm)];exact t) (u _) (λ b hb=>⟨(K b (v1 b hb)).1,?_,λ q=>v4 (by rw[<-q];exact v1 b hb)⟩) (w _ _ _ _ G (λ b hb=>by rw[ar.aK,qy (by rintro rfl;exact E hb)]) (qm _))
  grind
def iE.sZ{f:Nat}{fn:bZ}{k:Nat}{lp:dV}(hf:AP.func f=B1 fn)(hk:nth fn.loops k=B1 lp){ks:List Nat}{ts:List Nat}(hp:lp.params=ts)(A:∀t∈ts,bK t ks=B4){pa pb:Kp×ai}(ha:pa.1.ah=ks/\pa.2=lp.assign)(hb:pb.1.ah=ks/\pb.2=lp.body)
 {E:Env} {D:List aL} {H:ar} {Q:aF} {g:Nat} {pre cap:List AV} {N O:Nat->Prop} {I:Nat->ar->Prop} {H0:ar} {xs:List (List AV)} (nj:ta AP g pre cap N O I H0 xs)
 (P:Nat->(Nat->Prop)->ar->Prop) (h:aX->(Nat->Prop)->ar->Prop) (a:Nat->Prop)
 (hn:H0.au<=H.au) (U:∀b,N b\/O b->b<H0.au/\H.get b=H0.get b /\ ¬a b) (q:∀b,a b->b<H.au) (R:P 0 a H)
 (loc:∀i W H H',P i W H->(∀b,W b->H'.get b=H.get b)->H.au<=H'.au->P i W H') (l:∀e W H H',h e W H->(∀b,W b->H'.get b=H.get b)->H.au<=H'.au->h e W H') (hI:∀i W H,P i W H->I i H)
 (c:∀(L i:Nat)(lr lb:bE)x,xs[i]? = B1 x->H.au<=L -> ∀W' H1,P i W' H1->(∀b,W' b->b<H1.au/\(a b\/H.au<=b))->Fr (λ b=>a b\/O b) H H1 -> ¬W' L->L<H1.au->H1.get L=B1 lr ->
  ∃m,yV ts x E=B1 m/\W AP ⟨B1 L,f⟩ pa B4 (ZS AP ⟨B1 L,f⟩ pb L lr lb (Qi (P (i+1)) h L lb W' H1)) m [] H1)
 (F:∀d W' H',H.au<=d->d<H'.au->H'.get d=B1 (.deferred (B1 []))->Fr (λ b=>a b\/O b) H H'->(∀b,W' b->b<H'.au/\(a b\/H.au<=b)/\b≠d)->P xs.length W' H'->Q .normal E (.iy d::D) H')
 (z:∀e d W' H',gH e->H.au<=d->d<H'.au->H'.get d=B1 (.deferred (B1 []))->Fr (λ b=>a b\/O b) H H'->(∀b,W' b->b<H'.au/\(a b\/H.au<=b)/\b≠d)->h e W' H'->Q e E (.iy d::D) H') :
 iE AP ks ⟨B5,f⟩ k E D H Q (.fn (.func g) pre cap):=by
 intro tm up he;refine xnn hf hk nj P h a hn U q R loc l hI ?_ (by grind) (by grind);intro L d i x hx T W' H1 V X s y p w;have⟨m,o,hw⟩:=c L i (.loop .ready B5 f k tm d) (.loop .busy B5 f k tm d) x hx T W' H1 V X s y p w;have⟨C,Y,r⟩:=VQ he A o;refine⟨C,by grind,?_⟩;rw[lM]at hw;have:=W3.wp _ _ (qm _) (up:=B5) hw (by rw[ha.1];exact r);rw[ha.2]at this;refine pY this λ e dk⟨B,K,n,G⟩=>?_;cases e with
 |normal =>
  have⟨hg,j⟩:=G;refine⟨rfl,hg,?_⟩;rw[lM]at j;have:=W3.wp _ _ (qm _) (up:=B5) j (show fX pb.1.ah K dk.tm by rw[hb.1,<-ha.1];exact n);rw[hb.2]at this;rw[B];refine pY this λ e2 st2⟨J,E2,S,Z,u,M,k1,k2,k3⟩=>⟨Z,u,M,k1,k2,k3⟩
 |_=>exact G.elim
end
end Go.Am
namespace Go.Am
def fS{α:Type}{L E:List α}{p size:Nat}(b:E.length=size)(hp:p+size<=L.length)(h:∀r,r<size->L[p+r]? = E[r]?):L=L.take p++(E++L.drop (p+size)):=by
 have a:(L.drop p).take size=E:=by
  refine yk λ r=>?_
  grind
 grind [Fy,yu]
def ac9{α:Type}{L E cs:List α}{p size j n:Nat}(d:E.length=size)(f:cs.length=n)(g:j+n<=size)(hp:p+size<=L.length)(h:∀r,r<size->L[p+r]? = E[r]?) :
 L.take (p+j)++cs++L.drop (p+j+n)=L.take p++((E.take j++cs++E.drop (j+n))++L.drop (p+size)):=by
 obtain⟨A,a⟩:∃A,A=L.take p:=⟨_,rfl⟩
 obtain⟨B,b⟩:∃B,B=L.drop (p+size):=⟨_,rfl⟩
 have hl:A.length=p:=by grind
 have c:=fS d hp h;rw[<-a,<-b]at c;rw[<-a,<-b];have e1:L.take (p+j)=A++E.take j:=by
  grind
 have e2:L.drop (p+j+n)=E.drop (j+n)++B:=by
  rw[c,G2,hl,jj (by omega),ji,show p+j+n-p=j+n by omega,List.drop_append_of_le_length (by omega)]
 grind
section
variable{α:Type}{enc:α->List AV}{size:Nat}{H:ar}{v:AV}{xs:List α}
theorem M_(hs:∀x,(enc x).length=size){i:Nat}{x y:α}(a:xs[i]? = B1 x){j n:Nat}{cs:List AV}(b:cs.length=n)(d:j+n<=size)(f:enc y=(enc x).take j++cs++(enc x).drop (j+n)) :
 (xs.flatMap enc).take (i*size+j)++cs++(xs.flatMap enc).drop (i*size+j+n)=(xs.set i y).flatMap enc:=by
 have c:=Js a;have hb:(i+1)*size<=xs.length*size:=j9 _ c;rw[vm]at hb;have hl:=FO hs xs;rw[ac9 (E:=enc x) (size:=size) (hs x) b d (by omega) (by grind [J2]),<-f,Tn hs xs a]
 grind
def gV.Aq{e:Nat}(hs:∀x,(enc x).length=size)(h:gV enc e size H v xs){i:Nat}{x y:α}(k:xs[i]? = B1 x){j n:Nat}{u:AV}(hu:u.cells.length=n)(ho:aN u.cells=B4)(l:j+n<=size)(m:enc y=(enc x).take j++u.cells++(enc x).drop (j+n)) :
 ∃H',Op.store n [.ptr (aG v) (cJ size v i+j),u] H=B1 (.undef,H')/\gV enc e size H' v (xs.set i y)/\Fr (On (aG v)) H H':=by
 obtain⟨b,rfl,d,f⟩:=h;have g:=Js k;have hl:=FO hs xs;have hb:(i+1)*size<=xs.length*size:=j9 _ g;rw[vm]at hb;have c:=xC f (o:=i*size+j) (n:=n) (v:=u) hu (by omega) ho;have a:cJ size (AV.slice b 0 xs.length xs.length) i=i*size:=by simp[cJ]
 rw[a];refine⟨_,c,⟨b,?_,d,?_⟩,(Fr.refl H).set (W:=On b) (.inl rfl) _⟩
 .grind
 grind [xb,M_]
def aO.Aq{e:Nat}(hs:∀x,(enc x).length=size)(h:aO enc e size H v xs){i:Nat}{x y:α}(k:xs[i]? = B1 x){j n:Nat}{u:AV}(hu:u.cells.length=n)(ho:aN u.cells=B4)(l:j+n<=size)(m:enc y=(enc x).take j++u.cells++(enc x).drop (j+n)) :
 ∃H',Op.store n [.ptr (aG v) (cJ size v i+j),u] H=B1 (.undef,H')/\aO enc e size H' v (xs.set i y)/\Fr (aM v) H H':=by
 obtain⟨hl,h|⟨b,rfl,d,f⟩⟩:=h
 .grind
 .have g:=Js k;have hb:(i+1)*size<=xs.length*size:=j9 _ g;rw[vm]at hb;have c:=Te f (o:=i*size+j) (n:=n) (v:=u) hu (by omega) ho;have a:cJ size (AV.gslice b 0 xs.length size 0 xs.length) i=i*size:=by simp[cJ]
  rw[a];refine⟨_,c,⟨?_,.inr ⟨b,?_,d,?_⟩⟩,(Fr.refl H).set (.inl ⟨by simp,rfl⟩) _⟩
  .rw [FO hs]
  .grind
  grind [xb,M_]
def aO.Mu{e:Nat}(hs:∀x,(enc x).length=size)(ho:∀x,aN (enc x)=B4)(h:aO enc e size H v xs){i:Nat}{x:α}(a:xs[i]? = B1 x)(y:α) :
 ∃H',Op.store size [.ptr (aG v) (cJ size v i),.agg (enc y)] H=B1 (.undef,H')/\aO enc e size H' v (xs.set i y)/\Fr (aM v) H H':=by
 have:=h.Aq hs a (y:=y) (j:=0) (n:=size) (u:=.agg (enc y)) (by grind [zp]) (by grind [zp]) (by omega) (by
  rw[zp,yo,ji,jj (by rw[hs];omega),zq])
 omega
def gV.Mu{e:Nat}(hs:∀x,(enc x).length=size)(ho:∀x,aN (enc x)=B4)(h:gV enc e size H v xs){i:Nat}{x:α}(a:xs[i]? = B1 x)(y:α) :
 ∃H',Op.store size [.ptr (aG v) (cJ size v i),.agg (enc y)] H=B1 (.undef,H')/\gV enc e size H' v (xs.set i y)/\Fr (On (aG v)) H H':=by
 have:=h.Aq hs a (y:=y) (j:=0) (n:=size) (u:=.agg (enc y)) (by grind [zp]) (by grind [zp]) (by omega) (by
  rw[zp,yo,ji,jj (by rw[hs];omega),zq])
 omega
end
end Go.Am
namespace Go.Am
open Go.Proofs Ca
variable{M:ak}[MK M]
abbrev uW(x:Int):AV:=.int .u64 x
def az(e:En):List AV:=.int .i64 e.line::.int .i64 e.st::.bool e.r::.bool e.w::(e.d.l.map uW++(e.o.l.map uW ++ [.int .i64 e.u]))
theorem zx(e:En):(az e).length=21:=by simp[az,e.d.h,e.o.h]
def uf(e:En):aN (az e)=true:=by
 rw[vh];unfold az;simp[aB]
def N8{H:ar}{s e:Nat}{a:AV}(h:H.get s=B1 (OR [a] e)){u:AV}(hu:aB u=B4):Op.store 1 [.ptr s 0,u] H=B1 (.undef,H.set s (OR [u] e)):=by
 have d:u.cells=[u]:=by cases u<;>first|rfl|cases hu
 have:=xC h (o:=0) (n:=1) (v:=u) (by rw[d];rfl) (by simp) (by rw[d,vh];simpa using hu);rw[this,d];rfl
def Ce(b:ai)(Q:aF)(E:Env)(D:List aL)(H:ar):kH b Q .normal E D H=Q .normal E D H:=rfl
def uG(b:ai)(Q:aF)(E:Env)(D:List aL)(H:ar):kH b Q .ret E D H=Q .ret E D H:=rfl
def Fq(c:Ca)(sv:AV):List AV:=[.int .i64 (c.fM:Int),.int .i64 (c.ways:Int),sv,.int .i64 c.us]
abbrev eA(sv:AV)(i:Nat):AV:=.ptr (aG sv) (cJ 21 sv i)
structure d9(H:ar)(b:Nat)(sv:AV)(c:Ca):Prop where
 row:H.get b=B1 (OR (Fq c sv) Xv)
 lt:b<H.au
 sl:gV az xk 21 H sv c.sl
 ne:aG sv≠b
 s8:c.fM<=8
 w4:c.ways<=4
 us:0<=c.us/\c.us<=1000000
def d9.em{H H':ar}{b:Nat}{sv:AV}{c:Ca}(h:d9 H b sv c)(f:Fr Em H H'):d9 H' b sv c:=⟨by rw[f.ah _ h.lt id];exact h.row,qn h.lt f.au,h.sl.fr f id,h.ne,h.s8,h.w4,h.us⟩
def d9.fr{H H':ar}{W:Nat->Prop}{b:Nat}{sv:AV}{c:Ca}(h:d9 H b sv c)(f:Fr W H H')(a:¬W b)(d:¬W (aG sv)):d9 H' b sv c:=⟨by rw[f.ah _ h.lt a];exact h.row,qn h.lt f.au,h.sl.fr f d,h.ne,h.s8,h.w4,h.us⟩
def d9.ix{H:ar}{b:Nat}{sv:AV}{c:Ca}(h:d9 H b sv c){i:Nat}(a:i<c.sl.length):Op.aR 21 [sv,.int .i64 (i:Int)]=B1 (eA sv i):=(h.sl.sl zx).idx (FD a) rfl .i64
def d9.ld{H:ar}{b:Nat}{sv:AV}{c:Ca}(h:d9 H b sv c){i:Nat}(a:i<c.sl.length){k:Nat}(hk:k<21):Op.ae [.ptr (aG sv) (cJ 21 sv i+k)] H=(az (c.en i))[k]?:=(h.sl.sl zx).ae zx (FD a) hk
def d9.yX{H:ar}{b:Nat}{sv:AV}{c:Ca}(h:d9 H b sv c){i:Nat}(a:i<c.sl.length):Op.ae [.ptr (aG sv) (cJ 21 sv i)] H=B1 (.int .i64 (c.en i).line):=(h.sl.sl zx).iR zx (FD a) (by decide)
def yr(b o:Nat)(H:ar):Op.eq .ptr B2 [.ptr b o,.nilp] H=B1 (.bool B2):=rfl
def lS(b o:Nat)(H:ar):Op.eq .ptr B4 [.ptr b o,.nilp] H=B1 (.bool B4):=rfl
def Pf(H:ar):Op.eq .ptr B2 [.nilp,.nilp] H=B1 (.bool B4):=rfl
def u7(H:ar):Op.eq .ptr B4 [.nilp,.nilp] H=B1 (.bool B2):=rfl
def Iv(R:Nat->(Nat->Prop)->ar->Prop)(S:(Nat->Prop)->ar->Prop)(W0 O:Nat->Prop)(H:ar)(n:Nat)(v:AV)(H':ar):Prop:=∃W':Nat->Prop,Fr (λ b=>W0 b\/O b) H H'/\(∀b,W' b->b<H'.au/\(W0 b\/H.au<=b))/\(R n W' H'\/S W' H')
def pX(c:Ca)(sv:AV)(line:Int):List (List AV):=if line<0 then[]else(N2 c.ways).map λ k=>[eA sv (c.fr line+k)]
structure Jw(R:Nat->(Nat->Prop)->ar->Prop)(W0:Nat->Prop)(H1 Hx:ar)(i:Nat)(V:Nat->Prop):Prop where
 hR:R i V Hx
 hV:∀b,V b->b<Hx.au/\(W0 b\/H1.au<=b)
 fr:Fr W0 H1 Hx
def xd5{H0:ar}{p q b:Nat}{sv:AV}{c:Ca}{lines line:Int}(o:d9 H0 b sv c)(e:CI lines c)(hp:H0.get p=B1 (OR [.ptr b 0] EI))(hq:H0.get q=B1 (OR [.int .i64 line] cF))(hpl:p<H0.au)(hql:q<H0.au) :
 qU M Pz [] [.ptr p 0,.ptr q 0] (λ x=>x=p\/x=q\/x=b) (λ _=>False) H0 (pX c sv line):=by
 intro Y R S d H1 hnx y z U loc K step;have⟨p1,p2,p3⟩:=y p (.inl (.inl rfl));have⟨q1,N,O⟩:=y q (.inl (.inr (.inl rfl)));have⟨b1,P,Q⟩:=y b (.inl (.inr (.inr rfl)))
 suffices h:zb M Pz [.fn (.yield Y) [] [],.ptr p 0,.ptr q 0] H1 (Iv R S d (λ _=>False) H1 (pX c sv line).length)by
  have⟨v,H',o,W',q1,N,O⟩:=h.elim
  grind
 refine q0n ?_;obtain⟨w0,w6,s,D,F⟩:=q0o M ⟨B5,Pz⟩;have lp:∀{a:ar},Fr d H1 a->Op.ae [.ptr p 0] a=B1 (.ptr b 0):=λ f=>by rw[x9 (xc (by rw[f.ah _ (by omega) p3,p2];exact hp))];rfl
 have L:∀{a:ar},Fr d H1 a->Op.ae [.ptr q 0] a=B1 (.int .i64 line):=λ f=>by rw[x9 (xc (by rw[f.ah _ (by omega) O,N];exact hq))];rfl
 have lb:∀{a:ar}(k:Nat),Fr d H1 a->Op.ae [.ptr b k] a=(Fq c sv)[k]?:=λ k f=>x9 (xc (by rw[f.ah _ (by omega) Q,P];exact o.row)) k;have g:=Fr.refl (W:=d) H1
 by_cases hl:line<0
 .simp only[aa,bc,w0,lp g,yr,L g,hl];exact⟨d,Fr.refl _,λ b hb=>(by grind),(by simp_all[pX])⟩
 have C:(pX c sv line)=(N2 c.ways).map λ k=>[eA sv (c.fr line+k)]:=by simp_all[pX,qy]
 rw[C]at step⊢;rw[xu,jd];have l0:Op.ae [.ptr b 0] H1=B1 (.int .i64 (c.fM:Int)):=lb 0 g;have l1:Op.ae [.ptr b 1] H1=B1 (.int .i64 (c.ways:Int)):=lb 1 g;have rm:Op.bin .rem [.int .i64 line,.int .i64 (c.fM:Int)]=B1 (.int .i64 ((line.toNat % c.fM:Nat):Int)):=by
  have:=e.s0
  grind [uR]
 have J:line.toNat % c.fM<c.fM:=Nat.mod_lt _ e.s0;have h8:=o.s8;have T:=o.w4;have A:(line.toNat % c.fM)*c.ways<=7*4:=Nat.mul_le_mul (by omega) T;have wm:aj .i64 (((line.toNat % c.fM:Nat):Int)*(c.ways:Int))=((c.fr line:Nat):Int):=by
  rw[<-Int.natCast_mul];exact jb (by omega) (by omega)
 have I:c.fr line<=28:=A;simp only[aa,bc,w0,lp g,yr,qo,L g,hl,w6,l0,l1,rm,wm];refine b9.intro (λ n E a=>∃(i:Nat)(V:Nat->Prop),E=[(27,.int .i64 (i:Int)),(26,.int .i64 (c.ways:Int)),(4,.int .i64 ((c.fr line:Nat):Int)),(0,.fn (.yield Y) [] []),(1,.ptr p 0)]/\n=c.ways-i/\i<=c.ways/\Jw R d H1 a i V) ?_ ?_
 .exact ⟨_,_,⟨0,d,rfl,rfl,xw _,⟨z,λ b hb=>(by grind),Fr.refl _⟩⟩,by simp only[aa,bc]⟩
 rintro n E a ⟨i,V,rfl,rfl,hi,hI⟩;rcases xz i c.ways with r|Z
 .have u:(i:Int)<(c.ways:Int):=by omega
  have l2:Op.ae [.ptr b 2] a=B1 sv:=lb 2 hI.fr;have wi:aj .i64 (((c.fr line:Nat):Int)+(i:Int))=((c.fr line+i:Nat):Int):=by grind [jb]
  have ix:=o.ix (e.mO line r);have⟨bb,G,t,hr,X,m,ht,hs⟩:=step i [eA sv (c.fr line+i)] (by rw[xq,kj r];rfl) V a hI.hR hI.hV (hI.fr.mono λ _ _ q=>.inl q);have j:Fr d H1 G:=hI.fr.trans X λ b q=>(hI.hV b q).2;have l:∀b,t b->b<G.au/\(d b\/H1.au<=b):=λ b q=>⟨(m b q).1,(m b q).2.elim (λ w=>(hI.hV b w).2) λ w=>.inr (xx hI.fr.au w)⟩
  have wj:aj .i64 ((i:Int)+1)=((i+1:Nat):Int):=by rw[jb (by omega) (by omega)];omega
  simp only[aa,bc,s,u,D,lp hI.fr,qo,l2,wi,ix];refine C3.tR hr ?_;cases bb with
  |true =>
   simp only[aa,bc,F,wj];exact⟨_,_,⟨i+1,t,rfl,rfl,by omega,⟨ht rfl,l,j⟩⟩,by simp only[aa,bc],by omega⟩
  |false =>
   simp only[aa,bc];exact⟨t,j.mono λ _ _ q=>.inl q,l,.inr (hs rfl)⟩
 .have u:¬(i:Int)<(c.ways:Int):=by omega
  have B:i=c.ways:=by omega
  simp only[aa,bc,s,u];exact⟨V,hI.fr.mono λ _ _ q=>.inl q,hI.hV,.inl (by rw[<-B];exact hI.hR)⟩
def xh2{H:ar}(b:Nat)(line:Int):zb M gX [.ptr b 0,.int .i64 line] H λ v H'=>v=.fn (.func Pz) [] [.ptr H.au 0,.ptr (H.au+1) 0]/\H'=(H.alloc (OR [.ptr b 0] EI)).alloc (OR [.int .i64 line] cF):=by
 refine q7o ?_;obtain⟨H1,e1,-,n1,-⟩:=cq H (OR [.ptr b 0] EI);simp_all[aa,q7p]
structure AtI(c:Ca)(line:Int)(t:Nat)(i:Nat)(V:Nat->Prop)(Hx:ar):Prop where
 vt:V t
 g:Hx.get t=B1 (OR [.nilp] yf)
 lt:t<Hx.au
 no:∀k,k<i->c.nj line k=B2
structure oA(c:Ca)(sv:AV)(line:Int)(t:Nat)(V:Nat->Prop)(Hx:ar):Prop where
 vt:V t
 ex:∃k,k<c.ways/\dI (c.nj line) c.ways=B1 k/\Hx.get t=B1 (OR [eA sv (c.fr line+k)] yf)
 lt:t<Hx.au
def wS(c:Ca)(sv:AV)(line:Int):AV:=match c.pos line with
 |none=>.nilp
 |some i=>eA sv i
def Wm{H:ar}{b:Nat}{sv:AV}{c:Ca}{lines line:Int}(Y:d9 H b sv c)(p:CI lines c):zb M Nu [.ptr b 0,.int .i64 line] H λ v H'=>v=wS c sv line/\Fr Em H H':=by
 refine xac ?_;have⟨w0,wa,wb,w2,w7⟩:=S5 M ⟨B5,Nu⟩;obtain⟨H1,e1,f1,n1,-⟩:=cq H (OR [.int .i64 line] cF);obtain⟨m,e2,D,-,-⟩:=cq H1 (OR [.nilp] yf);have f2:Fr Em H m:=f1.trans D λ _ q=>q.elim;have n2:m.au=H.au+2:=by grind [xy]
 have T:m.get H.au=B1 (OR [.int .i64 line] cF):=by rw[D.ah _ (by omega) id,e1,xp]
 have g2:m.get (H.au+1)=B1 (OR [.nilp] yf):=by grind [xp]
 have cl:AV.cells (.int .i64 line)=[.int .i64 line]:=rfl;have l1:Op.ae [.ptr H.au 0] m=B1 (.int .i64 line):=x9 (xc T) 0;simp only[aa,bc,w0,cl,<-e1,<-e2,n1,w2,l1];refine C3.q (xh2 b line) λ v H5⟨hv,hh⟩=>?_;obtain⟨H3,e3,Q,-,-⟩:=cq m (OR [.ptr b 0] EI);obtain⟨C,e4,E,-,-⟩:=cq H3 (OR [.int .i64 line] cF);rw[<-e3,<-e4]at hh;rw[hv,hh];have n:Fr Em m C:=Q.trans E λ _ q=>q.elim;have R:Fr Em H C:=f2.trans n λ _ q=>q.elim;have n3:H3.au=H.au+3:=by grind [xy]
 have n4:C.au=H.au+4:=by grind [xy]
 have g3:C.get m.au=B1 (OR [.ptr b 0] EI):=by rw[E.ah _ (by omega) id,e3,xp]
 have g4:C.get (m.au+1)=B1 (OR [.int .i64 line] cF):=by grind [xp]
 have F:=Y.em R;have hlt:=Y.lt;have hsb:aG sv<H.au:=Y.sl.lt;have kp:∀{j:ar},Fr (λ x=>(x=H.au+1)\/False) C j->d9 j b sv c/\Op.ae [.ptr H.au 0] j=B1 (.int .i64 line):=λ f =>
  ⟨F.fr f (by grind) (by grind),x9 (xc (by rw[f.ah H.au (by omega) (by grind),n.ah _ (by omega) id];exact T)) 0⟩
 have res:∀{d:Nat}{j:ar}{x:AV},j.get (H.au+1)=B1 (OR [x] yf)->d≠H.au+1->Op.ae [.ptr (H.au+1) 0] (j.set d (.deferred B5))=B1 x:=λ g hd=>by
  rw[x9 (xc (by rw[kr hd];exact g))];rfl
 refine iE.iter (fn:=Uv) (lp:=Ra) (pa:=WC 0) (pb:=VY 0) q7n qrg.1 qrg.2 (by decide) q5b q5c
  (xd5 F p g3 g4 (by omega) (by omega)) (λ i V j=>AtI c line (H.au+1) i V j) (λ e V j=>e=.ret/\oA c sv line (H.au+1) V j) (λ x=>x=H.au+1) (qm _) ?_ ?_ ?_ ?_ ?_ ?_ ?_ ?_
 .grind
 .omega
 .exact ⟨rfl,by rw[n.ah _ (by omega) id];exact g2,by omega,λ k hk=>by omega⟩
 .exact λ i V Ha Hb h hs hn=>⟨h.vt,by rw[hs _ h.vt];exact h.g,qn h.lt hn,h.no⟩
 .rintro e V Ha Hb ⟨he,h⟩ hs hn;have⟨k,k1,O,k3⟩:=h.ex;exact⟨he,h.vt,⟨k,k1,O,by rw[hs _ h.vt];exact k3⟩,qn h.lt hn⟩
 .intro a i lr lb x N hL2 V l o hV G hnL hL6 hgL;unfold pX at N;split at N
  .grind
  rename_i hl;rw[xq,xr]at N;obtain⟨y,hy,rfl⟩:=N;have r:i<c.ways:=by grind
  rw[kj r]at hy;cases hy;refine⟨_,rfl,?_⟩;obtain⟨-,wa,wb,-⟩:=S5 M ⟨B1 a,Nu⟩;simp only[aa,bc,wa,A9];refine⟨hgL,?_⟩;have S:Fr (On a) l (l.set a lb):=(Fr.refl l).set (W:=On a) (.inl rfl) _;have gL:(l.set a lb).get a=B1 lb:=xb ..;have nL:(l.set a lb).au=l.au:=rfl;have⟨Z,lq6⟩:=kp G;have h7:d9 (l.set a lb) b sv c:=Z.fr S (λ(q:b=a)=>by omega) (λ(q:aG sv=a)=>by omega);have K:Op.ae [.ptr H.au 0] (l.set a lb)=B1 (.int .i64 line):=by
   have hg:(l.set a lb).get H.au=l.get H.au:=by grind [kr]
   exact x9 (xc (by rw[hg,G.ah H.au (by omega) (by grind),n.ah _ (by omega) id];exact T)) 0
  have U:a≠H.au+1:=λ q=>(by omega)
  have J:(l.set a lb).get (H.au+1)=B1 (OR [.nilp] yf):=by rw[kr U];exact o.g
  generalize l.set a lb=H7 at *;have hi:=p.mO line r;obtain⟨e,he⟩:∃e,e=c.en (c.fr line+i):=⟨_,rfl⟩
  have l0:Op.ae [.ptr (aG sv) (cJ 21 sv (c.fr line+i))] H7=B1 (.int .i64 e.line):=by rw[he];exact h7.yX hi
  have l1:Op.ae [.ptr (aG sv) (cJ 21 sv (c.fr line+i)+1)] H7=B1 (.int .i64 e.st):=by rw[he];exact h7.ld hi (k:=1) (by decide)
  have s:c.nj line i=(e.st != 0 && e.line == line):=by rw[he];rfl
  have stay:c.nj line i=B2->Qi (λ V j=>AtI c line (H.au+1) (i+1) V j) (λ e V j=>e=.ret/\oA c sv line (H.au+1) V j) a lb V l .normal [] [] H7:=λ hh =>
   ⟨rfl,gL,V,λ b hb=>(by grind),S.mono λ x _ q=>.inr q,.inl ⟨rfl,o.vt,J,by omega,λ k hk=>by
    by_cases q:k=i
    .grind
    .exact o.no k (by omega)⟩⟩
  by_cases L:e.st=0
  .simp only[aa,bc,wb,qo,l1,qv L];exact stay (by rw[s,L];rfl)
  by_cases B:e.line=line
  .have st:=N8 J (u:=eA sv (c.fr line+i)) rfl;simp only[aa,bc,wb,qo,l1,L,l0,K,qv B,st];refine⟨rfl,?_,V,?_,?_,.inr ⟨trivial,rfl,o.vt,⟨i,r,NF r (by grind) o.no,xb ..⟩,?_⟩⟩
   .simp_all [kr,rS]
   .exact λ b hb=>⟨by show b<H7.au;grind,.inl hb⟩
   .exact (S.mono λ x _ q=>.inr q).set (.inl (.inl o.vt)) _
   .show H.au+1<H7.au;omega
  .simp only[aa,bc,wb,qo,l1,L,l0,K,B];exact stay (by rw[s];simp[B])
 .intro d V P hd1 hd2 I z X o;have st:=N8 o.g (u:=.nilp) rfl;have w:d≠H.au+1:=λ q=>by omega
  have gd:(P.set (H.au+1) (OR [.nilp] yf)).get d=B1 (.deferred (B1 [])):=by simp_all[kr,rS]
  have rd:=res (d:=d) (xb P (H.au+1) (OR [.nilp] yf)) w;have t:c.pos line=none:=by
   unfold Ca.pos;split
   .rfl
   .rename_i hl;have A:=o.no;unfold pX at A;rw[qy hl,xu,jd]at A;rw[M9 A];rfl
  simp only[aa,bc,w7,st,JH,rd];refine⟨gd,?_,?_⟩
  .grind [wS]
  .exact (((R.trans (W':=λ x=>x=H.au+1\/False) z λ x q=>(by grind)).set (by omega) _).set (by omega) _)
 .rintro e d V P hj hd1 hd2 I z X ⟨he,hS⟩;subst he;have⟨k,k1,O,k3⟩:=hS.ex;have w:d≠H.au+1:=λ q=>by omega
  have rd:=res (d:=d) k3 w;have t:wS c sv line=eA sv (c.fr line+k):=by
   unfold wS Ca.pos
   by_cases hl:line<0
   .exfalso;obtain⟨L,B,-⟩:=KC O;unfold Ca.nj at B;simp only[zn,bne_iff_ne,ne_eq,beq_iff_eq]at B;have:=(p.ok _ (p.mO line k1) B.1).2.1;omega
   .rw [qy hl,O];rfl
  simp only[aa,bc,JH,rd];refine⟨I,t.symm,?_⟩;exact((R.trans (W':=λ x=>x=H.au+1\/False) z λ x q=>(by grind)).set (.inr (by omega)) _)
end Go.Am
namespace Go.Am
open Go.Proofs Ca
variable{M:ak}[MK M]
def fH{H:ar}{b e n:Nat}{l x:List AV}(h:H.get b=B1 (OR l e))(hl:l.length=n)(d:x.length=n)(a:aN x=B4):Op.store n [.ptr b 0,.agg x] H=B1 (.undef,H.set b (OR x e)):=by
 have st:=xC h (o:=0) (n:=n) (v:=.agg x) (by rw[zp];exact d) (by omega) (by rw[zp];exact a);rw[st,zp,yo,ji,jj (by omega),zq]
def eI{H:ar}{b e n:Nat}{l:List AV}(h:H.get b=B1 (OR l e))(hl:l.length=n):Op.aq n [.ptr b 0] H=B1 (.agg l):=by
 rw[rT (xc h) (by omega),yx,zd (by omega)]
def BD(l:List AV):Op.build l [] []=B1 (.agg l):=rfl
def eZ:[AV.int .i64 0,.int .i64 0,.bool B2,.bool B2,.int .u64 0,.int .u64 0,.int .u64 0,.int .u64 0,.int .u64 0,.int .u64 0,.int .u64 0,.int .u64 0,.int .u64 0,.int .u64 0,.int .u64 0,.int .u64 0,.int .u64 0,.int .u64 0,.int .u64 0,.int .u64 0,.int .i64 0]=az .zero:=rfl
abbrev cG(d:L8):List AV:=d.l.map uW
theorem yi(d:L8):(cG d).length=8:=by simp[cG,d.h]
theorem ue(d:L8):aN (cG d)=true:=by simp_all[vh,aB]
def lZ:[AV.int .u64 0,.int .u64 0,.int .u64 0,.int .u64 0,.int .u64 0,.int .u64 0,.int .u64 0,.int .u64 0]=cG .zero:=rfl
def nE(b:Nat)(sv:AV):Nat->Prop:=λ x=>x=b\/x=aG sv
section
variable{H:ar}{b:Nat}{sv:AV}{c:Ca}{lines line:Int}
theorem d9.set(h:d9 H b sv c){i:Nat}{e:En}{H':ar}(hs:gV az xk 21 H' sv (c.sl.set i e))(f:Fr (On (aG sv)) H H'):d9 H' b sv (c.set i e) :=
 ⟨by rw[f.ah _ h.lt (λ q:b=aG sv=>h.ne q.symm)];exact h.row,qn h.lt f.au,hs,h.ne,h.s8,h.w4,h.us⟩
def d9.dk(h:d9 H b sv c){i:Nat}(g:i<c.sl.length){j:Nat}(k:j<21){u:AV}(hu:aB u=B4){e:En}(he:az e=(az (c.en i)).set j u):∃H',Op.store 1 [.ptr (aG sv) (cJ 21 sv i+j),u] H=B1 (.undef,H')/\d9 H' b sv (c.set i e)/\Fr (On (aG sv)) H H':=by
 have⟨H',d,f,a⟩:=h.sl.zT zx (FD g) k hu he;exact⟨H',d,h.set f a,a⟩
def d9.SA(h:d9 H b sv c){i:Nat}(g:i<c.sl.length){j n:Nat}{u:AV}(hu:u.cells.length=n)(ho:aN u.cells=B4)(k:j+n<=21){e:En}(he:az e=(az (c.en i)).take j++u.cells++(az (c.en i)).drop (j+n)):∃H',Op.store n [.ptr (aG sv) (cJ 21 sv i+j),u] H=B1 (.undef,H')/\d9 H' b sv (c.set i e)/\Fr (On (aG sv)) H H':=by
 have⟨H',d,f,a⟩:=h.sl.Aq zx (FD g) hu ho k he;exact⟨H',d,h.set f a,a⟩
def d9.FC(h:d9 H b sv c){i:Nat}(g:i<c.sl.length)(e:En):∃H',Op.store 21 [.ptr (aG sv) (cJ 21 sv i),.agg (az e)] H=B1 (.undef,H')/\d9 H' b sv (c.set i e)/\Fr (On (aG sv)) H H':=by
 have⟨H',d,f,a⟩:=h.sl.Mu zx uf (FD g) e;exact⟨H',d,h.set f a,a⟩
def d9.stU(h:d9 H b sv c){u:Int}(hu:0<=u/\u<=1000000):∃H',Op.store 1 [.ptr b 3,.int .i64 u] H=B1 (.undef,H')/\d9 H' b sv {c with us:=u}/\Fr (On b) H H':=by
 have st:=xC h.row (o:=3) (n:=1) (v:=.int .i64 u) rfl (by simp[Fq]) rfl;have e:(Fq c sv).take 3++(AV.int .i64 u).cells++(Fq c sv).drop (3+1)=Fq {c with us:=u} sv:=rfl;rw[e]at st;have f:Fr (On b) H (H.set b (OR (Fq {c with us:=u} sv) Xv)):=(Fr.refl H).set (W:=On b) (.inl rfl) _;exact⟨_,st,⟨xb ..,h.lt,h.sl.fr f λ(q:aG sv=b)=>h.ne q,h.ne,h.s8,h.w4,hu⟩,f⟩
def d9.Uq(h:d9 H b sv c)(k:Nat):Op.ae [.ptr b k] H=(Fq c sv)[k]?:=x9 (xc h.row) k
def d9.Ji(h:d9 H b sv c){i:Nat}(a:i<c.sl.length):Op.aq 21 [.ptr (aG sv) (cJ 21 sv i)] H=B1 (.agg (az (c.en i))):=(h.sl.sl zx).aq zx (by decide) (FD a)
def d9.cells(h:d9 H b sv c){i:Nat}(a:i<c.sl.length){j n:Nat}(l:j+n<=21):Op.aq n [.ptr (aG sv) (cJ 21 sv i+j)] H=B1 (.agg (((az (c.en i)).drop j).take n)):=by
 have⟨sb,e,k,d⟩:=h.sl;have hb:aG sv=sb:=by rw[e];rfl
 have ho:cJ 21 sv i=i*21:=by grind [cJ]
 have g:(i+1)*21<=c.sl.length*21:=j9 _ a;have hl:=FO zx c.sl;rw[hb,ho,rT (xc d) (by omega)];have hm:=fS (L:=c.sl.flatMap az) (E:=az (c.en i)) (p:=i*21) (size:=21) (zx _) (by omega) (λ r hr=>J2 zx c.sl (FD a) hr);have f:((c.sl.flatMap az).take (i*21)).length=i*21:=by grind
 have e1:(c.sl.flatMap az).drop (i*21+j)=(az (c.en i)).drop j++(c.sl.flatMap az).drop (i*21+21):=by
  conv=>lhs;rw[hm]
  rw[G2,f,jj (by omega),ji,Oc,List.drop_append_of_le_length (by rw[zx];omega)]
 grind
def d9.Pp(h:d9 H b sv c){i:Nat}(a:i<c.sl.length):Op.aq 8 [.ptr (aG sv) (cJ 21 sv i+4)] H=B1 (.agg (cG (c.en i).d)):=by
 rw[h.cells a (by decide)];have:((az (c.en i)).drop 4).take 8=cG (c.en i).d:=by
  show((cG (c.en i).d++(cG (c.en i).o ++ [AV.int .i64 (c.en i).u]))).take 8=_
  grind [yi]
 rw[this]
def d9.ldO(h:d9 H b sv c){i:Nat}(a:i<c.sl.length):Op.aq 8 [.ptr (aG sv) (cJ 21 sv i+12)] H=B1 (.agg (cG (c.en i).o)):=by
 rw[h.cells a (by decide)];have:((az (c.en i)).drop 12).take 8=cG (c.en i).o:=by
  have e:(az (c.en i)).drop 12=(cG (c.en i).d++(cG (c.en i).o ++ [AV.int .i64 (c.en i).u])).drop 8:=rfl
  grind [yi]
 rw[this]
def Iy(c:Ca)(sv:AV)(line st:Int):AV:=match c.lW line st with
 |none=>.tuple [.nilp,.int .i64 20]
 |some i=>.tuple [eA sv i,.int .i64 0]
def KO(k:d9 H b sv c)(e:CI lines c)(line st:Int):zb M Vp [.ptr b 0,.int .i64 line,.int .i64 st] H λ v H'=>v=Iy c sv line st/\Fr Em H H':=by
 refine xad ?_;obtain⟨w0,w2,h,a,f⟩:=xae M ⟨B5,Vp⟩;simp only[aa,bc,w0,w2,yr,h];refine C3.q (Wm (line:=line) k e) λ v H1⟨m,d⟩=>?_;rw[m];unfold wS Iy lW;cases hp:c.pos line with
 |none =>
  simp only[aa,bc,a,Pf];exact d
 |some i =>
  obtain⟨-,l,-⟩:=e.bD hp;have l1:Op.ae [.ptr (aG sv) (cJ 21 sv i+1)] H1=B1 (.int .i64 (c.en i).st):=(k.em d).ld l (by decide)
  by_cases g:st=0
  .subst g;simp only[aa,bc,a,yr,f];exact d
  by_cases j:(c.en i).st=st
  .simp only[aa,bc,a,yr,g,qo,l1,qv j,f];exact d
  .simp only[aa,bc,a,yr,g,qo,l1,j];exact d
abbrev vo(H:ar)(b:Nat)(sv:AV)(c':Ca)(r:AV):AV->ar->Prop:=λ v H'=>v=r/\d9 H' b sv c'/\Fr (nE b sv) H H'
def vT{H1 a:ar}(f:Fr (On (aG sv)) H1 a):Fr (nE b sv) H1 a:=f.mono λ _ _ q=>.inr q
def frB{H1 a:ar}(f:Fr (On b) H1 a):Fr (nE b sv) H1 a:=f.mono λ _ _ q=>.inl q
theorem sj{H1 a:ar}(f:Fr Em H1 a):Fr (nE b sv) H1 a:=f.mono λ _ _ q=>q.elim
def vO{H1 a d:ar}(f:Fr (nE b sv) H1 a)(g:Fr (nE b sv) a d):Fr (nE b sv) H1 d:=f.trans g λ _ q=>.inl q
def XG(a:d9 H b sv c)(hu:c.us+1<=1000000){i:Nat}(n:i<c.sl.length):zb M qs6 [.ptr b 0,eA sv i] H λ _ H'=>d9 H' b sv (c.use i)/\Fr (nE b sv) H H':=by
 refine q7q ?_;have l3:Op.ae [.ptr b 3] H=B1 (.int .i64 c.us):=a.Uq 3;have:=a.us;have w1:aj .i64 (c.us+1)=c.us+1:=(by grind [jb])
 have⟨H1,s1,g,h⟩:=a.stU (u:=c.us+1) (by omega);have f:Op.ae [.ptr b 3] H1=B1 (.int .i64 (c.us+1)):=g.Uq 3;have⟨p,s2,l,k⟩:=g.dk n (j:=20) (by decide) (u:=.int .i64 (c.us+1)) rfl (e:={c.en i with u:=c.us+1}) (by
  show az {c.en i with u:=c.us+1} = (az (c.en i)).set 20 _;have⟨line,st,r,w,⟨d,m⟩,⟨o,ho⟩,u⟩:=c.en i
  match d,m,o,ho with
  |[d0,d1,d2,d3,d4,d5,d6,d7],_,[o0,o1,o2,o3,o4,o5,o6,o7],_=>rfl)
 simp only[aa,bc,q7r,qo,l3,w1,s1,f,s2];exact⟨l,vO (frB h) (vT k)⟩
def nP(c:Ca)(line:Int):AV:=match c.find line with
 |none=>.tuple [.agg (az .zero),.bool B2]
 |some e=>.tuple [.agg (az e),.bool B4]
def Rf(k:d9 H b sv c)(d:CI lines c)(line:Int):zb M Yo [.ptr b 0,.int .i64 line] H λ v H'=>v=nP c line/\Fr Em H H':=by
 refine q45 ?_;obtain⟨w0,w4,f⟩:=q46 M ⟨B5,Yo⟩;have⟨H1,e1,g,n1,l⟩:=cq H (OR (az .zero) xk);simp only[aa,bc,w0,eZ,<-e1];refine C3.q (Wm (line:=line) (k.em g) d) λ v e⟨n,h⟩=>?_;rw[n];have j:e.get H.au=B1 (OR (az .zero) xk):=by rw[h.ah _ (by omega) id];exact l
 have a:Fr Em H e:=g.trans h λ _ q=>q.elim;unfold wS nP Ca.find;cases hp:c.pos line with
 |none =>
  have st:=fH j (zx _) (zx .zero) (uf _);have ld:=eI (xb e H.au (OR (az .zero) xk)) (zx _);simp only[aa,bc,w4,Pf,eZ,BD,st,ld];exact⟨rfl,a.set (by omega) _⟩
 |some i =>
  obtain⟨-,m,-⟩:=d.bD hp;have le:=(k.em a).Ji m;have st:=fH j (zx _) (zx (c.en i)) (uf _);have ld:=eI (xb e H.au (OR (az (c.en i)) xk)) (zx _);simp only[aa,bc,w4,yr,f,qo,le,st,ld];exact⟨rfl,a.set (by omega) _⟩
end
end Go.Am
namespace Go.Am
open Go.Proofs Ca
variable{M:ak}[MK M]
def QO(e:En)(k:Nat)(hk:k<8)(y:Int):az {e with d:=e.d.put k y} = (az e).set (4+k) (uW y):=by
 have⟨line,st,r,w,⟨d,a⟩,⟨o,ho⟩,u⟩:=e
 match d,a,o,ho with
 |[d0,d1,d2,d3,d4,d5,d6,d7],_,[o0,o1,o2,o3,o4,o5,o6,o7],_ =>
  rcases(show k=0\/k=1\/k=2\/k=3\/k=4\/k=5\/k=6\/k=7 by omega)with rfl|rfl|rfl|rfl|rfl|rfl|rfl|rfl<;>rfl
def LF(e:En)(k:Nat)(hk:k<8):(az e)[4+k]? = B1 (uW (e.d.get k)):=by
 have⟨line,st,r,w,⟨d,a⟩,⟨o,ho⟩,u⟩:=e
 match d,a,o,ho with
 |[d0,d1,d2,d3,d4,d5,d6,d7],_,[o0,o1,o2,o3,o4,o5,o6,o7],_ =>
  rcases(show k=0\/k=1\/k=2\/k=3\/k=4\/k=5\/k=6\/k=7 by omega)with rfl|rfl|rfl|rfl|rfl|rfl|rfl|rfl<;>rfl
def JK(e:En)(x:L8):az {e with d:=x} = (az e).take 4++(AV.agg (cG x)).cells++(az e).drop (4+8):=by
 have⟨line,st,r,w,⟨d,a⟩,⟨o,ho⟩,u⟩:=e
 match d,a,o,ho with
 |[d0,d1,d2,d3,d4,d5,d6,d7],_,[o0,o1,o2,o3,o4,o5,o6,o7],_=>rfl
def IY(e:En)(x:L8):az {e with o:=x} = (az e).take 12++(AV.agg (cG x)).cells++(az e).drop (12+8):=by
 have⟨line,st,r,w,⟨d,a⟩,⟨o,ho⟩,u⟩:=e
 match d,a,o,ho with
 |[d0,d1,d2,d3,d4,d5,d6,d7],_,[o0,o1,o2,o3,o4,o5,o6,o7],_ =>
  have⟨x,f⟩:=x
  match x,f with
  |[x0,x1,x2,x3,x4,x5,x6,x7],_=>rfl
section
variable{H:ar}{b:Nat}{sv:AV}{c:Ca}{lines line:Int}
def zW{a:Nat}(h:a<1000000):Op.bin .quo [.int .i64 (a:Int),.int .i64 8]=B1 (.int .i64 ((a / 8:Nat):Int)):=by
 grind [Q9,jb]
def Lm{a:Nat}(h:a<1000000):Op.bin .rem [.int .i64 (a:Int),.int .i64 8]=B1 (.int .i64 ((a % 8:Nat):Int)):=RN (by decide)
def R'(i k:Nat)(hk:k<8):Op.aV 8 1 [.ptr (aG sv) (cJ 21 sv i+4),.int .i64 (k:Int)]=B1 (.ptr (aG sv) (cJ 21 sv i+(4+k))):=by
 have:=QU (len:=8) (size:=1) (b:=aG sv) (o:=cJ 21 sv i+4) (k:=.i64) (j:=(k:Int)) (i:=k) rfl hk
 grind
theorem L6{i:Nat}(a:i<c.sl.length)(e:En):(c.set i e).en i=e:=by rw[D8 a,xg rfl]
def TC(c:Ca)(i:Nat)(e e':En):(c.set i e).set i e'=c.set i e':=by grind [Ca.set,List.set_set]
theorem DD{i:Nat}(a:i<c.sl.length):(c.use i).en i = {c.en i with u:=c.us+1}:=by
 show(c.set i {c.en i with u:=c.us+1}).en i=_;exact L6 a _
def zN(c:Ca)(a:Nat):AV:=match c.pos ((a / 8:Nat):Int)with
 |none=>.tuple [.int .u64 0,.int .i64 20]
 |some i=>.tuple [.int .u64 ((c.en i).d.get (a % 8)),.int .i64 0]
def xeh(n:d9 H b sv c)(e:CI lines c)(hu:c.us+1<=1000000){a:Nat}(ha:a<1000000):zb M X2 [.ptr b 0,.int .i64 (a:Int)] H (vo H b sv (c.word a).1 (zN c a)):=by
 refine q49 ?_;obtain⟨w0,w2,j,f,k⟩:=q5a M ⟨B5,X2⟩;have n0:¬(a:Int)<0:=by omega
 have hk:a % 8<8:=Nat.mod_lt _ (by decide);simp only[aa,bc,w0,w2,lS,n0,j,zW ha];refine C3.q (KO n e ((a / 8:Nat):Int) 0) λ v H1⟨t,l⟩=>?_;rw[t];have s:=n.em l;unfold Iy zN Ca.word;rw[sL];cases hp:c.pos ((a / 8:Nat):Int)with
 |none =>
  have h:¬(20:Int)=0:=by decide
  simp only[aa,bc,xj,f,h]
  grind [sj]
 |some i =>
  obtain⟨-,o,-⟩:=e.bD hp;have u:=qv (show(0:Int)=0 from rfl);simp only[aa,bc,xj,f,k];refine C3.q (XG s hu o) λ _ p⟨m,r⟩=>?_;have g:i<(c.use i).sl.length:=by show i<(c.sl.set i _).length;grind
  have ld:Op.ae [.ptr (aG sv) (cJ 21 sv i+(4+a % 8))] p=B1 (uW ((c.en i).d.get (a % 8))):=by
   rw[m.ld g (by omega),DD o,LF _ _ hk]
  simp only[aa,bc,Lm ha,qo,R' i (a % 8) hk,ld];exact⟨rfl,m,vO (sj l) r⟩
def QW(c:Ca)(a:Nat):AV:=match c.lW ((a / 8:Nat):Int) 2 with
 |none=>.int .i64 20
 |some _=>.int .i64 0
def _S(p:d9 H b sv c)(f:CI lines c)(hu:c.us+1<=1000000){a:Nat}(ha:a<1000000)(y:Int):zb M Zz [.ptr b 0,.int .i64 (a:Int),.int .u64 y] H (vo H b sv (c.put a y) (QW c a)):=by
 refine q7l ?_;obtain⟨w0,w2,l,g,m⟩:=q7m M ⟨B5,Zz⟩;have n0:¬(a:Int)<0:=by omega
 have hk:a % 8<8:=Nat.mod_lt _ (by decide);simp only[aa,bc,w0,w2,lS,n0,l,zW ha];refine C3.q (KO p f ((a / 8:Nat):Int) 2) λ v H1⟨z,n⟩=>?_;rw[z];have t:=p.em n;unfold Iy QW Ca.put;cases hp:c.lW ((a / 8:Nat):Int) 2 with
 |none =>
  have k:¬(20:Int)=0:=by decide
  simp only[aa,bc,xj,g,k]
  grind [sj]
 |some i =>
  obtain⟨-,x,-⟩:=f.bD (zH hp).1;have D:=qv (show(0:Int)=0 from rfl);simp only[aa,bc,xj,g,m];refine C3.q (XG t hu x) λ _ B⟨w,r⟩=>?_;have h:i<(c.use i).sl.length:=by show i<(c.sl.set i _).length;grind
  have⟨C,A,o,s⟩:=w.dk h (j:=4+a % 8) (by omega) (u:=.int .u64 y) rfl (e:={(c.use i).en i with d:=((c.use i).en i).d.put (a % 8) y}) (QO _ _ hk y);have e:(c.use i).set i {(c.use i).en i with d:=((c.use i).en i).d.put (a % 8) y} = {c with us:=c.us+1,sl:=c.sl.set i {c.en i with u:=c.us+1,d:=(c.en i).d.put (a % 8) y}}:=by
   grind [DD,Ca.use,Ca.set,List.set_set]
  rw[e]at o;simp only[aa,bc,Lm ha,qo,R' i (a % 8) hk,A];exact⟨rfl,o,vO (vO (sj n) r) (vT s)⟩
def R_(s:d9 H b sv c)(a:CI lines c)(line:Int)(wr:Bool):zb M YV [.ptr b 0,.int .i64 line,.bool wr] H λ _ H'=>d9 H' b sv (c.mark line wr)/\Fr (nE b sv) H H':=by
 refine q47 ?_;obtain⟨w0,w2,B,D,f,p,g⟩:=q48 M ⟨B5,YV⟩;have m:¬(20:Int)=0:=by decide
 have J:=qv (show(0:Int)=0 from rfl);cases wr with
 |false =>
  simp only[aa,bc,w0,w2];refine C3.q (KO s a line 0) λ v H1⟨z,k⟩=>?_;rw[z];have l:=s.em k;unfold Iy Ca.mark;rw[qy (by decide)];cases hp:c.lW line 0 with
  |none =>
   simp only[aa,bc,xj,D,m,p]
   grind [sj]
  |some i =>
   obtain⟨-,h,-⟩:=a.bD (zH hp).1;have⟨E,A,x,t⟩:=l.dk h (j:=2) (by decide) (u:=.bool B4) rfl (e:={c.en i with r:=B4}) rfl;simp only[aa,bc,xj,D,qo,A,p];exact⟨x,vO (sj k) (vT t)⟩
 |true =>
  simp only[aa,bc,w0,w2,B];refine C3.q (KO s a line 2) λ v H1⟨z,k⟩=>?_;rw[z];have l:=s.em k;unfold Iy Ca.mark;rw[xg rfl];cases hp:c.lW line 2 with
  |none =>
   simp only[aa,bc,xj,f,m,g]
   grind [sj]
  |some i =>
   obtain⟨-,h,-⟩:=a.bD (zH hp).1;have l3:Op.ae [.ptr (aG sv) (cJ 21 sv i+3)] H1=B1 (.bool (c.en i).w):=l.ld h (by decide);dsimp only;cases hw:(c.en i).w with
   |true =>
    rw[xg rfl];rw[hw]at l3;simp only[aa,bc,xj,f,qo,l3,g]
    grind [sj]
   |false =>
    rw[qy (by decide)];rw[hw]at l3;have⟨E,A,x,t⟩:=l.dk h (j:=3) (by decide) (u:=.bool B4) rfl (e:={c.en i with w:=B4}) rfl;have y:i<(c.set i {c.en i with w:=B4}).sl.length:=by show i<(c.sl.set i _).length;grind
    have⟨I,G,C,F⟩:=x.SA y (j:=12) (n:=8) (u:=.agg (cG (c.en i).d)) (by grind [zp,yi]) (by grind [zp,ue]) (by decide) (e:={(c.set i {c.en i with w:=B4}).en i with o:=(c.en i).d}) (IY _ _);rw[L6 h,TC]at C;simp only[aa,bc,xj,f,qo,l3,l.Pp h,A,G,g];exact⟨C,vO (vO (sj k) (vT t)) (vT F)⟩
def tD(c:Ca)(line:Int):AV:=.tuple [.agg (cG (c.dc line).2),match c.lW line 2 with|none=>.int .i64 20|some _=>.int .i64 0]
def xe7(g:d9 H b sv c)(h:CI lines c)(line:Int):zb M UH [.ptr b 0,.int .i64 line] H λ v H'=>v=tD c line/\d9 H' b sv (c.dc line).1/\Fr (nE b sv) H H':=by
 refine qxy ?_;obtain⟨w0,w4,o⟩:=qxz M ⟨B5,UH⟩;have n:¬(20:Int)=0:=by decide
 have E:=qv (show(0:Int)=0 from rfl);have⟨H1,e1,p,n1,x⟩:=cq H (OR (cG .zero) z7);have A:=g.lt;have B:aG sv<H.au:=g.sl.lt;simp only[aa,bc,w0,lZ,<-e1];refine C3.q (KO (g.em p) h line 2) λ v k⟨C,l⟩=>?_;rw[C];have a:Fr Em H k:=p.trans l λ _ q=>q.elim;have z:=g.em a;have s:k.get H.au=B1 (OR (cG .zero) z7):=by rw[l.ah _ (by omega) id];exact x
 unfold Iy tD Ca.dc;cases hp:c.lW line 2 with
 |none =>
  have st:=fH s (yi _) (yi .zero) (ue _);have ld:=eI (xb k H.au (OR (cG .zero) z7)) (yi _);have fs:Fr Em H (k.set H.au (OR (cG .zero) z7)):=a.set (by omega) _;simp only[aa,bc,xj,w4,n,lZ,BD,st,ld];exact⟨g.em fs,sj fs⟩
 |some i =>
  obtain⟨-,w,-⟩:=h.bD (zH hp).1;have⟨f,D,t,r⟩:=z.dk w (j:=1) (by decide) (u:=.int .i64 1) rfl (e:={c.en i with st:=1}) rfl;have m:i<(c.set i {c.en i with st:=1}).sl.length:=by show i<(c.sl.set i _).length;grind
  have l3:=t.Pp m;rw[L6 w]at l3;have n2:=l.au;have y:f.get H.au=B1 (OR (cG .zero) z7):=by rw[r.ah _ (by omega) (λ(q:H.au=aG sv)=>by omega)];exact s
  have st:=fH y (yi _) (yi (c.en i).d) (ue _);have ld:=eI (xb f H.au (OR (cG (c.en i).d) z7)) (yi _);have fo:Fr (On H.au) f (f.set H.au (OR (cG (c.en i).d) z7)):=(Fr.refl f).set (W:=On H.au) (.inl rfl) _;simp only[aa,bc,xj,w4,o,qo,D,l3,st,ld];exact⟨t.fr fo (λ(q:b=H.au)=>by omega) (λ(q:aG sv=H.au)=>by omega),(vO (sj a) (vT r)).set (.inr (qm _)) _⟩
def xdq(h:d9 H b sv c)(f:CI lines c)(line:Int)(x:L8):zb M UC [.ptr b 0,.int .i64 line,.agg (cG x)] H λ _ H'=>d9 H' b sv (c.db line x)/\Fr (nE b sv) H H':=by
 refine qv8 ?_;obtain⟨w0,w4,g⟩:=qv9 M ⟨B5,UC⟩;have m:¬(20:Int)=0:=by decide
 have L:=qv (show(0:Int)=0 from rfl);have⟨H1,e1,p,n1,B⟩:=cq H (OR (cG x) z7);have E:=h.lt;have F:aG sv<H.au:=h.sl.lt;simp only[aa,bc,w0,<-e1];refine C3.q (KO (h.em p) f line 1) λ v o⟨G,k⟩=>?_;rw[G];have a:Fr Em H o:=p.trans k λ _ q=>q.elim;have t:=h.em a;have s:o.get H.au=B1 (OR (cG x) z7):=by rw[k.ah _ (by omega) id];exact B
 unfold Iy Ca.db;cases hp:c.lW line 1 with
 |none =>
  simp only[aa,bc,xj,w4,m,g];exact⟨t,sj a⟩
 |some i =>
  obtain⟨-,y,-⟩:=f.bD (zH hp).1;have⟨z,I,D,r⟩:=t.dk y (j:=1) (by decide) (u:=.int .i64 2) rfl (e:={c.en i with st:=2}) rfl;have l:i<(c.set i {c.en i with st:=2}).sl.length:=by show i<(c.sl.set i _).length;grind
  have⟨K,J,w,A⟩:=D.SA l (j:=4) (n:=8) (u:=.agg (cG x)) (by grind [zp,yi]) (by grind [zp,ue]) (by decide) (e:={(c.set i {c.en i with st:=2}).en i with d:=x}) (JK _ _);rw[L6 y,TC]at w;have n2:=k.au;have C:z.get H.au=B1 (OR (cG x) z7):=by rw[r.ah _ (by omega) (λ(q:H.au=aG sv)=>by omega)];exact s
  simp only[aa,bc,xj,w4,qo,eI s (yi x),I,eI C (yi x),J,g];exact⟨w,vO (vO (sj a) (vT r)) (vT A)⟩
def xY(c:Ca)(line:Int):AV:=.tuple [.agg (az (c.drop line).2),match c.lW line 0 with|none=>.int .i64 20|some _=>.int .i64 0]
def V8(h:d9 H b sv c)(j:CI lines c)(line:Int):zb M Ve [.ptr b 0,.int .i64 line] H λ v H'=>v=xY c line/\d9 H' b sv (c.drop line).1/\Fr (nE b sv) H H':=by
 refine q41 ?_;obtain⟨w0,w4,s⟩:=q42 M ⟨B5,Ve⟩;have r:¬(20:Int)=0:=by decide
 have Q:=qv (show(0:Int)=0 from rfl);have⟨H1,e1,u,n1,C⟩:=cq H (OR (az .zero) xk);have I:=h.lt;have J:aG sv<H.au:=h.sl.lt;simp only[aa,bc,w0,eZ,<-e1];refine C3.q (KO (h.em u) j line 0) λ v a⟨K,l⟩=>?_;rw[K];have d:Fr Em H a:=u.trans l λ _ q=>q.elim;have y:=h.em d;have n2:=l.au;have w:a.get H.au=B1 (OR (az .zero) xk):=by rw[l.ah _ (by omega) id];exact C
 unfold Iy xY Ca.drop;cases hp:c.lW line 0 with
 |none =>
  have st:=fH w (zx _) (zx .zero) (uf _);have ld:=eI (xb a H.au (OR (az .zero) xk)) (zx _);have fs:Fr Em H (a.set H.au (OR (az .zero) xk)):=d.set (by omega) _;simp only[aa,bc,xj,w4,r,eZ,BD,st,ld];exact⟨h.em fs,sj fs⟩
 |some i =>
  obtain⟨-,z,-⟩:=j.bD (zH hp).1;have⟨f,B,m,P,D⟩:=cq a (OR (az .zero) xk);have A:=fH D (zx _) (zx (c.en i)) (uf _);obtain⟨t,g⟩:∃X,X=f.set a.au (OR (az (c.en i)) xk):=⟨_,rfl⟩
  rw[<-g]at A;have n:Fr (On a.au) f t:=by rw[g];exact(Fr.refl f).set (W:=On a.au) (.inl rfl) _
  have F:=(y.em m).fr n (λ(q:b=a.au)=>by omega) (λ(q:aG sv=a.au)=>by omega);have⟨e,N,G,o⟩:=F.FC z .zero;have E:e.get a.au=B1 (OR (az (c.en i)) xk):=by rw[o.ah _ (by rw[g];show a.au<f.au;omega) (λ(q:a.au=aG sv)=>by omega),g,xb]
  have L:=eI E (zx (c.en i));have p:e.get H.au=B1 (OR (az .zero) xk):=by rw[o.ah _ (by rw[g];show H.au<f.au;omega) (λ(q:H.au=aG sv)=>by omega),n.ah _ (by omega) (λ(q:H.au=a.au)=>by omega),m.ah _ (by omega) id];exact w
  have O:=fH p (zx _) (zx (c.en i)) (uf _);have ld:=eI (xb e H.au (OR (az (c.en i)) xk)) (zx _);have fo:Fr (On H.au) e (e.set H.au (OR (az (c.en i)) xk)):=(Fr.refl e).set (W:=On H.au) (.inl rfl) _;have k:Fr (nE b sv) H t:=(vO (sj d) (sj m)).trans n λ x(q:x=a.au)=>.inr (by omega);simp only[aa,bc,xj,w4,s,qo,y.Ji z,eZ,<-B,A,BD,N,L,O,ld];exact⟨G.fr fo (λ(q:b=H.au)=>by omega) (λ(q:aG sv=H.au)=>by omega),(vO k (vT o)).set (.inr (qm _)) _⟩
end
end Go.Am
namespace Go.Am
open Go.Proofs Ca
variable{M:ak}[MK M]
def p5(sv:AV)(o:Option Nat):AV:=match o with
 |none=>.nilp
 |some i=>eA sv i
def Er(sv:AV)(o:Option Nat):aB (p5 sv o)=true:=by cases o<;>rfl
def BN{a:ar}{t d e:Nat}{x:AV}{o:bE}(g:a.get t=B1 (OR [x] e))(h:d≠t):Op.ae [.ptr t 0] (a.set d o)=B1 x:=by
 have f:(a.set d o).get t=B1 (OR [x] e):=by grind [kr]
 exact x9 (xc f) 0
structure Zb(c:Ca)(sv:AV)(line:Int)(t u:Nat)(i:Nat)(V:Nat->Prop)(Hx:ar):Prop where
 vt:V t
 vu:V u
 g:Hx.get t=B1 (OR [.nilp] yf)
 gu:Hx.get u=B1 (OR [p5 sv ((c.iO line i).map (c.fr line + ·))] yf)
 lt:t<Hx.au
 ltu:u<Hx.au
 no:∀k,k<i->c.free line k=B2
structure Vh(c:Ca)(sv:AV)(line:Int)(t:Nat)(V:Nat->Prop)(Hx:ar):Prop where
 vt:V t
 ex:∃k,k<c.ways/\dI (c.free line) c.ways=B1 k/\Hx.get t=B1 (OR [eA sv (c.fr line+k)] yf)
 lt:t<Hx.au
section
variable{H:ar}{b:Nat}{sv:AV}{c:Ca}{lines line:Int}
def xnp(hc:d9 H b sv c)(J:CI lines c)(hl:0<=line):zb M Nw [.ptr b 0,.int .i64 line] H λ v H'=>v=p5 sv (c.room line)/\Fr Em H H':=by
 refine q5f ?_;have⟨w0,wa,wb,w2,s,w3,n,w5,w7,w12⟩:=t_ M ⟨B5,Nw⟩;obtain⟨H1,e1,f1,n1,-⟩:=cq H (OR [.nilp] yf);obtain⟨D,e2,P,-,-⟩:=cq H1 (OR [.nilp] yf);have f2:Fr Em H D:=f1.trans P λ _ q=>q.elim;have n2:D.au=H.au+2:=by grind [xy]
 have g1:D.get H.au=B1 (OR [.nilp] yf):=by rw[P.ah _ (by omega) id,e1,xp]
 have g2:D.get (H.au+1)=B1 (OR [.nilp] yf):=by rw[e2,<-n1,xp]
 simp only[aa,bc,w0,<-e1,w2,w3,<-e2,n1,w5,w7];refine C3.q (xh2 b line) λ v H5⟨hv,hh⟩=>?_;obtain⟨H3,e3,f23,-,-⟩:=cq D (OR [.ptr b 0] EI);obtain⟨N,e4,Q,-,-⟩:=cq H3 (OR [.int .i64 line] cF);rw[<-e3,<-e4]at hh;rw[hv,hh];have I:Fr Em D N:=f23.trans Q λ _ q=>q.elim;have f4:Fr Em H N:=f2.trans I λ _ q=>q.elim;have n3:H3.au=H.au+3:=by grind [xy]
 have n4:N.au=H.au+4:=by grind [xy]
 have g3:N.get D.au=B1 (OR [.ptr b 0] EI):=by rw[Q.ah _ (by omega) id,e3,xp]
 have g4:N.get (D.au+1)=B1 (OR [.int .i64 line] cF):=by grind [xp]
 have T:=hc.em f4;have hlt:=hc.lt;have hsb:aG sv<H.au:=hc.sl.lt;have E:pX c sv line=(N2 c.ways).map λ k=>[eA sv (c.fr line+k)]:=by simp_all[pX,qy]
 refine iE.iter (fn:=Ud) (lp:=Qj) (pa:=Z1 0) (pb:=UQ 0) q0m _q.1 _q.2 (by decide) qx2 qx3
  (xd5 T J g3 g4 (by omega) (by omega)) (λ i V z=>Zb c sv line H.au (H.au+1) i V z) (λ e V z=>e=.ret/\Vh c sv line H.au V z) (λ x=>x=H.au\/x=H.au+1) (qm _) ?_ ?_ ?_ ?_ ?_ ?_ ?_ ?_
 .grind
 .omega
 .exact ⟨.inl rfl,.inr rfl,by rw[I.ah _ (by omega) id];exact g1,by rw[I.ah _ (by omega) id];exact g2,by omega,by omega,λ k hk=>by omega⟩
 .exact λ i V Ha Hb h hs hn=>⟨h.vt,h.vu,by rw[hs _ h.vt];exact h.g,by rw[hs _ h.vu];exact h.gu,qn h.lt hn,qn h.ltu hn,h.no⟩
 .rintro e V Ha Hb ⟨he,h⟩ hs hn;have⟨k,k1,k2,k3⟩:=h.ex;exact⟨he,h.vt,⟨k,k1,k2,by rw[hs _ h.vt];exact k3⟩,qn h.lt hn⟩
 .intro a i lr lb x hx hL2 V p l hV hf6 hnL hL6 hgL;rw[E,xq,xr]at hx;obtain⟨y,hy,rfl⟩:=hx;have C:i<c.ways:=by grind
  rw[kj C]at hy;cases hy;refine⟨_,rfl,?_⟩;obtain⟨-,wa,wb,-,s,-,n,-⟩:=t_ M ⟨B1 a,Nw⟩;simp only[aa,bc,wa,A9];refine⟨hgL,?_⟩;have fx:Fr (On a) p (p.set a lb):=(Fr.refl p).set (W:=On a) (.inl rfl) _;have gL:(p.set a lb).get a=B1 lb:=xb ..;have nL:(p.set a lb).au=p.au:=rfl;have hc6:d9 p b sv c:=T.fr hf6 (by grind) (by grind);have h7:d9 (p.set a lb) b sv c:=hc6.fr fx (λ(q:b=a)=>by omega) (λ(q:aG sv=a)=>by omega);have R:a≠H.au:=λ q=>(by omega)
  have S:a≠H.au+1:=λ q=>(by omega)
  have Y:(p.set a lb).get H.au=B1 (OR [.nilp] yf):=by rw[kr R];exact l.g
  have A:(p.set a lb).get (H.au+1)=B1 (OR [p5 sv ((c.iO line i).map (c.fr line + ·))] yf):=by rw[kr S];exact l.gu
  generalize p.set a lb=H7 at *;have hi:=J.mO line C;obtain⟨e,he⟩:∃e,e=c.en (c.fr line+i):=⟨_,rfl⟩
  have l1:Op.ae [.ptr (aG sv) (cJ 21 sv (c.fr line+i)+1)] H7=B1 (.int .i64 e.st):=by rw[he];exact h7.ld hi (k:=1) (by decide)
  have l2:Op.ae [.ptr (aG sv) (cJ 21 sv (c.fr line+i)+2)] H7=B1 (.bool e.r):=by rw[he];exact h7.ld hi (k:=2) (by decide)
  have l3:Op.ae [.ptr (aG sv) (cJ 21 sv (c.fr line+i)+3)] H7=B1 (.bool e.w):=by rw[he];exact h7.ld hi (k:=3) (by decide)
  have G:∀e:En,(az e)[20]? = B1 (.int .i64 e.u):=λ e=>by
   have⟨line,st,r,w,⟨d,hd⟩,⟨o,ho⟩,u⟩:=e
   match d,hd,o,ho with
   |[d0,d1,d2,d3,d4,d5,d6,d7],_,[o0,o1,o2,o3,o4,o5,o6,o7],_=>rfl
  have Z:∀k,c.fr line+k<c.sl.length->Op.ae [.ptr (aG sv) (cJ 21 sv (c.fr line+k)+20)] H7=B1 (.int .i64 (c.en (c.fr line+k)).u):=λ k hk=>by rw[h7.ld hk (k:=20) (by decide),G]
  have hfree:c.free line i=(e.st == 0):=by rw[he];rfl
  have no':e.st≠0 -> ∀k,k<i+1->c.free line k=false:=λ h0 k hk=>by
   by_cases q:k=i
   .grind
   .exact l.no k (by omega)
  have t:Op.ae [.ptr (H.au+1) 0] H7=B1 (p5 sv ((c.iO line i).map (c.fr line + ·))):=x9 (xc A) 0;have f:c.iO line (i+1)=if e.r ||e.w then c.iO line i else match c.iO line i with
   |none=>B1 i
   |some j=>if e.u<(c.en (c.fr line+j)).u then B1 i else B1 j:=by rw[he];rfl
  -- it stays as it is
  have stay:e.st≠0->c.iO line (i+1)=c.iO line i->Qi (λ V z=>Zb c sv line H.au (H.au+1) (i+1) V z) (λ e V z=>e=.ret/\Vh c sv line H.au V z) a lb V p .normal [] [] H7:=λ h0 hb =>
   ⟨rfl,gL,V,λ b hb=>(by grind),fx.mono λ x _ q=>.inr q,.inl ⟨rfl,l.vt,l.vu,Y,by grind,by omega,by omega,no' h0⟩⟩
  -- this one is taken
  obtain⟨H8,F⟩:∃X,X=H7.set (H.au+1) (OR [eA sv (c.fr line+i)] yf):=⟨_,rfl⟩
  have st:=N8 A (u:=eA sv (c.fr line+i)) rfl;rw[<-F]at st;have take:e.st≠0->c.iO line (i+1)=B1 i->Qi (λ V z=>Zb c sv line H.au (H.au+1) (i+1) V z) (λ e V z=>e=.ret/\Vh c sv line H.au V z) a lb V p .normal [] [] H8:=λ h0 hb =>
   ⟨rfl,by rw[F,kr (rS S)];exact gL,V,λ b hb=>⟨by rw[F];show b<H7.au;grind,.inl hb⟩,by rw[F];exact(fx.mono λ x _ q=>.inr q).set (.inl (.inl l.vu)) _,.inl ⟨rfl,l.vt,l.vu,by grind [kr],by rw[F,xb,hb];rfl,by rw[F];show H.au<H7.au;omega,by rw[F];show H.au+1<H7.au;omega,no' h0⟩⟩
  by_cases B:e.st=0
  .have stt:=N8 Y (u:=eA sv (c.fr line+i)) rfl;simp only[aa,bc,wb,qo,l1,qv B,stt];refine⟨rfl,?_,V,?_,?_,.inr ⟨trivial,rfl,l.vt,⟨i,C,NF C (by grind) l.no,xb ..⟩,?_⟩⟩
   .rw [kr (rS R)];exact gL
   .exact λ b hb=>⟨by show b<H7.au;grind,.inl hb⟩
   .exact (fx.mono λ x _ q=>.inr q).set (.inl (.inl l.vt)) _
   .show H.au<H7.au;omega
  cases hr:e.r with
  |true =>
   rw[hr]at l2;simp only[aa,bc,wb,qo,l1,B,s,l2];exact stay B (by rw[f,hr];rfl)
  |false =>
   rw[hr]at l2;cases hw:e.w with
   |true =>
    rw[hw]at l3;simp only[aa,bc,wb,qo,l1,B,s,l2,l3];exact stay B (by rw[f,hr,hw];rfl)
   |false =>
    rw[hw]at l3;rw[hr,hw]at f;cases hb:c.iO line i with
    |none =>
     rw[hb]at t f;have t:Op.ae [.ptr (H.au+1) 0] H7=B1 .nilp:=t;simp only[aa,bc,wb,qo,l1,B,s,l2,l3,n,t,Pf,st];exact take B f
    |some j =>
     rw[hb]at t f;have t:Op.ae [.ptr (H.au+1) 0] H7=B1 (eA sv (c.fr line+j)):=t;have hj:=(Ut hb).1;have a1:=Z i hi;rw[<-he]at a1;have a2:=Z j (J.mO line (by omega))
     by_cases q:e.u<(c.en (c.fr line+j)).u
     .simp only[aa,bc,wb,qo,l1,B,s,l2,l3,n,t,yr,a1,a2,q,st];exact take B (by rw[f];simp[q])
     .simp only[aa,bc,wb,qo,l1,B,s,l2,l3,n,t,yr,a1,a2,q];exact stay B (by rw[f,hb];simp[q])
 .intro d V O hd1 hd2 U L hVd l;have hno:=l.no;have A:=l.gu;rw[E,xu,jd]at hno A;have t:Op.ae [.ptr (H.au+1) 0] O=B1 (p5 sv ((c.iO line c.ways).map (c.fr line + ·))):=x9 (xc A) 0;have st:=N8 l.g (u:=p5 sv ((c.iO line c.ways).map (c.fr line + ·))) (Er ..);have K:d≠H.au:=λ q=>by omega
  have gd:(O.set H.au (OR [p5 sv ((c.iO line c.ways).map (c.fr line + ·))] yf)).get d=B1 (.deferred (B1 [])):=by simp_all[kr,rS]
  have rd:Op.ae [.ptr H.au 0] ((O.set H.au (OR [p5 sv ((c.iO line c.ways).map (c.fr line + ·))] yf)).set d (.deferred B5))=B1 (p5 sv ((c.iO line c.ways).map (c.fr line + ·))):=BN (xb ..) K;have m:c.room line=(c.iO line c.ways).map (c.fr line + ·):=by
   grind [Ca.room,M9]
  rw[<-m]at t st gd rd;simp only[aa,bc,w12,t,st,uG,JH,rd];refine⟨gd,?_⟩;exact(((f4.trans (W':=λ x=>(x=H.au\/x=H.au+1)\/False) L λ x q=>(by grind)).set (by omega) _).set (by omega) _)
 .rintro e d V O hj hd1 hd2 U L hVd ⟨he,hS⟩;subst he;have⟨k,k1,k2,k3⟩:=hS.ex;have K:d≠H.au:=λ q=>by omega
  have rd:Op.ae [.ptr H.au 0] (O.set d (.deferred B5))=B1 (eA sv (c.fr line+k)):=BN k3 K;have m:c.room line=B1 (c.fr line+k):=by unfold Ca.room;rw[k2]
  simp only[aa,bc,uG,JH,rd];refine⟨U,by rw[m];rfl,?_⟩;exact((f4.trans (W':=λ x=>(x=H.au\/x=H.au+1)\/False) L λ x q=>(by grind)).set (by omega) _)
end
end Go.Am
namespace Go.Am
open Go.Proofs Ca
variable{M:ak}[MK M]
def bdE(line st:Int)(x:L8):Op.build (az .zero) [(0,1),(1,1),(4,8)] [.int .i64 line,.int .i64 st,.agg (cG x)]=B1 (.agg (az ⟨line,st,B2,B2,x,.zero,0⟩)):=by
 have⟨x,a⟩:=x
 match x,a with
 |[x0,x1,x2,x3,x4,x5,x6,x7],_=>rfl
def pI(c:Ca)(line st:Int)(x:L8):AV:=.tuple [.agg (az (c.fill line st x).2.1),.bool (decide ((c.fill line st x).2.2=0/\(c.fill line st x).2.1.st≠0)),.int .i64 (c.fill line st x).2.2]
section
variable{H:ar}{b:Nat}{sv:AV}{c:Ca}{lines line:Int}
def xcm(n:d9 H b sv c)(l:CI lines c)(hu:c.us+1<=1000000)(hl:0<=line){st:Int}(L:st=1\/st=2)(x:L8) :
 zb M MY [.ptr b 0,.int .i64 line,.int .i64 st,.agg (cG x)] H λ v H'=>v=pI c line st x/\d9 H' b sv (c.fill line st x).1/\Fr (nE b sv) H H':=by
 refine q43 ?_;obtain⟨w0,w2,Q,P,u,R⟩:=q44 M ⟨B5,MY⟩;obtain⟨H1,e1,f1,n1,-⟩:=cq H (OR (cG x) z7);obtain⟨m,e2,p,-,-⟩:=cq H1 (OR (az .zero) xk);have z:Fr Em H m:=f1.trans p λ _ q=>q.elim;have n2:m.au=H.au+2:=by grind [xy]
 have g1:m.get H.au=B1 (OR (cG x) z7):=by rw[p.ah _ (by omega) id,e1,xp]
 have S:m.get (H.au+1)=B1 (OR (az .zero) xk):=by grind [xp]
 have nl:¬line<0:=by omega
 have hlt:=n.lt;have hsb:aG sv<H.au:=n.sl.lt
 -- an error
 have err:∀{g:ar}(k:Int),Fr Em m g->k≠0->(c.fill line st x).2.2=k->(c.fill line st x).1=c->(c.fill line st x).2.1=.zero ->
  Op.store 21 [.ptr (H.au+1) 0,.agg (az .zero)] g=B1 (.undef,g.set (H.au+1) (OR (az .zero) xk))/\Op.aq 21 [.ptr (H.au+1) 0] (g.set (H.au+1) (OR (az .zero) xk))=B1 (.agg (az .zero)) /\
  (AV.tuple [.agg (az .zero),.bool B2,.int .i64 k]=pI c line st x/\d9 (g.set (H.au+1) (OR (az .zero) xk)) b sv (c.fill line st x).1/\Fr (nE b sv) H (g.set (H.au+1) (OR (az .zero) xk))):=by
  intro g k f hk h1 h2 h3;have gx:g.get (H.au+1)=B1 (OR (az .zero) xk):=by rw[f.ah _ (by omega) id];exact S
  have fs:Fr Em H (g.set (H.au+1) (OR (az .zero) xk)):=(z.trans f λ _ q=>q.elim).set (by omega) _;refine⟨fH gx (zx _) (zx .zero) (uf _),eI (xb ..) (zx _),?_,by rw[h2];exact n.em fs,sj fs⟩
  grind [pI]
 have r:∀{q:AV},W M ⟨B5,MY⟩ (X_ 16) B4 (eX 0 (fm (W M ⟨B5,MY⟩ (X_ 23)) (eH M [.cZ 21 8,.tmp 9,.tmp 10] (uj λ v H'=>v=pI c line st x/\d9 H' b sv (c.fill line st x).1/\Fr (nE b sv) H H'))))
  [(21,q),(10,.int .i64 0),(9,.bool B2),(8,.ptr (H.au+1) 0),(7,.ptr H.au 0),(0,.ptr b 0),(1,.int .i64 line),(2,.int .i64 st),(3,.agg (cG x))] [] m:=by
  intro q;simp only[aa,bc,P];refine C3.q (Wm (line:=line) (n.em z) l) λ v H3⟨N,F⟩=>?_;rw[N];unfold wS;cases hp:c.pos line with
  |some i =>
   have⟨s1,s2,O⟩:=err 21 F (by decide) (by unfold Ca.fill;rw[hp]) (by unfold Ca.fill;rw[hp]) (by unfold Ca.fill;rw[hp]);simp only[aa,bc,lS,eZ,BD,s1,s2];exact O
  |none =>
   simp only[aa,bc,u7,Q];have D:=z.trans F λ _ q=>q.elim;refine C3.q (xnp (n.em D) l hl) λ v a⟨N,f4⟩=>?_;rw[N];have e:=F.trans f4 λ _ q=>q.elim;cases hr:c.room line with
   |none =>
    have⟨s1,s2,O⟩:=err 22 e (by decide) (by unfold Ca.fill;rw[hp,hr]) (by unfold Ca.fill;rw[hp,hr]) (by unfold Ca.fill;rw[hp,hr]);unfold p5;simp only[aa,bc,u,Pf,eZ,BD,s1,s2];exact O
   |some i =>
    obtain⟨k,k1,k2,-⟩:=TY hr;have Z:i<c.sl.length:=by rw[k2];exact l.mO line k1
    have o:=z.trans e λ _ q=>q.elim;have V:=n.em o;have n4:=e.au;have⟨C,e5,A,n5,g5⟩:=cq a (OR (az .zero) xk);have s6:=fH g5 (zx _) (zx (c.en i)) (uf _);obtain⟨h,w⟩:∃X,X=C.set a.au (OR (az (c.en i)) xk):=⟨_,rfl⟩
    rw[<-w]at s6;have B:Fr (On a.au) C h:=by rw[w];exact(Fr.refl C).set (W:=On a.au) (.inl rfl) _
    have n6:h.au=a.au+1:=by rw[w];exact n5
    have g6:h.get a.au=B1 (OR (az (c.en i)) xk):=by rw[w,xb]
    have h6:d9 h b sv c:=(V.em A).fr B (λ(q:b=a.au)=>by omega) (λ(q:aG sv=a.au)=>by omega);have G:h.get H.au=B1 (OR (cG x) z7):=by rw[B.ah _ (by omega) (λ(q:H.au=a.au)=>by omega),A.ah _ (by omega) id,e.ah _ (by omega) id];exact g1
    have I:h.get (H.au+1)=B1 (OR (az .zero) xk):=by rw[B.ah _ (by omega) (λ(q:H.au+1=a.au)=>by omega),A.ah _ (by omega) id,e.ah _ (by omega) id];exact S
    have⟨H7,s7,h7,f7⟩:=h6.FC Z ⟨line,st,B2,B2,x,.zero,0⟩;have K:i<(c.set i ⟨line,st,B2,B2,x,.zero,0⟩).sl.length:=by show i<(c.sl.set i _).length;grind
    have l6:=eI G (yi x);unfold p5;simp only[aa,bc,u,yr,R,qo,V.Ji Z,eZ,<-e5,s6,l6,bdE,s7];refine C3.q (XG h7 hu K) λ _ d⟨Y,f8⟩=>?_;have j:Fr (nE b sv) h d:=vO (vT f7) f8;have nW:∀y,H.au<=y -> ¬nE b sv y:=λ y hy q=>q.elim (by omega) λ q=>by omega
    have T:d.get a.au=B1 (OR (az (c.en i)) xk):=by rw[j.ah _ (by omega) (by grind)];exact g6
    have J:d.get (H.au+1)=B1 (OR (az .zero) xk):=by rw[j.ah _ (by omega) (by grind)];exact I
    have l8:=eI T (zx (c.en i));have s:Op.ae [.ptr a.au 1] d=B1 (.int .i64 (c.en i).st):=x9 (xc T) 1;have s9:=fH J (zx _) (zx (c.en i)) (uf _);have g9:(d.set (H.au+1) (OR (az (c.en i)) xk)).get a.au=B1 (OR (az (c.en i)) xk):=by grind [kr]
    have t:Op.ae [.ptr a.au 1] (d.set (H.au+1) (OR (az (c.en i)) xk))=B1 (.int .i64 (c.en i).st):=x9 (xc g9) 1;have l9:=eI (xb d (H.au+1) (OR (az (c.en i)) xk)) (zx (c.en i));have ef:c.fill line st x=({c with us:=c.us+1,sl:=c.sl.set i ⟨line,st,B2,B2,x,.zero,c.us+1⟩},c.en i,0):=by grind [Ca.fill]
    have eu:(c.set i ⟨line,st,B2,B2,x,.zero,0⟩).use i = {c with us:=c.us+1,sl:=c.sl.set i ⟨line,st,B2,B2,x,.zero,c.us+1⟩}:=by
     grind [Ca.use,L6,Ca.set,List.set_set]
    rw[eu]at Y;have fo:Fr (On (H.au+1)) d (d.set (H.au+1) (OR (az (c.en i)) xk)):=(Fr.refl d).set (W:=On (H.au+1)) (.inl rfl) _;have E:Fr (nE b sv) H d:=vO ((vO (sj o) (sj A)).trans B λ y(q:y=a.au)=>(by omega)) j;have end_:d9 (d.set (H.au+1) (OR (az (c.en i)) xk)) b sv (c.fill line st x).1/\Fr (nE b sv) H (d.set (H.au+1) (OR (az (c.en i)) xk)):=by
     rw[ef];exact⟨Y.fr fo (λ(q:b=H.au+1)=>by omega) (λ(q:aG sv=H.au+1)=>by omega),E.set (.inr (by omega)) _⟩
    by_cases U:(c.en i).st=0
    .simp only[aa,bc,l8,s,qv U,s9,t,l9]
     grind [pI]
    .simp only[aa,bc,l8,s,U,s9,t,l9]
     grind [pI]
 rcases L with rfl|rfl
 .have t1:=qv (show(1:Int)=1 from rfl);simp only[aa,bc,w0,<-e1,n1,eZ,<-e2,w2,yr,nl];exact r
 .have t1:¬(2:Int)=1:=by decide
  have t2:=qv (show(2:Int)=2 from rfl);simp only[aa,bc,w0,<-e1,n1,eZ,<-e2,w2,yr,nl,t1];exact r
end
end Go.Am
namespace Go.Am
open Go.Proofs Ca
variable{M:ak}[MK M]
theorem OK(p:Nat->Bool)(k:Nat):(N2 (k+1)).filter p=(N2 k).filter p++(if p k then[k]else[]):=by
 grind [List.range_succ]
def N'(p:Nat->Bool){k:Nat}:∀m:Nat,∃X,(N2 (k+m)).filter p=(N2 k).filter p++X
 |0=>⟨[],by simp⟩
 |m+1=>by
  obtain⟨X,a⟩:=N' p m;rw[<-Ad,OK,a]
  grind
theorem VO(p:Nat->Bool){n k:Nat}(hk:k<n)(hp:p k=B4):((N2 n).filter p)[((N2 k).filter p).length]? = B1 k:=by
 obtain⟨m,rfl⟩:∃m,n=k+1+m:=⟨n-(k+1),by omega⟩
 have⟨X,a⟩:=N' p (k:=k+1) m
 grind [OK]
def my(c:Ca):List Nat:=(N2 c.sl.length).filter λ k=>(c.en k).st != 0
def kS(c:Ca)(sv:AV):List (List AV):=(my c).map λ k=>[eA sv k]
def T_(b:Nat)(sv:AV)(c:Ca)(Hx:ar):Prop:=∃c',d9 Hx b sv c'/\c'.sl.length=c.sl.length /\ ∀k,(c'.en k).st=(c.en k).st
def Q_{H0:ar}{p b:Nat}{sv:AV}{c:Ca}(hp:H0.get p=B1 (OR [.ptr b 0] EI))(hpl:p<H0.au)(hl:c.sl.length<=40) :
 ta M Q2 [] [.ptr p 0] (λ x=>x=p) (λ _=>False) (λ _=>T_ b sv c) H0 (kS c sv):=by
 intro Y R S g H1 hnx X m Z loc P hI step;have⟨p1,p2,p3⟩:=X p (.inl rfl)
 suffices h:zb M Q2 [.fn (.yield Y) [] [],.ptr p 0] H1 (Iv R S g (λ _=>False) H1 (kS c sv).length)by
  have⟨v,H',hc,W',y,q2,q3⟩:=h.elim
  grind
 refine qx0 ?_;obtain⟨w0,w1,w7,w9,j,z,B,A,K⟩:=qx1 M ⟨B5,Q2⟩;have lp:∀{d:ar},Fr g H1 d->Op.ae [.ptr p 0] d=B1 (.ptr b 0):=λ f=>by rw[x9 (xc (by rw[f.ah _ (by omega) p3,p2];exact hp))];rfl
 have r0:=Fr.refl (W:=g) H1;have⟨c1,N,G,U⟩:=hI 0 g H1 m;have l2:Op.ae [.ptr b 2] H1=B1 sv:=N.Uq 2;have ln:Op.cw [sv]=B1 (.int .i64 ((c.sl.length:Nat):Int)):=by rw[<-G];exact(N.sl.sl zx).len
 simp only[aa,bc,w0,w1,lp r0,yr,w7,w9,qo,l2,ln];refine b9.intro (λ n E d=>∃(i:Nat)(V:Nat->Prop),E=[(11,.int .i64 (i:Int)),(10,.int .i64 ((c.sl.length:Nat):Int)),(0,.fn (.yield Y) [] []),(1,.ptr p 0)]/\n=c.sl.length-i/\i<=c.sl.length/\Jw R g H1 d ((N2 i).filter λ k=>(c.en k).st != 0).length V) ?_ ?_
 .exact ⟨_,_,⟨0,g,rfl,rfl,xw _,⟨m,λ b hb=>(by grind),Fr.refl _⟩⟩,by simp only[aa,bc]⟩
 rintro n E d ⟨i,V,rfl,rfl,hi,a⟩;rcases xz i c.sl.length with hlt|hge
 .have y:(i:Int)<((c.sl.length:Nat):Int):=by omega
  have⟨T,F,hl',J⟩:=hI _ V d a.hR;have u:Op.ae [.ptr b 2] d=B1 sv:=F.Uq 2;have t:i<T.sl.length:=by omega
  have ix:=F.ix t;have ls:Op.ae [.ptr (aG sv) (cJ 21 sv i+1)] d=B1 (.int .i64 (c.en i).st):=by rw[<-J i];exact F.ld t (k:=1) (by decide)
  have Q:aj .i64 ((i:Int)+1)=((i+1:Nat):Int):=by grind [jb]
  have O:=OK (λ k=>(c.en k).st != 0) i
  by_cases C:(c.en i).st=0
  .have s:((N2 (i+1)).filter λ k=>(c.en k).st != 0).length=((N2 i).filter λ k=>(c.en k).st != 0).length:=by rw[O];simp[C]
   simp only[aa,bc,j,y,z,A,lp a.fr,qo,u,ix,ls,qv C,B,Q];exact⟨_,_,⟨i+1,V,rfl,rfl,by omega,by rw[s];exact a⟩,by simp only[aa,bc],by omega⟩
  .have s:((N2 (i+1)).filter λ k=>(c.en k).st != 0).length=((N2 i).filter λ k=>(c.en k).st != 0).length+1:=by rw[O];simp[C]
   have hg:(kS c sv)[((N2 i).filter λ k=>(c.en k).st != 0).length]? = B1 [eA sv i]:=by
    grind [kS,my,VO]
   have⟨bb,L,D,hr,I,r,ht,hs⟩:=step _ _ hg V d a.hR a.hV (a.fr.mono λ _ _ q=>.inl q);have l:Fr g H1 L:=a.fr.trans I λ b q=>(a.hV b q).2;have o:∀b,D b->b<L.au/\(g b\/H1.au<=b):=λ b q=>⟨(r b q).1,(r b q).2.elim (λ w=>(a.hV b w).2) λ w=>.inr (xx a.fr.au w)⟩
   simp only[aa,bc,j,y,z,A,lp a.fr,qo,u,ix,ls,C,K];refine C3.tR hr ?_;cases bb with
   |true =>
    simp only[aa,bc,B,Q];exact⟨_,_,⟨i+1,D,rfl,rfl,by omega,⟨by grind,o,l⟩⟩,by simp only[aa,bc],by omega⟩
   |false =>
    simp only[aa,bc,uG];exact⟨D,l.mono λ _ _ q=>.inl q,o,.inr (hs rfl)⟩
 .have y:¬(i:Int)<((c.sl.length:Nat):Int):=by omega
  have hiw:i=c.sl.length:=by omega
  simp only[aa,bc,j,y,Ce];refine⟨V,a.fr.mono λ _ _ q=>.inl q,a.hV,.inl ?_⟩;have e:(kS c sv).length=((N2 i).filter λ k=>(c.en k).st != 0).length:=by grind [kS,my]
  rw[e];exact a.hR
def xcv{H:ar}(b:Nat):zb M h_ [.ptr b 0] H λ v H'=>v=.fn (.func Q2) [] [.ptr H.au 0]/\H'=H.alloc (OR [.ptr b 0] EI):=by
 refine q5d ?_;simp_all[aa,q5e]
structure FQ(c:Ca)(g:En->En)(i:Nat)(c':Ca):Prop where
 fM:c'.fM=c.fM
 ways:c'.ways=c.ways
 us:c'.us=c.us
 len:c'.sl.length=c.sl.length
 en:∀k,k<c.sl.length->c'.en k=if k∈(my c).take i then g (c.en k)else c.en k
def FQ.zero(c:Ca)(g:En->En):FQ c g 0 c:=⟨rfl,rfl,rfl,rfl,λ k hk=>by simp⟩
def xfh(c:Ca):(my c).Nodup:=List.Nodup.sublist (List.filter_sublist) List.nodup_range
def SN{c:Ca}{k:Nat}:k∈my c↔k<c.sl.length/\(c.en k).st≠0:=by
 grind [my]
def xjv{l:List Nat}(h:l.Nodup){i k:Nat}(hk:l[i]? = B1 k):k∉l.take i:=by
 grind [MA,List.pairwise_iff_getElem]
def FQ.step{c a:Ca}{g:En->En}{i k:Nat}(h:FQ c g i a)(hk:(my c)[i]? = B1 k):a.en k=c.en k/\FQ c g (i+1) (a.set k (g (c.en k))):=by
 have hm:=SN.1 (ze hk);have hn:=xjv (xfh c) hk;have he:a.en k=c.en k:=by rw[h.en k hm.1,qy hn]
 refine⟨he,h.fM,h.ways,h.us,by show(a.sl.set k _).length=_;rw[zg];exact h.len,λ j d=>?_⟩;rw[D8 (by rw[h.len];omega),kq,hk]
 by_cases q:k=j
 .grind
 .rw [qy q,h.en j d]
  grind
def FQ.done{c a:Ca}{g:En->En}(h:FQ c g (my c).length a)(hg:∀e:En,e.st=0->g e=e):a = {c with sl:=c.sl.map g}:=by
 have d:a.sl=c.sl.map g:=by
  refine yk λ k=>?_;rcases xz k c.sl.length with q|q
  .rw [FD (by rw[h.len];exact q),xq,FD q,h.en k q,zd (qm _)];simp_all[SN]
  .rw [jp (by rw[h.len];exact q),jp (by rw[xu];exact q)]
 have⟨s,w,l,u⟩:=a;have f:=h.fM;have i:=h.ways;have j:=h.us
 grind
structure MH(c:Ca)(g:En->En)(b:Nat)(sv:AV)(i:Nat)(V:Nat->Prop)(Hx:ar):Prop where
 vb:V b
 vs:V (aG sv)
 ex:∃c',d9 Hx b sv c'/\FQ c g i c'
def d9.loc{a Hb:ar}{b:Nat}{sv:AV}{c:Ca}(h:d9 a b sv c)(g:Hb.get b=a.get b)(d:Hb.get (aG sv)=a.get (aG sv))(hn:a.au<=Hb.au):d9 Hb b sv c :=
 ⟨by rw[g];exact h.row,qn h.lt hn,by
  have⟨sb,e1,e2,e⟩:=h.sl;have f:aG sv=sb:=by rw[e1];rfl
  rw[f]at d;exact⟨sb,e1,qn e2 hn,by rw[d];exact e⟩,h.ne,h.s8,h.w4,h.us⟩
def MH.loc{c:Ca}{g:En->En}{b:Nat}{sv:AV}{i:Nat}{V:Nat->Prop}{a Hb:ar}(h:MH c g b sv i V a)(hs:∀x,V x->Hb.get x=a.get x)(hn:a.au<=Hb.au):MH c g b sv i V Hb:=by
 have⟨d,e,f⟩:=h.ex;exact⟨h.vb,h.vs,d,e.loc (hs _ h.vb) (hs _ h.vs) hn,f⟩
def MH.hI{c:Ca}{g:En->En}(hg:∀e:En,(g e).st=e.st){b:Nat}{sv:AV}{i:Nat}{V:Nat->Prop}{d:ar}(h:MH c g b sv i V d):T_ b sv c d:=by
 have⟨f,j,a⟩:=h.ex;refine⟨f,j,a.len,λ k=>?_⟩;rcases xz k c.sl.length with q|q
 .rw [a.en k q];split
  .exact hg _
  .rfl
 .rw [UT q,UT (by rw[a.len];exact q)]
section
variable{H:ar}{b:Nat}{sv:AV}{c:Ca}{lines line:Int}
def _U(E:d9 H b sv c)(hl:c.sl.length<=40):zb M M5 [.ptr b 0] H λ _ H'=>d9 H' b sv c.bt/\Fr (nE b sv) H H':=by
 refine qxx ?_;have⟨w0,wa,wb,w2,R,S⟩:=_V M ⟨B5,M5⟩;simp only[aa,bc,w0,w2,yr,R];refine C3.q (xcv b) λ v H5⟨hv,hh⟩=>?_;have⟨H1,e1,U,n1,g1⟩:=cq H (OR [.ptr b 0] EI);rw[<-e1]at hh;rw[hv,hh];have F:=E.em U;have hlt:=E.lt;have hsb:aG sv<H.au:=E.sl.lt;refine iE.sZ (fn:=Ti) (lp:=O7) (pa:=VI 0) (pb:=ZI 0) qv6 z'.1 z'.2 (by decide) qud que
  (Q_ (b:=b) (sv:=sv) (c:=c) g1 (by omega) hl) (λ i V T=>MH c rA b sv i V T) (λ _ _ _=>False) (nE b sv) (qm _) ?_ ?_ ?_ ?_ ?_ ?_ ?_ ?_ ?_
 .rintro x (q|q)
  .exact ⟨by omega,rfl,λ w=>w.elim (by omega) λ w=>by omega⟩
  grind
 .exact λ x z=>z.elim (by omega) λ q=>by omega
 .exact ⟨.inl rfl,.inr rfl,c,F,FQ.zero c rA⟩
 .exact λ i V Ha Hb h hs hn=>h.loc hs hn
 .grind
 .exact λ i V T h=>h.hI Z2
 .intro f i lr lb x z hL2 V l s hV hf6 hnL hL6 K;unfold kS at z;rw[xq,xr]at z;obtain⟨k,hk,rfl⟩:=z;refine⟨_,rfl,?_⟩;obtain⟨-,wa,wb,-⟩:=_V M ⟨B1 f,M5⟩;simp only[aa,bc,wa,A9];refine⟨K,?_⟩;have fx:Fr (On f) l (l.set f lb):=(Fr.refl l).set (W:=On f) (.inl rfl) _;have gL:(l.set f lb).get f=B1 lb:=xb ..;have nL:(l.set f lb).au=l.au:=rfl;have D:=s.loc (Hb:=l.set f lb) (by grind [kr]) (qm _);generalize l.set f lb=H7 at *;have⟨a,h7,ht⟩:=D.ex;have⟨hek,P⟩:=ht.step hk;have hm:=SN.1 (ze hk);have p:k<a.sl.length:=by rw[ht.len];omega
  have⟨H8,s8,h8,f8⟩:=h7.dk p (j:=2) (by decide) (u:=.bool B2) rfl (e:={a.en k with r:=B2}) rfl;have N:k<(a.set k {a.en k with r:=B2}).sl.length:=by show k<(a.sl.set k _).length;grind
  have⟨H9,s9,Z,f9⟩:=h8.dk N (j:=3) (by decide) (u:=.bool B2) rfl (e:={(a.set k {a.en k with r:=B2}).en k with w:=B2}) rfl;rw[L6 p,TC]at Z;have O:k<(a.set k {a.en k with r:=B2,w:=B2}).sl.length:=by show k<(a.sl.set k _).length;grind
  have⟨t,Q,m,B⟩:=Z.SA O (j:=12) (n:=8) (u:=.agg (cG .zero)) (by grind [zp,yi]) (by grind [zp,ue]) (by decide) (e:={(a.set k {a.en k with r:=B2,w:=B2}).en k with o:=.zero}) (IY _ _);rw[L6 p,TC]at m;have ec:({a.en k with r:=B2,w:=B2,o:=.zero}:En)=rA (c.en k):=by simp_all[rA]
  have m:d9 t b sv (a.set k (rA (c.en k))):=by grind
  have g:Fr (On (aG sv)) H7 t:=(f8.trans f9 λ _ q=>.inl q).trans B λ _ q=>.inl q;have C:f≠aG sv:=λ q=>(by omega)
  have n710:=g.au;simp only[aa,bc,wb,lZ,BD,qo,s8,s9,Q];refine⟨rfl,by rw[g.ah f (by omega) (λ(q:f=aG sv)=>C q)];exact gL,V,λ y hy=>⟨by have:=(hV y hy).1;omega,.inl hy⟩,(fx.mono λ y _ q=>.inr q).trans g λ y(q:y=aG sv)=>.inl (.inl (by rw[q];exact s.vs)),.inl ⟨rfl,s.vb,s.vs,_,m,P⟩⟩
 .intro d V A hd1 hd2 L J hVd s;have⟨a,X,Y⟩:=s.ex;have el:(kS c sv).length=(my c).length:=by grind [kS]
  rw[el]at Y;have e:a=c.bt:=Y.done λ e h=>by simp_all[rA]
  rw[e]at X;have G:d≠b:=by omega
  have I:d≠aG sv:=by omega
  have fo:Fr (On d) A (A.set d (.deferred B5)):=(Fr.refl A).set (W:=On d) (.inl rfl) _;have fW:Fr (nE b sv) H A:=(sj U).trans J λ y q=>q.elim (λ w=>.inl w) NR;simp only[aa,bc,S,JH];exact⟨L,X.fr fo (λ(q:b=d)=>G q.symm) (λ(q:aG sv=d)=>I q.symm),fW.set (.inr (by omega)) _⟩
 grind
end
end Go.Am
namespace Go.Am
open Go.Proofs Ca
variable{M:ak}[MK M]
def mE(e:En):En:=if e.st≠0/\e.w=B4 then{e with d:=e.o}else e
def _y(e:En):(mE e).st=e.st:=by grind [mE]
def D4(e:En):rA (mE e)=back e:=by
 unfold rA back;rw[_y]
 by_cases h:e.st=0
 .simp_all [mE]
 .rw [qy h,qy h];unfold mE
  grind
def xix(c:Ca):Ca.bt {c with sl:=c.sl.map mE} = c.discard:=by
 unfold Ca.bt Ca.discard;simp only[A5];congr 1;exact List.map_congr_left λ e _=>D4 e
section
variable{H:ar}{b:Nat}{sv:AV}{c:Ca}{lines line:Int}
def xcf(F:d9 H b sv c)(hl:c.sl.length<=40):zb M Od [.ptr b 0] H λ _ H'=>d9 H' b sv c.discard/\Fr (nE b sv) H H':=by
 refine qv7 ?_;have⟨w0,wa,wb,w2,P,Q⟩:=qmj M ⟨B5,Od⟩;simp only[aa,bc,w0,w2,yr,P];refine C3.q (xcv b) λ v H5⟨hv,hh⟩=>?_;have⟨H1,e1,U,n1,g1⟩:=cq H (OR [.ptr b 0] EI);rw[<-e1]at hh;rw[hv,hh];have G:=F.em U;have hlt:=F.lt;have hsb:aG sv<H.au:=F.sl.lt;refine iE.sZ (fn:=Ui) (lp:=P8) (pa:=X6 0) (pb:=YX 0) quf qkb.1 qkb.2 (by decide) qsp qsq
  (Q_ (b:=b) (sv:=sv) (c:=c) g1 (by omega) hl) (λ i V S=>MH c mE b sv i V S) (λ _ _ _=>False) (nE b sv) (qm _) ?_ ?_ ?_ ?_ ?_ ?_ ?_ ?_ ?_
 .rintro x (q|q)
  .exact ⟨by omega,rfl,λ w=>w.elim (by omega) λ w=>by omega⟩
  grind
 .exact λ x t=>t.elim (by omega) λ q=>by omega
 .exact ⟨.inl rfl,.inr rfl,c,G,FQ.zero c mE⟩
 .exact λ i V Ha Hb h hs hn=>h.loc hs hn
 .grind
 .exact λ i V S h=>h.hI _y
 .intro f i lr lb x t hL2 V g l hV hf6 hnL hL6 K;unfold kS at t;rw[xq,xr]at t;obtain⟨k,hk,rfl⟩:=t;refine⟨_,rfl,?_⟩;obtain⟨-,wa,wb,-⟩:=qmj M ⟨B1 f,Od⟩;simp only[aa,bc,wa,A9];refine⟨K,?_⟩;have Y:Fr (On f) g (g.set f lb):=(Fr.refl g).set (W:=On f) (.inl rfl) _;have Z:(g.set f lb).get f=B1 lb:=xb ..;have nL:(g.set f lb).au=g.au:=rfl;have E:=l.loc (Hb:=g.set f lb) (by grind [kr]) (qm _);generalize g.set f lb=H7 at *;have⟨a,A,ht⟩:=E.ex;have⟨hek,p⟩:=ht.step hk;have hm:=SN.1 (ze hk);have m:k<a.sl.length:=by rw[ht.len];omega
  have D:f≠aG sv:=λ q=>(by omega)
  have lw:Op.ae [.ptr (aG sv) (cJ 21 sv k+3)] H7=B1 (.bool (a.en k).w):=A.ld m (k:=3) (by decide);cases hw:(a.en k).w with
  |true =>
   rw[hw]at lw;have⟨H8,s8,h8,B⟩:=A.SA m (j:=4) (n:=8) (u:=.agg (cG (a.en k).o)) (by grind [zp,yi]) (by grind [zp,ue]) (by decide) (e:={a.en k with d:=(a.en k).o}) (JK _ _);have T:({a.en k with d:=(a.en k).o}:En)=mE (c.en k):=by
    simp_all[mE]
   have h8:d9 H8 b sv (a.set k (mE (c.en k))):=by grind
   have n78:=B.au;simp only[aa,bc,wb,qo,lw,A.ldO m,s8];exact⟨rfl,by rw[B.ah f (by omega) (λ(q:f=aG sv)=>D q)];exact Z,V,λ y O=>⟨by have:=(hV y O).1;omega,.inl O⟩,(Y.mono λ y _ q=>.inr q).trans B λ y(q:y=aG sv)=>.inl (.inl (by rw[q];exact l.vs)),.inl ⟨rfl,l.vb,l.vs,_,h8,p⟩⟩
  |false =>
   rw[hw]at lw;have T:a.set k (mE (c.en k))=a:=by
    have hu:mE (c.en k)=a.en k:=by
     simp_all[mE]
    rw[hu];unfold Ca.set Ca.en;simp_all
   rw[T]at p;simp only[aa,bc,wb,qo,lw];exact⟨rfl,Z,V,λ y O=>(by grind),Y.mono λ y _ q=>.inr q,.inl ⟨rfl,l.vb,l.vs,_,A,p⟩⟩
 .intro d V R hd1 I L J hVd l;have⟨a,h1,C⟩:=l.ex;have el:(kS c sv).length=(my c).length:=by grind [kS]
  rw[el]at C;have e:a = {c with sl:=c.sl.map mE}:=C.done λ e h=>by simp_all[mE]
  have r:d≠b:=by omega
  have s:d≠aG sv:=by omega
  have fW:Fr (nE b sv) H R:=(sj U).trans J λ y q=>q.elim (λ w=>.inl w) NR;simp only[aa,bc,Q];refine C3.q (_U h1 (by rw[C.len];exact hl)) λ _ z⟨h3,X⟩=>?_;rw[e,xix]at h3;have N:z.get d=B1 (.deferred (B1 [])):=by rw[X.ah d I (λ q=>q.elim r s)];exact L
  have fo:Fr (On d) z (z.set d (.deferred B5)):=(Fr.refl z).set (W:=On d) (.inl rfl) _;simp only[aa,bc,JH];exact⟨N,h3.fr fo (λ(q:b=d)=>r q.symm) (λ(q:aG sv=d)=>s q.symm),(vO fW X).set (.inr (by omega)) _⟩
 .exact λ e d V R _ _ _ _ _ _ h=>h.elim
end
end Go.Am
namespace Go.Am
open Go.Proofs Ca
variable{M:ak}[MK M]
def pq(s w:Nat):Ca:=⟨s,w,I5 (s*w) .zero,0⟩
def Zp(s w k:Nat):(pq s w).en k=.zero:=by
 grind [Ca.en,pq]
def ac8(lines:Int){s w:Nat}(hs:0<s)(hw:0<w):CI lines (pq s w) :=
 ⟨jh ..,hs,hw,λ i _ h=>by rw[Zp]at h;exact absurd rfl h,λ i j _ _ h=>by rw[Zp]at h;exact absurd rfl h⟩
def xf1(s w:Nat):(pq s w).plain:=λ i _ h=>by rw[Zp]at h;exact absurd rfl h
def k_:∀n:Nat,(I5 n En.zero).flatMap az=fP n (az .zero)
 |0=>rfl
 |n+1=>by rw[Q1,j8,k_ n];rfl
def sG(s w:Int):Prop:=1<=s/\s<=8/\1<=w/\w<=4
instance(s w:Int):Decidable (sG s w):=inferInstanceAs (Decidable (_/\_))
def U2(H:ar)(s w:Int)(v:AV)(H':ar):Prop:=Fr Em H H'/\(¬sG s w/\v=.tuple [.nilp,.int .i64 2]\/sG s w /\ ∃b sv,v=.tuple [.ptr b 0,.int .i64 0]/\d9 H' b sv (pq s.toNat w.toNat)/\H.au<=b/\H.au<=aG sv)
def xji{H:ar}(s w:Int):zb M VN [.int .i64 s,.int .i64 w] H (U2 H s w):=by
 refine af1 ?_;obtain⟨w0,w2,j⟩:=Fj M ⟨B5,VN⟩
 by_cases f:s<1
 .simp only[aa,bc,w0,w2,f];exact⟨Fr.refl _,.inl ⟨λ q=>by have:=q.1;omega,rfl⟩⟩
 by_cases g:8<s
 .simp only[aa,bc,w0,w2,f,g];exact⟨Fr.refl _,.inl ⟨λ q=>by have:=q.2.1;omega,rfl⟩⟩
 by_cases h:w<1
 .simp only[aa,bc,w0,w2,f,g,h];exact⟨Fr.refl _,.inl ⟨λ q=>by have:=q.2.2.1;omega,rfl⟩⟩
 by_cases l:4<w
 .simp only[aa,bc,w0,w2,f,g,h,l];exact⟨Fr.refl _,.inl ⟨λ q=>by have:=q.2.2.2;omega,rfl⟩⟩
 obtain⟨a,rfl⟩:=jk (show 0<=s by omega);obtain⟨d,rfl⟩:=jk (show 0<=w by omega);have p:a*d<=8*4:=Nat.mul_le_mul (by omega) (by omega);have t:aj .i64 ((a:Int)*(d:Int))=((a*d:Nat):Int):=by grind [jb]
 have mk:=X5 xk 160 (az .zero) (a*d) .i64 .i64 (by omega) (by omega);rw[<-k_]at mk;obtain⟨H1,e1,n,n1,-⟩:=cq H (OR ((I5 (a*d) En.zero).flatMap az) xk);obtain⟨sv,e⟩:∃sv:AV,sv=.slice H.au 0 (a*d) (a*d):=⟨_,rfl⟩
 have i:Op.sliceTo (a*d) (a*d) H.au=sv:=by rw[e];rfl
 have r:aG sv=H.au:=by rw[e];rfl
 have m:Op.build [.int .i64 0,.int .i64 0,.nils,.int .i64 0] [(0,1),(1,1),(2,1)] [.int .i64 (a:Int),.int .i64 (d:Int),sv]=B1 (.agg (Fq (pq a d) sv)):=by rw[e];rfl
 obtain⟨u,e2,k,-,o⟩:=cq H1 (OR (Fq (pq a d) sv) Xv);simp only[aa,bc,w0,w2,f,g,h,l,j,t,eZ,mk,i,<-e1,m,<-e2];refine⟨n.trans k λ _ q=>q.elim,.inr ⟨⟨by omega,by omega,by omega,by omega⟩,_,sv,rfl,⟨o,by rw[e2,xy];omega,⟨H.au,?_,?_,?_⟩,by omega,by show a<=8;omega,by show d<=4;omega,⟨yE _,by show(0:Int)<=1000000;decide⟩⟩,by omega,by omega⟩⟩
 .show sv=.slice H.au 0 (I5 (a*d) En.zero).length (I5 (a*d) En.zero).length
  grind
 .grind [xy]
 .rw [k.ah _ (by omega) id,e1,xp];rfl
end Go.Am
