/- LqMg: MmA MmB. -/
import Derived.Test.YtbimikjajohflaaGreatDoorAmMCodeMQ
import Derived.Test.YtbimikjajohflaaGreatDoorAmMLqM9
import Derived.Test.YtbimikjajohflaaGreatDoorAmMLqMf
import Derived.Test.YtbimikjajohflaaGreatDoorAmMLqM6
import Derived.Test.YtbimikjajohflaaGreatDoorAmMLqMc
set_option linter.unusedVariables false
set_option linter.unusedSimpArgs false
set_option linter.unusedSectionVars false
set_option maxRecDepth 100000
open Nat (reduceEqDiff)
namespace Go.Am
open Lang Go.Proofs
variable {M:aO} [MK M]
structure sn (f:cF) (W v w:List Int) (a b c:Nat):Prop where
 len:W.length=f.all
 vs:∀ i,i<b->W[f.vars.toNat+i]? = v[i]?
 ws:∀ i,i<c->W[f.base.toNat+i]? = w[i]?
 no:∀ j,j<a -> ¬ (f.vars.toNat<=j/\j<f.vars.toNat+b) -> ¬ (f.base.toNat<=j/\j<f.base.toNat+c)->W[j]? = some ((j:Int)*7+1)
theorem sn.Qb {f:cF} {W v w:List Int} {a:Nat} (h:sn f W v w a 0 0) (ha:a<f.all):sn f (W.set a ((a:Int)*7+1)) v w (a+1) 0 0:=by
 refine ⟨by rw [xm];exact h.len,λ i hi=>by omega,λ i hi=>by omega,λ j hj h1 h2=>?_⟩
 by_cases q:a=j
 ·subst q;rw [jt (by rw [h.len];exact ha)]
 ·rw [xu q];exact h.no j (by omega) (by omega) (by omega)
theorem sn.Oq {f:cF} {W v w:List Int} {b:Nat} {y:Int} (h:sn f W v w f.all b 0) (hb:b<8) (hy:v[b]? = some y):sn f (W.set (f.vars.toNat+b) y) v w f.all (b+1) 0:=by
 refine ⟨by rw [xm];exact h.len,λ i hi=>?_,λ i hi=>by omega,λ j hj h1 h2=>?_⟩
 ·by_cases q:b=i
  ·subst q;rw [jt (by rw [h.len];unfold cF.all;omega),hy]
  ·rw [xu (by omega)];exact h.vs i (by omega)
 ·rw [xu (by omega)];exact h.no j hj (by omega) (by omega)
theorem sn.Oh {f:cF} (hF:nu f) {W v w:List Int} {c:Nat} {y:Int} (h:sn f W v w f.all 8 c) (hc:c<f.many.toNat) (hy:w[c]? = some y):sn f (W.set (f.base.toNat+c) y) v w f.all 8 (c+1):=by
 have hsep:=hF.sep;have:=hF.v0;have:=hF.b0;have:=hF.m0;refine ⟨by rw [xm];exact h.len,λ i hi=>?_,λ i hi=>?_,λ j hj h1 h2=>?_⟩
 ·rw [xu (by omega)];exact h.vs i hi
 ·by_cases q:c=i
  ·subst q;rw [jt (by rw [h.len];unfold cF.all;omega),hy]
  ·rw [xu (by omega)];exact h.ws i (by omega)
 ·rw [xu (by omega)];exact h.no j hj h1 (by omega)
theorem q4w:∀ n:Nat,(List.replicate n (0:Int)).flatMap fD=List.replicate n (AV.int .u64 0)
 | 0=>rfl
 | n+1=>by rw [wz,wz,jl,q4w n];rfl
theorem Jf {H:AHeap} {size:Nat} {v:AV} {n:Nat} {cells:List AV} (h:Sl H size v n cells) (hn:n ≠ 0):dK v<H.next:=by
 obtain ⟨_,h⟩:=h;cases v<;>first|exact h.elim|skip
 ·exact (hn h).elim
 ·obtain ⟨_,_,h⟩:=h;exact h.elim (λ q=>(hn q).elim) λ q=>q.1
 ·obtain ⟨_,_,_,h⟩:=h;exact h.elim (λ q=>(hn q).elim) λ q=>q.1
 ·exact h.2
def LdR (H:AHeap) (f:cF) (v w:List Int) (r:AV) (H':AHeap):Prop:=∃ W,iJ fD vq 1 H' r W/\lA f W v w/\Fr Em H H'/\H.next<=dK r
theorem q44 {H:AHeap} {wv:AV} {f:cF} {v w:List Int} (hF:nu f) (hv:v.length=8) (hw:cU fD 1 H wv w) (hwl:w.length=f.many.toNat) :
 ye M Bj [Av f,.agg (v.map uC),wv] H (LdR H f v w):=by
 refine q5e ?_;obtain ⟨w0,w4,w6,w21,w11,w36,w26,w17,w51,w41,w32,w20,w47,w35,w50⟩:=q5f M ⟨none,Bj⟩;obtain ⟨v0,v1,b0,b1,m0,m1,sep⟩:=id hF;obtain ⟨H1,e1⟩:∃ X,X=H.alloc (OR [.int .i64 f.vars,.int .i64 f.base,.int .i64 f.many] vN):=⟨_,rfl⟩
 obtain ⟨H2,e2⟩:∃ X,X=H1.alloc (OR (v.map uC) cQ):=⟨_,rfl⟩
 have f1:Fr Em H H1:=by rw [e1];exact (Fr.refl H).alloc _
 have f12:Fr Em H1 H2:=by rw [e2];exact (Fr.refl H1).alloc _
 have n1:H1.next=H.next+1:=by rw [e1,xk]
 have n2:H2.next=H.next+2:=by rw [e2,xk,n1]
 have g1:H2.get H.next=some (OR [.int .i64 f.vars,.int .i64 f.base,.int .i64 f.many] vN):=by rw [f12.aj _ (by omega) id,e1,qp]
 have g2:H2.get (H.next+1)=some (OR (v.map uC) cQ):=by rw [e2,<-n1,qp]
 have ca:AV.cells (.agg (v.map uC))=v.map uC:=z7 _;have cf:AV.cells (Av f)=[.int .i64 f.vars,.int .i64 f.base,.int .i64 f.many]:=z7 _;have l1:=λ o=>j8 (qy g1) o;have q1:ae .i64 (f.vars+8)=f.vars+8:=zk (by omega) (by omega);have q2:ae .i64 (f.base+f.many)=f.base+f.many:=zk (by omega) (by omega);have q3:max (f.vars+8) (f.base+f.many)=((f.all:Nat):Int):=by unfold cF.all;omega
 obtain ⟨n,hn⟩:∃ n,n=f.all:=⟨_,rfl⟩
 have hn6:n<=608:=by rw [hn];unfold cF.all;omega
 have mk:=O0 vq 8 [.int .u64 0] n .i64 .i64 (by omega) (by omega);rw [vL] at mk;rw [<-hn] at q3;obtain ⟨H3,e3⟩:∃ X,X=H2.alloc (OR (List.replicate n (.int .u64 0)) vq):=⟨_,rfl⟩
 have f23:Fr Em H2 H3:=by rw [e3];exact (Fr.refl H2).alloc _
 have f03:Fr Em H H3:=(f1.trans f12 λ _ q=>q.elim).trans f23 λ _ q=>q.elim;have n3:H3.next=H.next+3:=by rw [e3,xk,n2]
 obtain ⟨r,hr⟩:∃ r:AV,r=.slice (H.next+2) 0 n n:=⟨_,rfl⟩
 have hsb:dK r=H.next+2:=by rw [hr];rfl
 have row0:iJ fD vq 1 H3 r (List.replicate n 0):=by
  refine ⟨H.next+2,by rw [List.length_replicate,hr],by omega,?_⟩;rw [e3,<-n2,qp];rw [q4w]
 have hsl0:Op.sliceTo n n (H.next+2)=r:=by rw [hr];rfl
 simp only [↓qh,qq,reduceIte,reduceEqDiff,w0,ca,cf,<-e1,<-e2,n1,n2,l1,q1,q2,max2,q3,w4,mk,<-e3,hsl0,w6]
 -- others
 refine bS.intro (λ k E H'=>∃ i W,E=[(9,.int .i64 (i:Nat)),(8,r),(7,.int .i64 (n:Nat)),(4,.ptr (H.next+1) 0),(3,.ptr H.next 0),(2,wv)]/\k=n-i/\i<=n/\iJ fD vq 1 H' r W/\sn f W v w i 0 0/\Fr (On (H.next+2)) H3 H') ?_ ?_
 ·exact ⟨_,_,⟨0,_,rfl,rfl,ja _,row0,⟨by rw [List.length_replicate,hn],λ i hi=>by omega,λ i hi=>by omega,λ j hj=>by omega⟩,Fr.refl _⟩,by simp only [↓qh,qq,reduceIte,reduceEqDiff]⟩
 rintro k E H4 ⟨i,W,rfl,rfl,hi,row,ld,fr⟩;have hsl:=row.sl qW;rcases kg i n with aT|hge
 ·have c1:(i:Int)<(n:Nat):=by omega
  obtain ⟨x,hx⟩:∃ x,W[i]? = some x:=⟨W[i]'(by rw [ld.len];omega),by simp [ld.len,<-hn,aT]⟩
  obtain ⟨H5,s1,s2,s3⟩:=row.pj qW hx (j:=0) (y:=((i:Int)*7+1)) (by omega) (u:=.int .u64 ((i:Int)*7+1)) rfl rfl;rw [jv] at s1;have ix:=hsl.idx hx (z:=(i:Int)) rfl .i64;have a1:ae .u64 (i:Int)=(i:Int):=ww (by omega) (by omega);have a2:ae .u64 ((i:Int)*7)=(i:Int)*7:=ww (by omega) (by omega);have a3:ae .u64 ((i:Int)*7+1)=(i:Int)*7+1:=ww (by omega) (by omega);have wi:ae .i64 ((i:Int)+1)=((i+1:Nat):Int):=by rw [zk (by omega) (by omega)];omega
  simp only [↓qh,qq,reduceIte,reduceEqDiff,w11,c1,w17,a1,a2,a3,ix,s1,w20,wi];exact ⟨_,_,⟨i+1,_,rfl,rfl,by omega,s2,ld.Qb (by omega),fr.trans s3 λ x (q:x=dK r)=>.inl (q.trans hsb)⟩,by simp only [↓qh,qq,reduceIte,reduceEqDiff],by omega⟩
 have c1:¬ (i:Int)<(n:Nat):=by omega
 have hin:i=f.all:=by omega
 subst hin;simp only [↓qh,qq,reduceIte,reduceEqDiff,w11,c1,w21];have hnx:H.next+2<H3.next:=by omega
 have G1:∀ {Hx:AHeap},Fr (On (H.next+2)) H3 Hx -> ∀ o,Op.aa [.ptr H.next o] Hx=[AV.int .i64 f.vars,.int .i64 f.base,.int .i64 f.many][o]?:=λ {Hx} fx o=>j8 (qy (by rw [fx.aj _ (by omega) (λ q:H.next=H.next+2=>by omega),f23.aj _ (by omega) id];exact g1)) o;have G2:∀ {Hx:AHeap},Fr (On (H.next+2)) H3 Hx -> ∀ o,Op.aa [.ptr (H.next+1) o] Hx=(v.map uC)[o]?:=λ {Hx} fx o=>j8 (qy (by rw [fx.aj _ (by omega) (λ q:H.next+1=H.next+2=>by omega),f23.aj _ (by omega) id];exact g2)) o;clear hsl row0 l1 w11 w17 w20 w0 w4 w6
 -- the variables
 refine bS.intro (λ k E H'=>∃ i W,E=[(10,.int .i64 (i:Nat)),(8,r),(4,.ptr (H.next+1) 0),(3,.ptr H.next 0),(2,wv)]/\k=8-i/\i<=8/\iJ fD vq 1 H' r W/\sn f W v w f.all i 0/\Fr (On (H.next+2)) H3 H') ?_ ?_
 ·exact ⟨_,_,⟨0,_,rfl,rfl,ja _,row,ld,fr⟩,by simp only [↓qh,qq,reduceIte,reduceEqDiff]⟩
 clear row ld fr c1;rintro k E H4 ⟨i,W,rfl,rfl,hi,row,ld,fr⟩;have hsl:=row.sl qW;rcases kg i 8 with aT|hge
 ·have c1:(i:Int)<8:=by omega
  obtain ⟨x,hx⟩:∃ x,W[f.vars.toNat+i]? = some x:=⟨W[f.vars.toNat+i]'(by rw [ld.len];unfold cF.all;omega),by simp [ld.len,cF.all];try omega⟩
  obtain ⟨y,hy⟩:∃ y,v[i]? = some y:=⟨v[i],by simp [hv,aT]⟩
  obtain ⟨H5,s1,s2,s3⟩:=row.pj qW hx (j:=0) (y:=y) (by omega) (u:=.int .u64 y) rfl rfl;rw [jv] at s1;have ix:=hsl.idx hx (z:=f.vars+(i:Int)) (by omega) .i64;have a1:ae .i64 (f.vars+(i:Int))=f.vars+(i:Int):=zk (by omega) (by omega);have ei:Op.bp 8 1 [.ptr (H.next+1) 0,.int .i64 (i:Int)]=some (.ptr (H.next+1) i):=by
   have:=Ma (len:=8) (size:=1) (b:=H.next+1) (o:=0) (k:=.i64) (j:=(i:Int)) (i:=i) rfl aT;rw [this,oK,x6]
  have lv:Op.aa [.ptr (H.next+1) i] H4=some (.int .u64 y):=(G2 fr i).trans (by rw [xj,hy];rfl);have wi:ae .i64 ((i:Int)+1)=((i+1:Nat):Int):=by rw [zk (by omega) (by omega)];omega
  simp only [↓qh,qq,reduceIte,reduceEqDiff,w26,c1,w32,G1 fr,a1,ei,lv,ix,s1,w35,wi];exact ⟨_,_,⟨i+1,_,rfl,rfl,by omega,s2,ld.Oq aT hy,fr.trans s3 λ x (q:x=dK r)=>.inl (q.trans hsb)⟩,by simp only [↓qh,qq,reduceIte,reduceEqDiff],by omega⟩
 have c1:¬ (i:Int)<8:=by omega
 have hin:i=8:=by omega
 subst hin;simp only [↓qh,qq,reduceIte,reduceEqDiff,w26,c1,w36];clear w26 w32 w35 w36 hsl
 -- the words
 refine bS.intro (λ k E H'=>∃ i W,E=[(11,.int .i64 (i:Nat)),(8,r),(3,.ptr H.next 0),(2,wv)]/\k=w.length-i/\i<=w.length/\iJ fD vq 1 H' r W/\sn f W v w f.all 8 i/\Fr (On (H.next+2)) H3 H') ?_ ?_
 ·exact ⟨_,_,⟨0,_,rfl,rfl,ja _,row,ld,fr⟩,by simp only [↓qh,qq,reduceIte,reduceEqDiff]⟩
 clear row ld fr c1;rintro k E H4 ⟨i,W,rfl,rfl,hi,row,ld,fr⟩;have hsl:=row.sl qW;have lm:Op.aa [.ptr H.next 2] H4=some (.int .i64 f.many):=G1 fr 2;have lb:Op.aa [.ptr H.next 1] H4=some (.int .i64 f.base):=G1 fr 1;rcases kg i w.length with aT|hge
 ·have c1:(i:Int)<f.many:=by omega
  obtain ⟨x,hx⟩:∃ x,W[f.base.toNat+i]? = some x:=⟨W[f.base.toNat+i]'(by rw [ld.len];unfold cF.all;omega),by simp [ld.len,cF.all];try omega⟩
  obtain ⟨y,hy⟩:∃ y,w[i]? = some y:=⟨w[i],by simp [aT]⟩
  obtain ⟨H5,s1,s2,s3⟩:=row.pj qW hx (j:=0) (y:=y) (by omega) (u:=.int .u64 y) rfl rfl;rw [jv] at s1;have ix:=hsl.idx hx (z:=f.base+(i:Int)) (by omega) .i64;have a1:ae .i64 (f.base+(i:Int))=f.base+(i:Int):=zk (by omega) (by omega);have hw4:cU fD 1 H4 wv w:=(hw.em f03).fr fr (λ q:dK wv=H.next+2=>by have:=Jf hw (by omega);omega);have iy:=hw4.idx hy (z:=(i:Int)) rfl .i64;have lv:=hw4.gU qW hy (by decide);have wi:ae .i64 ((i:Int)+1)=((i+1:Nat):Int):=by rw [zk (by omega) (by omega)];omega
  simp only [↓qh,qq,reduceIte,reduceEqDiff,w41,lm,c1,w47,lb,a1,iy,lv,ix,s1,w50,wi];exact ⟨_,_,⟨i+1,_,rfl,rfl,by omega,s2,ld.Oh hF (by omega) hy,fr.trans s3 λ x (q:x=dK r)=>.inl (q.trans hsb)⟩,by simp only [↓qh,qq,reduceIte,reduceEqDiff],by omega⟩
 have c1:¬ (i:Int)<f.many:=by omega
 have hin:i=w.length:=by omega
 subst hin;simp only [↓qh,qq,reduceIte,reduceEqDiff,w41,lm,c1,w51];exact ⟨W,row,⟨ld.len,hv,hwl,ld.vs,λ i hi=>ld.ws i (by omega),λ j hj a b=>ld.no j hj a (by rw [hwl];exact b)⟩,f03.trans fr λ x (q:x=H.next+2)=>.inr (by omega),by omega⟩
end Go.Am
namespace Go.Am
open Lang Go.Proofs
variable {M:aO} [MK M]
theorem Lang.lA.u64 {f:cF} (hF:nu f) {W v w:List Int} (h:lA f W v w) (hv:∀ x ∈ v,l9 x) (hw:∀ x ∈ w,l9 x):∀ x ∈ W,l9 x:=by
 intro x hx;obtain ⟨j,hj⟩:=List.getElem?_of_mem hx;have aT:j<f.all:=by rw [<-h.len];exact (qv.1 hj).1
 by_cases q1:f.vars.toNat<=j/\j<f.vars.toNat+8
 ·have a:=h.vs (j-f.vars.toNat) (by omega);rw [show f.vars.toNat+(j-f.vars.toNat)=j by omega,hj] at a;exact hv x (xv a.symm)
 by_cases q2:f.base.toNat<=j/\j<f.base.toNat+f.many.toNat
 ·have a:=h.ws (j-f.base.toNat) (by omega);rw [show f.base.toNat+(j-f.base.toNat)=j by omega,hj] at a;exact hw x (xv a.symm)
 have a:=h.no j aT q1 q2;rw [hj] at a;injection a with a
 have:=hF.v1;have:=hF.b1;have:=hF.m1;unfold cF.all at aT;rw [a];unfold l9;omega
theorem Lang.lA.many {f:cF} (hF:nu f) {W v w:List Int} (h:lA f W v w):W.length<=608:=by
 have:=hF.v1;have:=hF.b1;have:=hF.m1;rw [h.len];unfold cF.all;omega
theorem q56 {code:List bB}:∀ (n:Nat) (m:SM),m.bC->(m.run code n).bC
 | 0,m,h=>h
 | n+1,m,h=>by
  unfold SM.run;cases hs:m.stop code with
  | some x =>
   rcases SM.oV hs with ⟨_,rfl⟩|⟨_,_,rfl⟩|⟨_,_,_,rfl⟩
   ·exact h
   ·exact h.fin 0
   ·exact h.fin 190
  | none =>
   obtain ⟨_,_,h3⟩:=SM.mT hs;have:=h.fl;have hp:m.bx.bC:=⟨SM.wB h.ok,h.wl,h.bl,h.wr,h.rr,h.br,h.qr,by show m.left-1+m.aN<=2000000;omega⟩
   exact q56 n _ (hp.take (by show m.left-1+m.aN+1<=2000000;omega) code)
theorem xbz {code:List bB} {m:SM} (h:m.bC):(m.runs code).bC:=q56 _ m h
theorem q2c {H:AHeap} {tv wv:AV} {t:List Nd} {ws v:List Int} {fuel:Int} (hal:∀ H1,Fr Em H H1->ye M qto [] H1 λ v H'=>v=.bool true/\H'=H1) (h:uW H tv t) (ht:t.length<=140737488355328) (hsh:xD H) (f:cF)
 (hw:cU gO 1 H wv ws) (hv:v.length=8) (hwr:∀ x ∈ ws,u64 x) (hvr:∀ x ∈ v,u64 x) (hfu:0<=fuel/\fuel<256) :
 ye M GX [tv,Av f,wv,.agg (aP v),.int .u8 fuel] H λ v' _=>v'=.bool true:=by
 refine qvy ?_;obtain ⟨w0,w4,w8,w16,w18,w26,w34,w38,w40,w48,w69,w53,w59,w68⟩:=qvz M ⟨none,GX⟩;obtain ⟨H1,e1⟩:∃ X,X=H.alloc (OR [.int .i64 f.vars,.int .i64 f.base,.int .i64 f.many] vN):=⟨_,rfl⟩
 obtain ⟨H2,e2⟩:∃ X,X=H1.alloc (OR (aP v) cQ):=⟨_,rfl⟩
 have f1:Fr Em H H1:=by rw [e1];exact (Fr.refl H).alloc _
 have f12:Fr Em H1 H2:=by rw [e2];exact (Fr.refl H1).alloc _
 have f2:Fr Em H H2:=f1.trans f12 λ _ q=>q.elim;have n1:H1.next=H.next+1:=by rw [e1,xk]
 have n2:H2.next=H.next+2:=by rw [e2,xk,n1]
 have g1:H2.get H.next=some (OR [.int .i64 f.vars,.int .i64 f.base,.int .i64 f.many] vN):=by rw [f12.aj _ (by omega) id,e1,qp]
 have g2:H2.get (H.next+1)=some (OR (aP v) cQ):=by rw [e2,<-n1,qp]
 have ca:AV.cells (.agg (aP v))=aP v:=z7 _;have cf:AV.cells (Av f)=[.int .i64 f.vars,.int .i64 f.base,.int .i64 f.many]:=z7 _;simp only [↓qh,qq,reduceIte,reduceEqDiff,w0,ca,cf,<-e1,<-e2,n1];refine C3.q (hal H2 f2) λ va Ha ⟨hva,hha⟩=>?_;rw [hva,hha];have L3:∀ {Hx:AHeap},Fr Em H2 Hx->Op.au 3 [.ptr H.next 0] Hx=some (Av f):=λ {Hx} fx=>by rw [mg (qy (by rw [fx.aj _ (by omega) id];exact g1)) (by simp)];rfl
 have L1:∀ {Hx:AHeap},Fr Em H2 Hx -> ∀ o,Op.aa [.ptr H.next o] Hx=[AV.int .i64 f.vars,.int .i64 f.base,.int .i64 f.many][o]?:=λ {Hx} fx o=>j8 (qy (by rw [fx.aj _ (by omega) id];exact g1)) o;have L8:∀ {Hx:AHeap},Fr Em H2 Hx->Op.au 8 [.ptr (H.next+1) 0] Hx=some (.agg (aP v)):=λ {Hx} fx=>by
  rw [mg (qy (by rw [fx.aj _ (by omega) id];exact g2)) (by simp [aP,hv]),xq,xo (by simp [aP,hv])]
 simp only [↓qh,qq,reduceIte,reduceEqDiff,w4,L3 (Fr.refl H2)];refine C3.q (q38 (M:=M) (h.em f2) f) λ vc H3 ⟨f3,hc⟩=>?_;obtain ⟨lv,ee,hvc⟩:∃ lv ee,vc=.tuple [lv,.int .i64 ee]:=by
  rcases hc with ⟨_,q⟩|⟨p,_,_,_,_,_,⟨_,q⟩|⟨_,lv,q,_⟩⟩
  ·exact ⟨_,_,q⟩
  ·exact ⟨_,_,q⟩
  ·exact ⟨_,_,q⟩
 have hle:∀ {a:AV} {b:Int},vc=.tuple [a,.int .i64 b]->lv=a/\ee=b:=by
  intro a b q;rw [hvc] at q;simp only [AV.tuple.injEq,xc,AV.int.injEq,mQ,kr] at q;exact q
 rw [hvc];obtain ⟨n,hn⟩:∃ n:Nat,fuel.tmod 150=(n:Int)/\n<150:=⟨(fuel.tmod 150).toNat,by rw [FJ hfu.1];omega,by rw [FJ hfu.1];omega⟩
 have wf:ae .i64 fuel=fuel:=zk (by omega) (by omega);have wn:ae .i64 (n:Int)=(n:Int):=zk (by omega) (by omega);have qr:Op.bin .rem [.int .i64 fuel,.int .i64 150]=some (.int .i64 (n:Int)):=by rw [<-hn.1];exact qO .i64 _ _ (by decide)
 simp only [↓qh,qq,reduceIte,reduceEqDiff,EN,Ed,wf,qr,w8];refine C3.q (q4y (M:=M) ((h.em f2).em f3).nd ht) λ vg H4 ⟨⟨gq,hg⟩,hh⟩=>?_;rw [hg,hh];have f23:Fr Em H2 H3:=f3;have hlen:=((h.em f2).em f3).nd.len;have hwl:=((hw.em f2).em f3).len;have l0:Op.aa [.ptr H.next 0] H3=some (.int .i64 f.vars):=L1 f3 0;have l1:Op.aa [.ptr H.next 1] H3=some (.int .i64 f.base):=L1 f3 1;have l2:Op.aa [.ptr H.next 2] H3=some (.int .i64 f.many):=L1 f3 2;cases gq with
 | true=>simp only [↓qh,qq,reduceIte,reduceEqDiff]
 | false =>
 by_cases g0:(500:Int)<(t.length:Nat)
 ·simp only [↓qh,qq,reduceIte,reduceEqDiff,hlen,g0]
 by_cases g1:ee=0
 case neg=>simp only [↓qh,qq,reduceIte,reduceEqDiff,hlen,g0,g1]
 have t1:=j0 g1
 by_cases g2:(300:Int)<f.vars
 ·simp only [↓qh,qq,reduceIte,reduceEqDiff,hlen,g0,t1,l0,g2]
 by_cases g3:(300:Int)<f.base
 ·simp only [↓qh,qq,reduceIte,reduceEqDiff,hlen,g0,t1,l0,g2,l1,g3]
 by_cases g4:(300:Int)<f.many
 ·simp only [↓qh,qq,reduceIte,reduceEqDiff,hlen,g0,t1,l0,g2,l1,g3,l2,g4]
 by_cases g5:((ws.length:Nat):Int)=f.many
 case neg=>simp only [↓qh,qq,reduceIte,reduceEqDiff,hlen,g0,t1,l0,g2,l1,g3,l2,g4,hwl,g5]
 have t5:=j0 g5;simp only [↓qh,qq,reduceIte,reduceEqDiff,hlen,g0,t1,l0,g2,l1,g3,l2,g4,hwl,t5,w16,L8 f3];obtain ⟨p,hp,ho,hz,hOk,hfr,hd,hlc,hnw⟩:∃ p:Ls,t=p.cu 0/\p.ok/\p.sz+1<=2000/\EB t/\zR f/\(p.code f).d=false/\(p.code f).l.length<=1024/\iN nh z6 5 H2 H3 lv (p.code f).l:=by
  rcases hc with ⟨_,q⟩|⟨p,a1,a2,a3,a4,a5,⟨_,q⟩|⟨⟨b1,b2⟩,lv',q,c⟩⟩
  ·exact absurd ((hle q).2.symm.trans g1) (by decide)
  ·exact absurd ((hle q).2.symm.trans g1) (by decide)
  ·obtain ⟨rfl,_⟩:=hle q;exact ⟨p,a1,a2,a3,a4,a5,b1,b2,c⟩
 have hF:nu f:=by
  obtain ⟨⟨a1,a2,a3,a4,a5,a6⟩,a7⟩:=hfr;exact ⟨a1,by omega,a3,by omega,a5,by omega,by omega⟩
 have hw3:=(hw.em f2).em f3;have hwn:ws.length=f.many.toNat:=by omega
 have hmay:rA t ws.length (n:Int):=⟨by have:=hF.m1;omega,by omega,by omega,hOk⟩
 obtain ⟨s',hs'⟩:∃ s',s'=p.run false ⟨ws,v,n,0,false,0⟩:=⟨_,rfl⟩
 refine C3.q (zB (M:=M) ((h.em f2).em f3) hw3 hv hwr hvr hmay hp ho) λ vr H4 hq=>?_;rw [<-hs'] at hq;obtain ⟨w',hv',hw'⟩:=hq.ex;have hsw:s'.w.length=f.many.toNat:=by rw [hs',(p.tX false _).w];exact hwn
 rw [hv'];have f34:=hw'.fr;have n3:=f3.next
 have n4:=f34.next
 obtain ⟨H5,e5⟩:∃ X,X=H4.alloc (OR i6 jh):=⟨_,rfl⟩
 have f45:Fr Em H4 H5:=by rw [e5];exact (Fr.refl H4).alloc _
 have n5:H5.next=H4.next+1:=by rw [e5,xk]
 have g5':H5.get H4.next=some (OR i6 jh):=by rw [e5,qp]
 have el:(eK w' s').length=13:=by simp [eK,aP,hq.v8]
 have s13:=mz (x:=eK w' s') g5' rfl el (M5 hw'.sl.one);obtain ⟨H6,e6⟩:∃ X,X=H5.set H4.next (OR (eK w' s') jh):=⟨_,rfl⟩
 have f36:Fr Em H3 H6:=by rw [e6];exact (f34.trans f45 λ _ q=>q.elim).set (.inr (by omega)) _
 have f26:=f3.trans f36 λ _ q=>q.elim;have n6:H6.next=H4.next+1:=by rw [e6];exact n5
 have g6:H6.get H4.next=some (OR (eK w' s') jh):=by rw [e6,xd]
 have hw6:cU gO 1 H6 w' s'.w:=by
  have a:=hw'.own;refine (dH.sl (Own.fr (Own.em a f45) (W:=On H4.next) (by rw [e6];exact (Fr.refl H5).set (W:=On H4.next) (.inl rfl) _) λ x hx (q:x=H4.next)=>?_));have:=Own.lt a x hx;omega
 have t0:=j0 (show (0:Int)=0 from rfl);obtain ⟨v0,v1,v2,v3,v4,v5,v6,v7,e8⟩:=eJ hq.v8;have E6:∀ {Hx:AHeap},Fr Em H6 Hx->Hx.get H4.next=some (OR (eK w' s') jh):=λ {Hx} fx=>by rw [fx.aj _ (by omega) id];exact g6
 have A0:∀ {Hx:AHeap},Fr Em H6 Hx->Op.aa [.ptr H4.next 0] Hx=some w':=λ {Hx} fx=>j8 (qy (E6 fx)) 0;have A11:∀ {Hx:AHeap},Fr Em H6 Hx->Op.aa [.ptr H4.next 11] Hx=some (.int .i64 (s'.aN:Nat)):=λ {Hx} fx=>(j8 (qy (E6 fx)) 11).trans (by unfold eK aP;rw [e8];rfl);have A12:∀ {Hx:AHeap},Fr Em H6 Hx->Op.aa [.ptr H4.next 12] Hx=some (.int .i64 (s'.err:Nat)):=λ {Hx} fx=>(j8 (qy (E6 fx)) 12).trans (by unfold eK aP;rw [e8];rfl);have A8:∀ {Hx:AHeap},Fr Em H6 Hx->Op.au 8 [.ptr H4.next 1] Hx=some (.agg (s'.v.map uC)):=λ {Hx} fx=>by
  rw [mg (qy (E6 fx)) (by rw [el];decide)];unfold eK aP;rw [e8];rfl
 have hwl6:=hw6.len;have q5:((s'.w.length:Nat):Int)=f.many:=by rw [hsw];have:=hF.m0;omega
 have tq5:=j0 q5;have l26:Op.aa [.ptr H.next 2] H6=some (.int .i64 f.many):=L1 f26 2;simp only [↓qh,qq,reduceIte,reduceEqDiff,EN,Ed,KZ,<-e5,s13,<-e6,w18,t0,A0 (Fr.refl H6),hwl6,l26,tq5,w26,A12 (Fr.refl H6)]
 by_cases h190:((s'.err:Nat):Int)=190
 ·simp only [↓qh,qq,reduceIte,reduceEqDiff,j0 h190]
 have hne:s'.err ≠ 190:=by omega
 have L8':Op.au 8 [.ptr (H.next+1) 0] H6=some (.agg (v.map uC)):=L8 f26;simp only [↓qh,qq,reduceIte,reduceEqDiff,h190,w34,L3 f26,L8'];refine C3.q (q44 (M:=M) hF hv ((hw.em f2).em f26) hwn) λ r H7 ⟨W,row,lay,f67,hrl⟩=>?_;have f27:=f26.trans f67 λ _ q=>q.elim;have f07:=f2.trans f27 λ _ q=>q.elim;have f37:=f36.trans f67 λ _ q=>q.elim;have bd8:Op.build [.int .u64 0,.int .u64 0,.int .u64 0,.int .u64 0,.int .u64 0,.int .u64 0,.int .u64 0,.int .u64 0] [] []=some (.agg ([0,0,0,0,0,0,0,0].map uC)):=rfl;have m1:ae .i64 (2000*(n:Int))=2000*(n:Int):=zk (by omega) (by omega);have m2:ae .i64 (2000*(n:Int)+2000)=2000*(n:Int)+2000:=zk (by omega) (by omega);simp only [↓qh,qq,reduceIte,reduceEqDiff,bd8,m1,m2];obtain ⟨cd,hcd⟩:∃ cd,cd=(p.code f).l:=⟨_,rfl⟩
 rw [<-hcd] at hnw hlc;have hWr:∀ x ∈ W,l9 x:=lay.u64 hF hvr hwr;have hSoA:DY H7 lv r cd [0,0,0,0,0,0,0,0] W:=⟨(hnw.em f37).sl,row.sl qW,rfl,λ x hx=>by
  have:x=0:=by simpa using hx
  rw [this];exact ⟨by decide,by decide⟩,hWr,hsh.em f07⟩
 obtain ⟨y,hy⟩:∃ y,y=(SM.init W [0,0,0,0,0,0,0,0] 0 (2000*n+2000)).runs cd:=⟨_,rfl⟩
 have hst:(2000*(n:Int)+2000).toNat=2000*n+2000:=by omega
 have hnb:¬ fP cd 0 W (2000*(n:Int)+2000):=by
  have:=lay.many hF;unfold fP;omega
 have hy8:y.rs.length=8:=by
  have:=xbz (code:=cd) (q41 (steps:=2000*(n:Int)+2000) (pc:=0) hSoA.r8 hSoA.rr hSoA.wr hnb);rw [hst,<-hy] at this;exact this.ok.r8
 obtain ⟨hm1,hm2,hm3⟩:y.err=s'.err/\y.aN=s'.aN/\lA f y.w s'.v s'.w:=by
  have hcc:=Ls.bX f p ⟨[],false⟩ hd;have aT:jZ t:=h.hi;refine JF hF ho (Ls.bn p 0 λ z hz=>?_) hcc.2.1 (C:=cd) (by rw [hcd];exact hcc.2.2) hlc lay hvr hwr (n:=n) (L:=2000*n+2000) (by omega) hs' hne hy;rw [hp] at aT;exact aT z (List.mem_append_left _ hz)
 refine C3.q (tH (M:=M) (pc:=0) (steps:=2000*(n:Int)+2000) hSoA) λ vs H8 ⟨f78,hvs⟩=>?_;obtain ⟨yv,hys,how⟩:∃ yv,vs=.tuple [.agg (gK yv y),.int .i64 0]/\dH fD vq 1 H8 yv y.w:=by
  rcases hvs with ⟨hb,_⟩|⟨_,wv2,q1,q2,_⟩
  ·exact absurd hb hnb
  ·rw [hst,<-hy] at q1 q2;exact ⟨wv2,q1,q2⟩
 rw [hys];have n8:=f78.next
 have n7:=f67.next
 obtain ⟨H9,e9⟩:∃ X,X=H8.alloc (OR i6 jh):=⟨_,rfl⟩
 have f89:Fr Em H8 H9:=by rw [e9];exact (Fr.refl H8).alloc _
 have n9:H9.next=H8.next+1:=by rw [e9,xk]
 have g9:H9.get H8.next=some (OR i6 jh):=by rw [e9,qp]
 have s13':=mz (x:=gK yv y) g9 rfl (NO hy8) (q8z (dH.sl how).one);obtain ⟨H10,e10⟩:∃ X,X=H9.set H8.next (OR (gK yv y) jh):=⟨_,rfl⟩
 have f6a:Fr Em H6 H10:=by rw [e10];exact ((f67.trans f78 λ _ q=>q.elim).trans f89 λ _ q=>q.elim).set (.inr (by omega)) _
 have f2a:=f26.trans f6a λ _ q=>q.elim;have n10:H10.next=H8.next+1:=by rw [e10];exact n9
 have g10:H10.get H8.next=some (OR (gK yv y) jh):=by rw [e10,xd]
 have how10:cU fD 1 H10 yv y.w:=by
  refine (dH.sl (Own.fr (Own.em how f89) (W:=On H8.next) (by rw [e10];exact (Fr.refl H9).set (W:=On H8.next) (.inl rfl) _) λ x hx (q:x=H8.next)=>?_));have:=Own.lt how x hx;omega
 simp only [↓qh,qq,reduceIte,reduceEqDiff,EN,Ed,KZ,<-e9,s13',<-e10,w38,L3 f2a,A8 f6a,A0 f6a];refine C3.q (q44 (M:=M) hF hq.v8 (hw6.em f6a) hsw) λ r2 H11 ⟨W2,row2,lay2,fab,_⟩=>?_;have f6b:=f6a.trans fab λ _ q=>q.elim;have hWW:y.w=W2:=hm3.eq lay2;have hs1:=how10.em fab;have hs2:=row2.sl qW;rw [<-hWW] at hs2;obtain ⟨r0,r1,r2',r3,r4,r5,r6,r7,e8'⟩:=eJ hy8;have E10:∀ o,Op.aa [.ptr H8.next o] H11=(gK yv y)[o]?:=λ o=>j8 (qy (by rw [fab.aj _ (by omega) id];exact g10)) o;have B0:Op.aa [.ptr H8.next 0] H11=some yv:=E10 0;have B11:Op.aa [.ptr H8.next 11] H11=some (.int .i64 (s'.aN:Nat)):=(E10 11).trans (by unfold gK;rw [e8',<-hm2];rfl);have B12:Op.aa [.ptr H8.next 12] H11=some (.int .i64 (s'.err:Nat)):=(E10 12).trans (by unfold gK;rw [e8',<-hm1];rfl);have hl1:=hs1.len;have hyl:y.w.length<=608:=hm3.many hF;have hl2:=hs2.len;have u1:=j0 (show ((s'.err:Nat):Int)=((s'.err:Nat):Int) from rfl);have u2:=j0 (show ((s'.aN:Nat):Int)=((s'.aN:Nat):Int) from rfl);have u3:=j0 (show ((y.w.length:Nat):Int)=((y.w.length:Nat):Int) from rfl);simp only [↓qh,qq,reduceIte,reduceEqDiff,w40,t0,B12,A12 f6b,u1,B11,A11 f6b,u2,B0,hl1,hl2,u3,w48];refine bS.intro (λ k E' Hc=>∃ (i:Nat),E'=[(21,.int .i64 (i:Nat)),(20,r2),(18,.ptr H8.next 0),(11,.bool true)]/\k=y.w.length-i/\i<=y.w.length/\Hc=H11) ?_ ?_
 ·exact ⟨_,_,⟨0,rfl,rfl,by omega,rfl⟩,by simp only [↓qh,qq,reduceIte,reduceEqDiff]⟩
 rintro k E' Hc ⟨i,rfl,rfl,hi,rfl⟩;rcases kg i y.w.length with aT|hge
 ·have q1:(i:Int)<(y.w.length:Nat):=by omega
  obtain ⟨x,hx⟩:∃ x,y.w[i]? = some x:=⟨y.w[i],by simp [aT]⟩
  have ix:=hs1.idx hx rfl .i64 (z:=(i:Int));have ix2:=hs2.idx hx rfl .i64 (z:=(i:Int));have ld:=hs1.gU qW hx (by decide);have ld2:=hs2.gU qW hx (by decide);have u4:=j0 (show x=x from rfl);have wi:ae .i64 ((i:Int)+1)=((i+1:Nat):Int):=by rw [zk (by omega) (by omega)];omega
  simp only [↓qh,qq,reduceIte,reduceEqDiff,w53,hl2,q1,w59,B0,ix,ld,ix2,ld2,u4,w68,wi];exact ⟨_,_,⟨i+1,rfl,rfl,by omega⟩,by simp only [↓qh,qq,reduceIte,reduceEqDiff],by omega⟩
 ·have q1:¬ (i:Int)<(y.w.length:Nat):=by omega
  simp only [↓qh,qq,reduceIte,reduceEqDiff,w53,hl2,q1,w69]
end Go.Am
