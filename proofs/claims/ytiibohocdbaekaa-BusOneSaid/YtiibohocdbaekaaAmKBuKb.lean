/- BuKb: GhX GhS BoA. -/
import Derived.Test.YtiibohocdbaekaaAmKBuKa
import Derived.Test.YtiibohocdbaekaaAmKCodeK
set_option linter.unusedVariables false
set_option linter.unusedSimpArgs false
set_option linter.unusedSectionVars false
set_option maxRecDepth 100000
open Nat (reduceEqDiff)
namespace Go.Am
open Go.Proofs Ca
open Lang (ints)
variable {M:aM} [MK M]
theorem Nl (e:Nat) (zero:List AV):Op.buildSlice e 0 zero [] []=some (.row [] e (0,0) true,Op.sliceTo 0 0):=rfl
theorem GP (H:AHeap):Op.eq .slice false [.nils,.nils] H=some (.bool true):=rfl
theorem CO {H:AHeap} {size:Nat} {v:AV} {n:Nat} {cells:List AV} (h:Sl H size v n cells) (hv:v ≠ .nils) (H':AHeap):Op.eq .slice false [v,.nils] H'=some (.bool false):=by
 obtain ⟨_,h⟩:=h;cases v<;>first|exact (hv rfl).elim|rfl|exact h.elim
section
variable {H0 H:AHeap} {B:Nat} {s:Bs} {b:Bu} {own:Nat->Nat}
theorem q4u {H:AHeap} {a:AV} {ms:List Mg} (ha:dP ai 11 H a ms) (hl:ms.length<=900000):jm M vc [a] H λ v H'=>oZ ai qo 11 H H' v ms:=by
 refine qm9 ?_;obtain ⟨w0,w2,w10⟩:=qna M ⟨none,vc⟩
 by_cases hn:a=.nils
 ·subst hn;have:ms=[]:=by obtain ⟨_,h⟩:=ha;exact yb.1 h
  subst this;simp only [↓qg,xb,reduceIte,reduceEqDiff,w0,w2,GP];exact oZ.nil H
 ·simp only [↓qg,xb,reduceIte,reduceEqDiff,w0,w2,CO ha hn,w10,Nl];have hf1:Fr Em H (H.alloc (.row [] qo (0,0) true)):=(Fr.refl H).alloc _;refine q54 (e:=qo) (bytes:=88) (n:=0) (cells:=[]) ⟨rfl,.inl ⟨rfl,.inr ⟨H.next,rfl,by rw [xl];omega⟩⟩⟩ (ha.em hf1) (q6b ms) (by omega) (by omega) (by omega) λ v' H2 hv' hf hfr=>?_;simp only [↓qg,xb,reduceIte,reduceEqDiff];rw [ye,zy] at hv';exact ⟨hv',hf1.trans hf λ x hx=>.inr (by rw [hx.2];exact qi _),λ b hb=>(hfr b hb).elim (λ q=>by rw [q.2];exact qi _) λ q=>xt hf1.next q⟩
theorem q4h (h:cV H0 H B s b own) (hb:BB b):jm M DN [.ptr B 0] H λ v H'=>oZ ai qo 11 H H' v b.fl:=by
 refine qt7 ?_;obtain ⟨w0,w2,w10⟩:=qt8 M ⟨none,DN⟩;simp only [↓qg,xb,reduceIte,reduceEqDiff,w0,w2,yh,w10,qh,h.l2];exact C3.q (q4u (M:=M) (h.fl.sl x9) hb.fl) λ v H1 hv=>by simp only [↓qg,xb,reduceIte,reduceEqDiff];exact hv
theorem q2s (h:cV H0 H B s b own):jm M AK [.ptr B 0] H λ v H'=>v=.ptr s.D 0/\H'=H:=by
 refine qyh ?_;obtain ⟨w0,w2,w10⟩:=qyi M ⟨none,AK⟩;simp only [↓qg,xb,reduceIte,reduceEqDiff,w0,w2,yh,w10,qh,h.l0]
theorem cV.xs (h:cV H0 H B s b own) {i:Nat} {x:De} (hx:b.l[i]? = some x):∃ a,s.xs[i]? = some (x,a):=by
 rw [<-h.dx,xn,xg] at hx;obtain ⟨⟨y,a⟩,h1,h2⟩:=hx;exact ⟨a,by rw [h1];exact congrArg some (Prod.ext h2 rfl)⟩
theorem wF (h:cV H0 H B s b own) {i:Nat} {x:De} (hx:b.l[i]? = some x):jm M Ct [.ptr B 0,.int .i64 (i:Int)] H λ v H'=>v=.int .i64 x.ow/\H'=H:=by
 obtain ⟨a,ha⟩:=h.xs hx;have hi:=(qm.1 ha).1;refine qvv ?_;simp only [↓qg,xb,reduceIte,reduceEqDiff,qvw];refine C3.q (q2s (M:=M) h) λ v H1 ⟨hv,hh⟩=>?_;rw [hv,hh];simp only [↓qg,xb,reduceIte,reduceEqDiff];refine C3.q (show jm M D4 [.ptr s.D 0,.int .i64 (i:Int)] H λ v H'=>v=.int .i64 x.ow/\H'=H from ?_) λ v H2 ⟨hv,hh⟩=>?_
 ·refine qv4 ?_;obtain ⟨w0,w2,w12⟩:=qv5 M ⟨none,D4⟩;simp only [↓qg,xb,reduceIte,reduceEqDiff,w0,w2];refine C3.q (Lu (M:=M) h.d (n:=(i:Int)) (by omega) (by omega)) λ v H2 ⟨hv,hh⟩=>?_;rw [hv,hh];have l0:=h.d.wH ha;simp only [↓qg,xb,reduceIte,reduceEqDiff,xA,zj,fA,qh,l0]
 rw [hv,hh];simp only [↓qg,xb,reduceIte,reduceEqDiff]
theorem q8c {r nb:Nat} {sv bv:AV} {n:No} {ks:List Nat} (h:bY H0 H r nb sv bv n ks) (hc:CI n.lines n.c) (line:Int):jm M BX [.ptr r 0,.int .i64 line] H λ v H'=>v=fE n.c line/\Fr Em H H':=by
 refine qul ?_;obtain ⟨w0,w2,w10⟩:=qum M ⟨none,BX⟩;obtain ⟨H1,e1⟩:∃ X,X=H.alloc (OR (av .zero) qu):=⟨_,rfl⟩
 have f1:Fr Em H H1:=by rw [e1];exact (Fr.refl H).alloc _
 have g1:H1.get H.next=some (OR (av .zero) qu):=by rw [e1,qz]
 have n1:H1.next=H.next+1:=by rw [e1,xl]
 have h1:=h.em f1;simp only [↓qg,xb,reduceIte,reduceEqDiff,w0,eZ,<-e1,w2,yh,w10,qh,h1.l2];refine C3.q (GH (M:=M) h1.ca hc line) λ v H2 ⟨hv,f2⟩=>?_;rw [hv];have g2:H2.get H.next=some (OR (av .zero) qu):=by rw [f2.ae _ (by omega) id];exact g1
 unfold fE;cases n.c.find line with
 | none =>
  have st:=gY g2 (zn _) (zn .zero) (mU _);have ln:=fH (xe H2 H.next (OR (av .zero) qu)) (zn .zero);simp only [↓qg,xb,reduceIte,reduceEqDiff,qt,st,ln];exact (f1.trans f2 λ _ q=>q.elim).set (.inr (qi _)) _
 | some e =>
  have st:=gY g2 (zn _) (zn e) (mU e);have ln:=fH (xe H2 H.next (OR (av e) qu)) (zn e);simp only [↓qg,xb,reduceIte,reduceEqDiff,qt,st,ln];exact (f1.trans f2 λ _ q=>q.elim).set (.inr (qi _)) _
theorem q82 (h:cV H0 H B s b own) (hb:BB b) {c:Nat} {n:No} (hn:b.ns[c]? = some n) (line:Int):jm M Fi [.ptr B 0,.int .i64 (c:Int),.int .i64 line] H λ v H'=>v=fE n.c line/\Fr Em H H':=by
 refine qyb ?_;obtain ⟨H1,e1⟩:∃ X,X=H.alloc (OR (av .zero) qu):=⟨_,rfl⟩
 have f1:Fr Em H H1:=by rw [e1];exact (Fr.refl H).alloc _
 have g1:H1.get H.next=some (OR (av .zero) qu):=by rw [e1,qz]
 have n1:H1.next=H.next+1:=by rw [e1,xl]
 have h1:=h.em f1;simp only [↓qg,xb,reduceIte,reduceEqDiff,qyc,eZ,<-e1];refine C3.q (qX (M:=M) h1 hb.N4 (c:Int)) λ v H2 ⟨hh,q1,_⟩=>?_;have hl:=(qm.1 hn).1;obtain ⟨A,hA,hv⟩:=q1 ⟨by omega,by omega⟩;rw [zj] at hA;rw [hv,hh];have nr:=h1.no _ n A hn hA;obtain ⟨ni,-,-⟩:=hb.no _ n hn;simp only [↓qg,xb,reduceIte,reduceEqDiff,qt];refine C3.q (q8c (M:=M) nr ni.ci line) λ v H2 ⟨hv,f2⟩=>?_;rw [hv];have g2:H2.get H.next=some (OR (av .zero) qu):=by rw [f2.ae _ (by omega) id];exact g1
 unfold fE;cases n.c.find line with
 | none =>
  have st:=gY g2 (zn _) (zn .zero) (mU _);have ln:=fH (xe H2 H.next (OR (av .zero) qu)) (zn .zero);simp only [↓qg,xb,reduceIte,reduceEqDiff,qt,st,ln];exact (f1.trans f2 λ _ q=>q.elim).set (.inr (qi _)) _
 | some e =>
  have st:=gY g2 (zn _) (zn e) (mU e);have ln:=fH (xe H2 H.next (OR (av e) qu)) (zn e);simp only [↓qg,xb,reduceIte,reduceEqDiff,qt,st,ln];exact (f1.trans f2 λ _ q=>q.elim).set (.inr (qi _)) _
end
end Go.Am
namespace Go.Am
open Go.Proofs Ca
open Lang (ints)
variable {M:aM} [MK M]
def kS (x:Int):List AV:=[.int .i64 x]
theorem q96 (x:Int):(kS x).length=1:=rfl
structure I9 (b:Nat) (xs:List Int) (i:Nat) (V:Nat->Prop) (Hx:AHeap):Prop where
 vb:V b
 lt:b<Hx.next
 ls:∃ lv,Hx.get b=some (OR [lv] lY)/\dt kS cJ 1 Hx lv (xs.take i) /\ ∀ a,bC lv a->V a/\b<a
theorem I9.loc {b:Nat} {xs:List Int} {i:Nat} {V:Nat->Prop} {H1 H2:AHeap} (h:I9 b xs i V H1) (hs:∀ b,V b->H2.get b=H1.get b) (hn:H1.next<=H2.next):I9 b xs i V H2:=by
 obtain ⟨lv,l1,l2,l3⟩:=h.ls;refine ⟨h.vb,qp h.lt hn,lv,by rw [hs _ h.vb];exact l1,?_,l3⟩;exact Own.fr l2 (⟨hn,λ b _ hw=>hs b (BT.1 hw)⟩:Fr (λ b=>¬ V b) H1 H2) λ x hx w=>w (l3 x hx).1
theorem qx7 {g:Nat} {cap:List AV} {N O:Nat->Prop} {H0 H:AHeap} {xs:List Int} (gv:mg M g [] cap N O H0 (xs.map λ x=>[AV.int .i64 x])) (hn:H0.next<=H.next) (hN:∀ b,N b\/O b->b<H0.next/\H.get b=H0.get b) (hl:xs.length<=100000000) :
 jm M ku [.nils,.fn (.func g) [] cap] H λ v H'=>dt kS cJ 1 H' v xs/\Fr O H H' /\ ∀ b,bC v b->H.next<=b:=by
 refine qm7 ?_;obtain ⟨w0,wa,wb,w2,w7⟩:=qgt M ⟨none,ku⟩;obtain ⟨H1,e1⟩:∃ X,X=H.alloc (OR [.nils] lY):=⟨_,rfl⟩
 have f1:Fr Em H H1:=by rw [e1];exact (Fr.refl H).alloc _
 have n1:H1.next=H.next+1:=by rw [e1,xl]
 have g1:H1.get H.next=some (OR [.nils] lY):=by rw [e1,qz]
 have ca:AV.cells .nils=[.nils]:=rfl;simp only [↓qg,xb,reduceIte,reduceEqDiff,w0,ca,<-e1,w2];refine eS.iter (fn:=vf) (lp:=yr) (pa:=qgm 0) (pb:=qgn 0) ql8 qga.1 qga.2 (by decide) ⟨rfl,rb yr.assign⟩ ⟨rfl,rb yr.body⟩
  gv (λ i V Hx=>I9 H.next xs i V Hx) (λ _ _ _=>False) (λ b=>b=H.next) (by omega) ?_ ?_ ?_ ?_ ?_ ?_ ?_ ?_
 ·intro b q;obtain ⟨q1,q2⟩:=hN b q;exact ⟨q1,by rw [f1.ae _ (by omega) id];exact q2,λ q=>by omega⟩
 ·exact λ b hb=>by omega
 ·exact ⟨rfl,by omega,.nils,g1,Own.nil ..,λ b q=>(q.1 rfl).elim⟩
 ·exact λ i V Ha Hb h hs hn=>h.loc hs hn
 ·exact λ e V Ha Hb h _ _=>h
 ·-- one more
  intro L2 i lr lb x hx hL2 V H4 hPI hV hf4 hnL hL4 hgL;rw [xn,xg] at hx;obtain ⟨y,hy,rfl⟩:=hx;refine ⟨_,rfl,?_⟩;obtain ⟨-,wa,wb,-⟩:=qgt M ⟨some L2,ku⟩;simp only [↓qg,xb,reduceIte,reduceEqDiff,wa,Fc];refine ⟨hgL,?_⟩;have fx:Fr (On L2) H4 (H4.set L2 lb):=(Fr.refl H4).set (W:=On L2) (.inl rfl) _;have hP6:=hPI.loc (H2:=H4.set L2 lb) (λ b hb=>fx.ae b (hV b hb).1 (λ (q:b=L2)=>hnL (q ▸ hb))) fx.next
  have gL6:(H4.set L2 lb).get L2=some lb:=xe ..;have n6:(H4.set L2 lb).next=H4.next:=rfl
  generalize H4.set L2 lb=H6 at *;obtain ⟨lv,l1,l2,l3⟩:=hP6.ls;have lq:Op.aa [.ptr H.next 0] H6=some lv:=by rw [ze (xc l1)];rfl
  have hil:i<xs.length:=(qm.1 hy).1;have htl:(xs.take i).length<=100000000:=by rw [jy];omega
  simp only [↓qg,xb,reduceIte,reduceEqDiff,wb,lq];refine gT (e:=cJ) (size:=1) (bytes:=8) l2 (zero:=[.int .i64 0]) (x:=.int .i64 y) rfl rfl rfl (by decide) (by omega) (by omega) λ lv' H7 hlv' hf hfr=>?_;have q7:H7.get H.next=some (OR [lv] lY):=by rw [hf.ae _ (by have:=hP6.lt;omega) λ q=>by have:=(l3 _ q).2;omega];exact l1
  have o1:bm lv'=true:=by have:=Sl.one (Own.sl hlv');exact this
  have oc:lv'.cells=[lv']:=by cases lv'<;>first|rfl|cases o1
  have st8:=nV q7 (o:=0) (n:=1) (v:=lv') (by rw [oc];rfl) (by simp) (by rw [oc];exact (by rw [nu,List.all_cons,o1];rfl));rw [oc] at st8;obtain ⟨H8,e8⟩:∃ X,X=H7.set H.next (OR [lv'] lY):=⟨_,rfl⟩
  have st8:Op.store 1 [.ptr H.next 0,lv'] H7=some (.undef,H8):=by rw [e8];exact st8
  have f8:Fr (On H.next) H7 H8:=by rw [e8];exact (Fr.refl H7).set (W:=On H.next) (.inl rfl) _
  have hlt4:=hPI.lt;simp only [↓qg,xb,reduceIte,reduceEqDiff,st8];have hgL8:H8.get L2=some lb:=by
   rw [f8.ae L2 (qp (by omega) hf.next) (λ (q:L2=H.next)=>by omega),hf.ae L2 (by omega) λ q=>hnL (l3 _ q).1];exact gL6
  have lo':∀ b,bC lv' b->H.next<b:=λ b q=>(hfr b q).elim (λ q=>(l3 b q).2) λ q=>by omega
  refine ⟨rfl,hgL8,λ b=>V b\/bC lv' b,?_,?_,.inl ⟨rfl,⟨.inl hPI.vb,?_,lv',?_,?_,λ b q=>⟨.inr q,lo' b q⟩⟩⟩⟩
  ·rintro b (q|q)
   ·exact ⟨qp (hV b q).1 (by have:=hf.next;have:=f8.next;omega),.inl q⟩
   ·refine ⟨qp (Own.lt hlv' b q) f8.next,?_⟩;rcases hfr b q with w|w
    ·exact .inl (l3 b w).1
    ·exact .inr (by omega)
  ·have a1:Fr (λ b=>V b\/b=L2) H4 H6:=fx.mono λ x _ q=>.inr q;exact (a1.trans hf λ x hx=>.inl (.inl (l3 x hx).1)).trans f8 λ x hx=>.inl (.inl (by rw [show x=H.next from hx];exact hPI.vb))
  ·have:=hP6.lt;have:=hf.next;have:=f8.next;omega
  ·rw [e8,xe]
  ·have hx2:xs.take (i+1)=xs.take i ++ [y]:=by rw [BA,hy];rfl
   rw [hx2];have ow:dt kS cJ 1 H7 lv' (xs.take i ++ [y]):=by
    unfold dt;rw [qy,ju];exact hlv'
   exact Own.fr ow f8 λ x hx (q:x=H.next)=>by have:=lo' x hx;omega
 ·intro d V Hd hd1 hd2 hgd hfd hVd hPI;obtain ⟨lv,l1,l2,l3⟩:=hPI.ls;rw [zd,zu (qi _)] at l2;have lq:Op.aa [.ptr H.next 0] Hd=some lv:=by rw [ze (xc l1)];rfl
  simp only [↓qg,xb,reduceIte,reduceEqDiff,w7,lq,Ba];refine ⟨hgd,?_,?_,λ b q=>by have:=(l3 b q).2;omega⟩
  ·exact Own.fr l2 ((Fr.refl Hd).set (W:=On d) (.inl rfl) _) λ x hx (q:x=d)=>(hVd x (l3 x hx).1).2.2 q
  ·have fO:Fr O H Hd:=⟨xt f1.next hfd.next,λ b hb hw=>by rw [hfd.ae b (by omega) λ q=>q.elim (λ q=>by omega) hw,f1.ae b hb id]⟩
   exact fO.set (.inr (by omega)) _
 ·exact λ e d V Hd _ _ _ _ _ _ h=>h.elim
theorem q2m {g:Nat} {cap:List AV} {N O:Nat->Prop} {H0 H:AHeap} {xs:List Int} (gv:mg M g [] cap N O H0 (xs.map λ x=>[AV.int .i64 x])) (hn:H0.next<=H.next) (hN:∀ b,N b\/O b->b<H0.next/\H.get b=H0.get b) (hl:xs.length<=100000000) :
 jm M FX [.fn (.func g) [] cap] H λ v H'=>dt kS cJ 1 H' v xs/\Fr O H H' /\ ∀ b,bC v b->H.next<=b:=by
 refine qo7 ?_;simp only [↓qg,xb,reduceIte,reduceEqDiff,qo8];refine C3.q (qx7 (M:=M) gv hn hN hl) λ v H1 hq=>?_;simp only [↓qg,xb,reduceIte,reduceEqDiff];exact hq
section
variable {H0 H:AHeap} {B:Nat} {s:Bs} {b:Bu} {own:Nat->Nat}
theorem q2d (h:cV H0 H B s b own) {i:Nat} {x:De} (hx:b.l[i]? = some x) (hs:x.sh<16):jm M Gc [.ptr B 0,.int .i64 (i:Int)] H λ v H'=>dP kS 1 H' v ((dZ x.sh).map λ (k:Nat)=>(k:Int))/\Fr Em H H':=by
 obtain ⟨a,ha⟩:=h.xs hx;have hi:=(qm.1 ha).1;refine qsh ?_;simp only [↓qg,xb,reduceIte,reduceEqDiff,qsi];refine C3.q (q2s (M:=M) h) λ v H1 ⟨hv,hh⟩=>?_;rw [hv,hh];simp only [↓qg,xb,reduceIte,reduceEqDiff];refine C3.q (show jm M Dc [.ptr s.D 0,.int .i64 (i:Int)] H λ v H'=>dP kS 1 H' v ((dZ x.sh).map λ (k:Nat)=>(k:Int))/\Fr Em H H' from ?_) λ v H2 hv=>?_
 ·refine qsl ?_;obtain ⟨w0,w2,w12⟩:=qsm M ⟨none,Dc⟩;simp only [↓qg,xb,reduceIte,reduceEqDiff,w0,w2];refine C3.q (Lu (M:=M) h.d (n:=(i:Int)) (by omega) (by omega)) λ v H2 ⟨hv,hh⟩=>?_;rw [hv,hh];have l1:=(cB.of h.d ha).l1;simp only [↓qg,xb,reduceIte,reduceEqDiff,xA,zj,fA,qh,l1];refine C3.q (q2v (M:=M) x.sh) λ v H3 ⟨hv,hh⟩=>?_;obtain ⟨H4,e4⟩:∃ X,X=H.alloc (OR [uB x.sh] DJ):=⟨_,rfl⟩
  rw [<-e4] at hh;rw [hv,hh];have f4:Fr Em H H4:=by rw [e4];exact (Fr.refl H).alloc _
  have g4:H4.get H.next=some (OR [uB x.sh] DJ):=by rw [e4,qz]
  have n4:H4.next=H.next+1:=by rw [e4,xl]
  have gv:=qzg (M:=M) g4 (by omega) hs;rw [show ((dZ x.sh).map λ (k:Nat)=>[AV.int .i64 (k:Int)])=((dZ x.sh).map λ (k:Nat)=>(k:Int)).map λ x=>[AV.int .i64 x] from by rw [qZ];rfl] at gv;refine C3.q (q2m (M:=M) gv (qi _) (λ z q=>q.elim (λ q=>⟨by omega,rfl⟩) λ q=>q.elim) (by rw [zd];have:=MI x.sh;omega)) λ v H5 ⟨ho,f5,_⟩=>?_;simp only [↓qg,xb,reduceIte,reduceEqDiff];exact ⟨Own.sl ho,f4.trans f5 λ _ q=>q.elim⟩
 simp only [↓qg,xb,reduceIte,reduceEqDiff];exact hv
end
end Go.Am
namespace Go.Am
open Go.Proofs Ca
open Lang (ints)
variable {M:aM} [MK M]
def eV (f:List Mg) (c l:Int):Bool:=f.any λ m=>decide (m.core=c) && decide (m.line=l)
theorem HS {f:List Mg} {c l k:Int} (h:0<eL f c l k):eV f c l=true:=by
 obtain ⟨m,hm,-,h1,h2⟩:=yD h;unfold eV;rw [List.any_eq_true];exact ⟨m,hm,by simp [h1,h2]⟩
section
variable {b:Bu} {V:Int->L8}
theorem known (hI:BuI b V) {c:Nat} {n:No} (hn:b.ns[c]? = some n) {i:Nat} {x:De} (hx:b.l[i]? = some x) :
 (n.st i ≠ 0->x.ow ≠ c->hb x.sh c ≠ 1->eV b.fl c i=true)/\(x.ow=c->n.st i ≠ 2->eV b.fl c i=true):=by
 have hi:=(qm.1 hx).1;obtain ⟨w,hw⟩:∃ w,b.m[i]? = some w:=⟨_,qx (by rw [hI.ml];exact hi)⟩
 have es:=hI.es i x w hx hw;have lc:=es.lc c (by omega) (BuI.hO hn);obtain ⟨a1,a2,a3⟩:=BuI.cI hn (i:Int);rw [a1] at lc;have ow:=lc.ow;have sh:=lc.sh;have s2:=lc.s2;have c3:(qs b.fl c i).a3=eL b.fl c i 3:=rfl;have c5:(qs b.fl c i).a5=eL b.fl c i 5:=rfl;have d5:(qs b.fl c i).b5=eL b.fl c i 15:=rfl;rw [c3,c5,d5] at ow;rw [c5,d5] at sh;refine ⟨λ h0 h1 h2=>?_,λ h1 h2=>?_⟩
 ·rw [lR h1] at ow
  by_cases q:n.st i=2
  ·rw [i4 q] at ow;omega
  ·rcases sh (by omega) with w|⟨w,-⟩|w
   ·exact absurd w h2
   ·exact HS w
   ·exact HS w
 ·rw [i4 h1,lR h2] at ow
  by_cases q3:0<eL b.fl c i 3
  ·exact HS q3
  by_cases q5:0<eL b.fl c i 5
  ·exact HS q5
  exact HS (k:=15) (by omega)
def Bu.az (b:Bu) (l:Int) (k:Nat):Int:=match b.ns[k]? with
 | some n=>n.st l
 | none=>0
def cH (b:Bu) (l:Int):Nat->Nat
 | 0=>0
 | k+1=>cH b l k+if b.az l k ≠ 0 then 1 else 0
def cO (b:Bu) (l:Int):Nat->Nat
 | 0=>0
 | k+1=>cO b l k+if b.az l k=2 then 1 else 0
theorem vL (b:Bu) (l:Int):∀ k,cH b l k<=k/\cO b l k<=k
 | 0=>⟨qi _,qi _⟩
 | k+1=>by
  have:=vL b l k;unfold cH cO;constructor<;>split<;>omega
theorem q8h (hI:BuI b V) {i:Nat} (hi:i<b.l.length) (N:Nat):cO b i N=0\/cO b i N=1/\cH b i N=1:=by
 by_cases hex:∃ c,b.az i c=2
 ·obtain ⟨c,hc⟩:=hex;have hnn:∃ n,b.ns[c]? = some n/\n.st i=2:=by
   unfold Bu.az at hc;cases hn:b.ns[c]? with
   | none=>rw [hn] at hc;cases hc
   | some n=>rw [hn] at hc;exact ⟨n,rfl,hc⟩
  obtain ⟨n,hn,hs⟩:=hnn;obtain ⟨w,hw⟩:∃ w,b.m[i]? = some w:=⟨_,qx (by rw [hI.ml];exact hi)⟩
  have es:=hI.es i _ w (qx hi) hw;obtain ⟨-,-,al,-⟩:=hI.alone hn hs es;have oth:∀ d,d ≠ c->b.az i d=0:=λ d hd=>by
   unfold Bu.az;cases hn':b.ns[d]? with
   | none=>rfl
   | some n'=>exact al d n' hn' hd
  have cnt2:∀ k,cO b i k=(if c<k then 1 else 0)/\cH b i k=if c<k then 1 else 0:=by
   intro k
   induction k with
   | zero=>exact ⟨rfl,rfl⟩
   | succ k ih =>
    obtain ⟨e1,e2⟩:=ih;unfold cO cH;rw [e1,e2]
    by_cases q:k=c
    ·subst q;rw [hc];simp
    ·rw [oth k q]
     by_cases w:c<k
     ·simp [w,show c<k+1 from by omega]
     ·simp [w,show ¬ c<k+1 from by omega]
  obtain ⟨e1,e2⟩:=cnt2 N
  by_cases w:c<N
  ·rw [qr w] at e1 e2;exact .inr ⟨e1,e2⟩
  ·rw [qf w] at e1;exact .inl e1
 ·refine .inl ?_
  induction N with
  | zero=>rfl
  | succ N ih=>unfold cO;rw [ih,qf (λ q=>hex ⟨N,q⟩)]
theorem uw {n:No} (h:n.NI) (l:Int):∃ e:En,fE n.c l=.tuple [.agg (av e),.bool (decide (n.st l ≠ 0))]/\e.st=n.st l:=by
 by_cases q:n.st l=0
 ·refine ⟨.zero,?_,by rw [q];rfl⟩;unfold fE;rw [(No.dN h).1 q,wM (λ w=>w q)]
 ·obtain ⟨i,-,hf,-,-,hst,-⟩:=No.bj h q;refine ⟨n.c.en i,?_,hst⟩;unfold fE;rw [hf,vz q]
end
theorem xay {H:AHeap} {fv:AV} {f:List Mg} (hf:dP ai 11 H fv f) (hl:f.length<=900000) (c l:Int):jm M AR [fv,.int .i64 c,.int .i64 l] H λ v H'=>v=.bool (eV f c l)/\H'=H:=by
 refine q3b ?_;obtain ⟨w0,w2,w23,w7,w13,w22⟩:=q3c M ⟨none,AR⟩;have hln:=hf.len;simp only [↓qg,xb,reduceIte,reduceEqDiff,w0,w2];refine bq.intro (λ k E Hx=>∃ i:Nat,k=f.length-i/\i<=f.length/\Hx=H/\E=[(7,.int .i64 (i:Int)),(6,.bool false),(0,fv),(1,.int .i64 c),(2,.int .i64 l)]/\eV f c l=eV (f.drop i) c l) ?_ ?_
 ·exact ⟨_,_,⟨0,rfl,by omega,rfl,rfl,rfl⟩,by simp only [↓qg,xb,reduceIte,reduceEqDiff]⟩
 rintro k E Hx ⟨i,rfl,hi,rfl,rfl,en⟩
 by_cases q:(i:Int)<(f.length:Nat)
 ·obtain ⟨m,hm⟩:∃ m,f[i]? = some m:=⟨_,qx (by omega)⟩
  have hd:f.drop i=m::f.drop (i+1):=by
   rw [List.drop_eq_getElem_cons (by omega)];rw [qx (by omega)] at hm;injection hm with hm;rw [hm]
  have en2:eV f c l=((decide (m.core=c) && decide (m.line=l)) || eV (f.drop (i+1)) c l):=by rw [en,hd];rfl
  have ix:=hf.idx hm (z:=(i:Int)) rfl .i64;have lc:Op.aa [.ptr (aO fv) (cm 11 fv i+1)] Hx=some (.int .i64 m.core):=hf.aa x9 hm (j:=1) (by decide);have ll:Op.aa [.ptr (aO fv) (cm 11 fv i+2)] Hx=some (.int .i64 m.line):=hf.aa x9 hm (j:=2) (by decide);have wi:aV .i64 ((i:Int)+1)=((i+1:Nat):Int):=by rw [yw (by omega) (by omega)];omega
  by_cases qc:m.core=c
  ·by_cases ql:m.line=l
   ·rw [en2,vz qc,vz ql];simp only [↓qg,xb,reduceIte,reduceEqDiff,w7,hln,q,w13,ix,lc,ll,xf qc,xf ql];rfl
   ·simp only [↓qg,xb,reduceIte,reduceEqDiff,w7,hln,q,w13,ix,lc,ll,xf qc,ql];simp only [↓qg,xb,reduceIte,reduceEqDiff,w22,wi];exact ⟨_,_,⟨i+1,rfl,by omega,rfl,by rw [en2,wM ql,Bool.and_false,Bool.false_or]⟩,by simp only [↓qg,xb,reduceIte,reduceEqDiff],by omega⟩
  ·simp only [↓qg,xb,reduceIte,reduceEqDiff,w7,hln,q,w13,ix,lc,ll,qc];simp only [↓qg,xb,reduceIte,reduceEqDiff,w22,wi];exact ⟨_,_,⟨i+1,rfl,by omega,rfl,by rw [en2,wM qc,Bool.false_and,Bool.false_or]⟩,by simp only [↓qg,xb,reduceIte,reduceEqDiff],by omega⟩
 ·have e:i=f.length:=by omega
  subst e;rw [en,List.drop_length];simp only [↓qg,xb,reduceIte,reduceEqDiff,w7,hln,q,w23];rfl
end Go.Am
