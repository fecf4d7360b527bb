/- NmKa: NiH NiJ NiK. -/
import Derived.Test.YtiibohocdbaekaaGreatAmCNmK9
set_option linter.unusedVariables false
set_option linter.unusedSimpArgs false
set_option linter.unusedSectionVars false
set_option maxRecDepth 100000
open Nat (reduceEqDiff)
namespace Go.Am
open Go.Proofs Ca
open Lang (ints)
variable {M:aA} [MK M]
section
variable {H0 H:AHeap} {r b:Nat} {sv bv:AV} {n:No} {ks:List Nat}
theorem ua {lines line:Int} {c:Ca} (h:CI lines c):0<=(c.drop line).2.line:=by
 unfold Ca.drop;cases hp:c.gq line 0 with
 | none=>exact Int.le_refl _
 | some i =>
  rw [lF] at hp;obtain ⟨h0,hi,hv,hl,-⟩:=h.aN hp;show 0<=(c.en i).line;rw [hl];exact h0
theorem q4p (h:bR H0 H r b sv bv n ks) (hci:CI n.lines n.c) (hk:n.aq.length<=900000) (line:Int):zq M I8 [.ptr r 0,.int .i64 line] H (mT H0 H r b sv bv (n.aH line)):=by
 refine qp2 ?_;obtain ⟨w0,w2,w17,w19,w27,w33⟩:=qp3 M ⟨none,I8⟩
 by_cases q1:line<0
 ·have ea:n.aH line=(n,[]):=by unfold No.aH;rw [ql (.inl q1)]
  rw [ea];simp only [↓qd,qp,aa,reduceIte,reduceEqDiff,w0,w2,kv,q1];exact ⟨⟨.nils,_,rfl,jJ.nil ..⟩,h.same (Fr.refl _)⟩
 by_cases q2:n.lines<=line
 ·have ea:n.aH line=(n,[]):=by unfold No.aH;rw [ql (.inr q2)]
  rw [ea];simp only [↓qd,qp,aa,reduceIte,reduceEqDiff,w0,w2,kv,q1,qi,h.l1,q2];exact ⟨⟨.nils,_,rfl,jJ.nil ..⟩,h.same (Fr.refl _)⟩
 have hn:¬ (line<0\/n.lines<=line):=λ q=>q.elim q1 q2;simp only [↓qd,qp,aa,reduceIte,reduceEqDiff,w0,w2,kv,q1,qi,h.l1,q2,w17,h.l2];refine C3.q (Ki (M:=M) h.ca hci line) λ v H1 ⟨hv,f1⟩=>?_;rw [hv,q1u];have n1:=f1.next
 cases hf:n.c.find line with
 | none =>
  have ea:n.aH line=(n,[]):=by unfold No.aH;rw [qg hn,hf]
  rw [ea];have fb:Fr Em H ((H1.alloc (OR (ao .zero) qr)).set H1.next (OR (ao .zero) qr)):=f1.trans (tt _ _) λ _ q=>q.elim;simp only [↓qd,qp,aa,reduceIte,reduceEqDiff,qn,Option.getD_none,JU,eZ,eS,w19];exact ⟨⟨.nils,_,rfl,jJ.nil ..⟩,h.same fb⟩
 | some x =>
  obtain ⟨n',en⟩:∃ n',n'=(if x.r || x.w then n.dO 4 else n):=⟨_,rfl⟩
  have ea:n.aH line=No.gone { n' with c:=(n'.c.drop line).1 } (n'.c.drop line).2:=by
   unfold No.aH;rw [qg hn,hf,en]
  rw [ea];obtain ⟨H2,e2⟩:∃ X,X=(H1.alloc (OR (ao .zero) qr)).set H1.next (OR (ao x) qr):=⟨_,rfl⟩
  have f2:Fr Em H1 H2:=by rw [e2];exact tt _ _
  have f02:Fr Em H H2:=f1.trans f2 λ _ q=>q.elim;have n2:H2.next=H1.next+1:=by rw [e2];rfl
  have g2:H2.get H1.next=some (OR (ao x) qr):=by rw [e2,xb]
  have h2:=h.em f02;have lr:Op.ae [.ptr H1.next 2] H2=some (.bool x.r):=xp (qz g2) 2;have lw:Op.ae [.ptr H1.next 3] H2=some (.bool x.w):=xp (qz g2) 3;have hlr:=h.lt;have hlb:=h.ca.lt;have hls:aF sv<H.next:=h.ca.sl.lt
  have hbf:=h.bk.fresh;have off:∀ y,H.next<=y -> ¬ fw r b sv bv y:=λ y hy q=>by
   rcases q with q|q|q
   ·omega
   ·exact q.elim (λ q=>by omega) λ q=>by omega
   ·have:=hbf _ q;omega
  -- behind the loss
  have fin:∀ {Hc:AHeap},bR H0 Hc r b sv bv n' ks->CI n.lines n'.c->n'.aq=n.aq->Fr (fw r b sv bv) H2 Hc -> ∀ {E:Env},lk E 0=some (.ptr r 0)->lk E 1=some (.int .i64 line)->lk E 6=some (.ptr H1.next 0) ->
   W M ⟨none,I8⟩ (qp1 33) true (c6 M [.tmp 4,.tmp 5] (kO (mT H0 H r b sv bv (No.gone { n' with c:=(n'.c.drop line).1 } (n'.c.drop line).2)))) E [] Hc:=by
   intro Hc hc hci' hb hfc E q0 q1 q6;simp only [↓qd,qp,aa,reduceIte,reduceEqDiff,w33,q0,q1,q6,qi,hc.l2];refine C3.q (PO (M:=M) hc.ca hci' line) λ v H4 ⟨hv,h4,f4⟩=>?_;rw [hv];unfold rR;have n4:=f4.next
   have nc:=hfc.next
   have gc:Hc.get H1.next=some (OR (ao x) qr):=by rw [hfc.ah _ (by omega) (off _ (by omega))];exact g2
   have g4:H4.get H1.next=some (OR (ao x) qr):=by rw [f4.ah _ (by omega) (λ q=>off H1.next (by omega) (.inr (.inl q)))];exact gc
   have s5:=iH g4 (zd _) (zd (n'.c.drop line).2) (oH _);have ld5:=fU (xb H4 H1.next (OR (ao (n'.c.drop line).2) qr)) (zd _);have f5:Fr (On H1.next) H4 (H4.set H1.next (OR (ao (n'.c.drop line).2) qr)):=(Fr.refl H4).set (W:=On H1.next) (.inl rfl) _;have hn4:=hc.fp h4 f4 (by rw [(F0 ..).1];exact hc.len);have hn5:=hn4.off f5 (λ x (hx:x=H1.next)=>by rw [hx];exact ⟨by have:=h.bk.fr.next;omega,off _ (by omega)⟩);have f05:Fr (fw r b sv bv) H (H4.set H1.next (OR (ao (n'.c.drop line).2) qr)):=(gi (gi (jN f02) hfc) (qO f4)).set (.inr (by omega)) _;simp only [↓qd,qp,aa,reduceIte,reduceEqDiff,qn,q6,q0,s5,ld5];refine C3.q (qye (M:=M) hn5 (by show n'.aq.length<=_;rw [hb];exact hk) _ (ua hci')) λ v H6 ⟨hm,ht⟩=>?_;simp only [↓qd,qp,aa,reduceIte,reduceEqDiff];exact ⟨⟨_,_,rfl,(hm.from f05.next).ms⟩,ht.from f05⟩
  cases hr:x.r with
  | true =>
   rw [hr] at lr en;have en:n'=n.dO 4:=en;simp only [↓qd,qp,aa,reduceIte,reduceEqDiff,qn,wq,DX,eZ,eS,<-e2,w19,w27,lr];refine C3.q (CB (M:=M) h2 4) λ _ H3 ⟨h3,f3⟩=>?_;simp only [↓qd,qp,aa,reduceIte,reduceEqDiff];refine fin (by rw [en];exact h3) (by rw [en];exact hci.discard) (by rw [en];rfl) f3 ?_ ?_ ?_
   ·rfl
   ·rfl
   ·rfl
  | false =>
   rw [hr] at lr;cases hw:x.w with
   | true =>
    rw [hr,hw] at en;rw [hw] at lw;have en:n'=n.dO 4:=en;simp only [↓qd,qp,aa,reduceIte,reduceEqDiff,qn,wq,DX,eZ,eS,<-e2,w19,w27,lr,lw];refine C3.q (CB (M:=M) h2 4) λ _ H3 ⟨h3,f3⟩=>?_;simp only [↓qd,qp,aa,reduceIte,reduceEqDiff];refine fin (by rw [en];exact h3) (by rw [en];exact hci.discard) (by rw [en];rfl) f3 ?_ ?_ ?_
    ·rfl
    ·rfl
    ·rfl
   | false =>
    rw [hr,hw] at en;rw [hw] at lw;have en:n'=n:=en;simp only [↓qd,qp,aa,reduceIte,reduceEqDiff,qn,wq,DX,eZ,eS,<-e2,w19,w27,lr,lw];refine fin (by rw [en];exact h2) (by rw [en];exact hci) (by rw [en]) (Fr.refl _) ?_ ?_ ?_
    ·rfl
    ·rfl
    ·rfl
end
theorem qzm {H0:AHeap} {p:Nat} {v:AV} {ys:List En} (hv:Dt H0 v ys) (hp:H0.get p=some (OR [v] dM)) (hpl:p<H0.next) (hl:ys.length<=1000000) :
 nG M k8 [] [.ptr p 0] (λ x=>x=p\/aI v x) (λ _=>False) H0 (ys.map λ e=>[.agg (ao e)]):=by
 intro Y R S W0 H1 hnx hN hR0 hW0 loc locS step;obtain ⟨p1,p2,p3⟩:=hN p (.inl (.inl rfl))
 suffices h:zq M k8 [.fn (.yield Y) [] [],.ptr p 0] H1 (LF R S W0 (λ _=>False) H1 (ys.map λ e=>[AV.agg (ao e)]).length) by
  obtain ⟨v,H',hc,W',q1,q2,q3⟩:=h.elim;exact ⟨v,H',W',hc,q1,q2,q3⟩
 refine qho ?_;obtain ⟨w0,w4,w10,w19⟩:=qhp M ⟨none,k8⟩;have lp:Op.ae [.ptr p 0] H1=some v:=by rw [xp (qz (by rw [p2];exact hp))];rfl
 have hx:∀ {Hx:AHeap},Fr W0 H1 Hx->Dt Hx v ys:=λ {Hx} f =>
  Own.fr hv (⟨xj hnx f.next,λ y hy hw=>by
   obtain ⟨y1,y2,y3⟩:=hN y (.inl (vg.1 hw));rw [f.ah y (by omega) y3,y2]⟩:Fr (λ y=>¬ (y=p\/aI v y)) H0 Hx) λ y hy w=>w (.inr hy)
 rw [xu];simp only [↓qd,qp,aa,reduceIte,reduceEqDiff,w0,lp,(cq.sl (hx (Fr.refl _))).len];refine aR.intro (λ n E Hx=>∃ (i:Nat) (V:Nat->Prop),E=[(7,.int .i64 (i:Int)),(6,.int .i64 ((ys.length:Nat):Int)),(5,v),(0,.fn (.yield Y) [] []),(1,.ptr p 0)]/\n=ys.length-i/\i<=ys.length/\KD R W0 H1 Hx i V) ?_ ?_
 ·exact ⟨_,_,⟨0,W0,rfl,rfl,xx _,⟨hR0,λ b hb=>⟨hW0 b hb,.inl hb⟩,Fr.refl _⟩⟩,by simp only [↓qd,qp,aa,reduceIte,reduceEqDiff]⟩
 rintro n E Hx ⟨i,V,rfl,rfl,hi,hI⟩;rcases zt i ys.length with hlt|hge
 ·have c1:(i:Int)<((ys.length:Nat):Int):=by omega
  obtain ⟨e,he⟩:∃ e,ys[i]? = some e:=⟨ys[i],by simp [hlt]⟩
  have sl:=cq.sl (hx hI.fr);have ix:Op.aQ 21 [v,.int .i64 (i:Int)]=some (eA v i):=sl.idx he rfl .i64;have ld:Op.aG 21 [eA v i] Hx=some (.agg (ao e)):=sl.aG zd (by decide) he;have bx:=eS (H1:=Hx) e;obtain ⟨H2,e2⟩:∃ X,X=(Hx.alloc (OR (ao .zero) qr)).set Hx.next (OR (ao e) qr):=⟨_,rfl⟩
  rw [<-e2] at bx;have f2:Fr Em Hx H2:=by rw [e2];exact tt _ _
  have g2:H2.get Hx.next=some (OR (ao e) qr):=by rw [e2,xb]
  have ld2:=fU g2 (zd e);have n2:=f2.next
  obtain ⟨bb,H3,W2,hr,hf,hW2,ht,hs⟩:=step i [.agg (ao e)] (by rw [xg,he];rfl) V H2 (loc _ _ _ _ hI.hR (λ y hy=>f2.ah y (hI.hV y hy).1 id) n2) (λ y hy=>⟨by have:=(hI.hV y hy).1;omega,(hI.hV y hy).2⟩) ((hI.fr.em f2).mono λ _ _ q=>.inl q);have fr3:Fr W0 H1 H3:=(hI.fr.em f2).trans hf λ y q=>(hI.hV y q).2;have hV2:∀ y,W2 y->y<H3.next/\(W0 y\/H1.next<=y):=λ y q=>⟨(hW2 y q).1,(hW2 y q).2.elim (λ w=>(hI.hV y w).2) λ w=>.inr (by have:=hI.fr.next;omega)⟩
  have wj:ak .i64 ((i:Int)+1)=((i+1:Nat):Int):=by rw [xm (by omega) (by omega)];omega
  simp only [↓qd,qp,aa,reduceIte,reduceEqDiff,w4,c1,w10,ix,ld,eZ,bx,ld2];refine C3.B9 hr ?_;cases bb with
  | true =>
   simp only [↓qd,qp,aa,reduceIte,reduceEqDiff,w19,wj];exact ⟨_,_,⟨i+1,W2,rfl,rfl,by omega,⟨ht rfl,hV2,fr3⟩⟩,by simp only [↓qd,qp,aa,reduceIte,reduceEqDiff],by omega⟩
  | false =>
   simp only [↓qd,qp,aa,reduceIte,reduceEqDiff];exact ⟨W2,fr3.mono λ _ _ q=>.inl q,hV2,.inr (hs rfl)⟩
 ·have c1:¬ (i:Int)<((ys.length:Nat):Int):=by omega
  have hiw:i=ys.length:=by omega
  simp only [↓qd,qp,aa,reduceIte,reduceEqDiff,w4,c1];exact ⟨V,hI.fr.mono λ _ _ q=>.inl q,hI.hV,.inl (by rw [<-hiw];exact hI.hR)⟩
section
variable {H0 H:AHeap} {r b:Nat} {sv bv:AV} {n:No} {ks:List Nat}
structure O0 (H:AHeap) (c:Ca) (v:AV) (H':AHeap) (p:Nat) (lv:AV) (ys:List En):Prop where
 eq:v=.fn (.func k8) [] [.ptr p 0]
 row:H'.get p=some (OR [lv] dM)
 lt:p<H'.next
 le:H.next<=p
 dt:Dt H' lv ys
 all:lH c ys
 fr:Fr Em H H'
 nw:∀ x,aI lv x->H.next<=x
theorem qx8 (h:bR H0 H r b sv bv n ks):zq M Hn [.ptr r 0] H λ v H'=>∃ p lv ys,O0 H n.c v H' p lv ys:=by
 refine qhi ?_;obtain ⟨w0,w2,w10⟩:=qhj M ⟨none,Hn⟩;simp only [↓qd,qp,aa,reduceIte,reduceEqDiff,w0,w2,kv,w10,qi,h.l2];refine C3.q (uF (M:=M) h.ca h.len) λ lv H1 ⟨ys,hd,ha,f1,hn⟩=>?_;have hs:zq M qdw [lv] H1 λ v H'=>v=.fn (.func k8) [] [.ptr H1.next 0]/\H'=H1.alloc (OR [lv] dM):=by
  refine qh7 ?_;have hc:AV.cells lv=[lv]:=by
   obtain ⟨_,⟨_,rfl|⟨_,rfl,_⟩⟩|⟨_,rfl,_,_⟩⟩:=hd<;>rfl
  simp only [↓qd,qp,aa,reduceIte,reduceEqDiff,qh8,hc];rfl
 refine C3.q hs λ v H2 ⟨hv,e2⟩=>?_;simp only [↓qd,qp,aa,reduceIte,reduceEqDiff];have f2:Fr Em H1 H2:=by rw [e2];exact (Fr.refl H1).alloc _
 exact ⟨H1.next,lv,ys,⟨hv,by rw [e2,qw],by rw [e2,xd];omega,f1.next,Own.em hd f2,ha,f1.trans f2 λ _ q=>q.elim,hn⟩⟩
end
end Go.Am
namespace Go.Am
open Go.Proofs Ca
open Lang (ints)
variable {M:aA} [MK M]
structure J8 (ys:List En) (t:Nat) (i:Nat) (V:Nat->Prop) (Hx:AHeap):Prop where
 vt:V t
 lt:t<Hx.next
 ls:∃ lv,Hx.get t=some (OR [lv] dM)/\Dt Hx lv (ys.take i) /\ ∀ a,aI lv a->V a/\t<a
theorem J8.loc {ys:List En} {t i:Nat} {V:Nat->Prop} {Ha Hb:AHeap} (h:J8 ys t i V Ha) (hs:∀ x,V x->Hb.get x=Ha.get x) (hn:Ha.next<=Hb.next):J8 ys t i V Hb:=by
 obtain ⟨lv,l1,l2,l3⟩:=h.ls;refine ⟨h.vt,qk h.lt hn,lv,by rw [hs _ h.vt];exact l1,?_,l3⟩;exact Own.fr l2 (⟨hn,λ b _ hw=>hs b (vg.1 hw)⟩:Fr (λ b=>¬ V b) Ha Hb) λ x hx w=>w (l3 x hx).1
section
variable {H0 H:AHeap} {r b:Nat} {sv bv:AV} {n:No} {ks:List Nat}
theorem lH.len {c:Ca} {ys:List En} (h:lH c ys):ys.length<=c.sl.length:=by
 rw [h.perm.length_eq];exact vh ..
theorem q6l (h:bR H0 H r b sv bv n ks):zq M CE [.ptr r 0] H (HT H n.c):=by
 refine qk0 ?_;obtain ⟨w0,wa,wb,w4,w9⟩:=Oh M ⟨none,CE⟩;obtain ⟨H1,e1⟩:∃ X,X=H.alloc (OR [.nils] dM):=⟨_,rfl⟩
 have f1:Fr Em H H1:=by rw [e1];exact (Fr.refl H).alloc _
 have n1:H1.next=H.next+1:=by rw [e1,xd]
 have g1:H1.get H.next=some (OR [.nils] dM):=by rw [e1,qw]
 simp only [↓qd,qp,aa,reduceIte,reduceEqDiff,w0,<-e1,w4];refine C3.q (qx8 (M:=M) (h.em f1)) λ v H2 ⟨p,lv,ys,he⟩=>?_;rw [he.eq];have f2:Fr Em H H2:=f1.trans he.fr λ _ q=>q.elim;have n2:=he.fr.next
 have n3:=he.le;have n4:=he.lt;have hl:ys.length<=40:=xj he.all.len h.len;have g2t:H2.get H.next=some (OR [.nils] dM):=by rw [he.fr.ah _ (by omega) id];exact g1
 refine gN.iter (fn:=JT) (lp:=FE) (pa:=Lm 0) (pb:=Kg 0) qjz Ll.1 Ll.2 (by decide) qix qiy
  (qzm (M:=M) he.dt he.row he.lt (by omega)) (λ i V Hx=>J8 ys H.next i V Hx) (λ _ _ _=>False) (λ x=>x=H.next) (qf _) ?_ ?_ ?_ ?_ ?_ ?_ ?_ ?_
 ·rintro x ((q|q) | q)
  ·exact ⟨by omega,rfl,λ w=>by omega⟩
  ·exact ⟨Own.lt he.dt x q,rfl,λ w=>by have:=he.nw x q;omega⟩
  ·exact q.elim
 ·exact λ x hx=>by omega
 ·exact ⟨rfl,by omega,.nils,g2t,Own.nil ..,λ x q=>(q.1 rfl).elim⟩
 ·exact λ i V Ha Hb h hs hn=>h.loc hs hn
 ·exact λ e V Ha Hb h _ _=>h
 ·intro L i lr lb x hx hL V H6 hP hV hf6 hnL hL6 hgL;rw [xg,xe] at hx;obtain ⟨e,hk,rfl⟩:=hx;refine ⟨_,rfl,?_⟩;obtain ⟨-,wa,wb,-⟩:=Oh M ⟨some L,CE⟩;have bx:=eS (H1:=H6) e;obtain ⟨H7,e7⟩:∃ X,X=(H6.alloc (OR (ao .zero) qr)).set H6.next (OR (ao e) qr):=⟨_,rfl⟩
  rw [<-e7] at bx;have f7:Fr Em H6 H7:=by rw [e7];exact tt _ _
  have n7:H7.next=H6.next+1:=by rw [e7];rfl
  have g7:H7.get H6.next=some (OR (ao e) qr):=by rw [e7,xb]
  simp only [↓qd,qp,aa,reduceIte,reduceEqDiff,wa,eZ,bx,EK];refine ⟨by rw [f7.ah L hL6 id];exact hgL,?_⟩;have gL:(H7.set L lb).get L=some lb:=xb ..;have g8:(H7.set L lb).get H6.next=some (OR (ao e) qr):=by rw [yb (by omega)];exact g7
  have f8:Fr (λ y=>V y\/y=L) H6 (H7.set L lb):=(f7.mono λ _ _ q=>q.elim).set (.inl (.inr rfl)) _;have hP8:=hP.loc (Hb:=H7.set L lb) (λ y hy=>by rw [yb (λ q:L=y=>hnL (by rw [q];exact hy)),f7.ah y (hV y hy).1 id]) (by rw [C8];omega);have n8:(H7.set L lb).next=H6.next+1:=by rw [C8,n7]
  generalize H7.set L lb=H8 at *;obtain ⟨lv',l1,l2,l3⟩:=hP8.ls;have lq:Op.ae [.ptr H.next 0] H8=some lv':=xp (qz l1) 0;have ld:=fU g8 (zd e);have iX:(ys.take i).length<=40:=by rw [ja];omega
  simp only [↓qd,qp,aa,reduceIte,reduceEqDiff,wb,lq,ld];refine gE (e:=qr) (size:=21) (bytes:=160) l2 (x:=.agg (ao e)) rfl (by rw [xk];exact zd _) (by rw [xk];exact oH _) (by decide) (by omega) (by omega) λ lv2 H9 hlv hf hfr=>?_;rw [xk] at hlv;have q9:H9.get H.next=some (OR [lv'] dM):=by rw [hf.ah _ hP8.lt λ q=>by have:=(l3 _ q).2;omega];exact l1
  have o1:aT lv2=true:=by have:=Sl.one (Own.sl hlv);exact this
  have st:=tj q9 o1;obtain ⟨H10,e10⟩:∃ X,X=H9.set H.next (OR [lv2] dM):=⟨_,rfl⟩
  rw [<-e10] at st;have f10:Fr (On H.next) H9 H10:=by rw [e10];exact (Fr.refl H9).set (W:=On H.next) (.inl rfl) _
  simp only [↓qd,qp,aa,reduceIte,reduceEqDiff,st];have lo':∀ y,aI lv2 y->H.next<y:=λ y q=>(hfr y q).elim (λ q=>(l3 y q).2) λ q=>by have:=hP.lt;omega
  have nf:=hf.next
  have n10:H10.next=H9.next:=by rw [e10];rfl
  refine ⟨rfl,?_,λ y=>V y\/aI lv2 y,?_,?_,.inl ⟨rfl,.inl hP.vt,by have:=hP.lt;omega,lv2,by rw [e10,xb],?_,λ y q=>⟨.inr q,lo' y q⟩⟩⟩
  ·rw [f10.ah L (by omega) (λ (q:L=H.next)=>hnL (by rw [q];exact hP.vt)),hf.ah L (by omega) λ q=>hnL (l3 _ q).1];exact gL
  ·rintro y (q|q)
   ·exact ⟨by have:=(hV y q).1;omega,.inl q⟩
   ·refine ⟨by rw [n10];exact Own.lt hlv y q,?_⟩;rcases hfr y q with w|w
    ·exact .inl (l3 y w).1
    ·exact .inr (by omega)
  ·exact (f8.trans hf λ x hx=>.inl (.inl (l3 x hx).1)).trans f10 λ x hx=>.inl (.inl (by rw [show x=H.next from hx];exact hP.vt))
  ·have hx2:ys.take (i+1)=ys.take i ++ [e]:=by rw [yq,hk];rfl
   rw [hx2];have ow:cq ao qr 21 H9 lv2 (ys.take i ++ [e]):=by
    unfold cq;rw [qx,jd,zx,IU,xt];exact hlv
   exact Own.fr ow f10 λ x hx (q:x=H.next)=>by have:=lo' x hx;omega
 ·intro d V Hd hd1 hd2 hgd hfd hVd hP;obtain ⟨lv',l1,l2,l3⟩:=hP.ls;rw [xu,zj (qf _)] at l2;have lq:Op.ae [.ptr H.next 0] Hd=some lv':=xp (qz l1) 0;have fo:Fr (On d) Hd (Hd.set d (.deferred none)):=(Fr.refl Hd).set (W:=On d) (.inl rfl) _;have fE:Fr Em H Hd:=f2.trans hfd λ y q=>.inr (q.elim (λ q=>by omega) False.elim);simp only [↓qd,qp,aa,reduceIte,reduceEqDiff,w9,lq,zX];refine ⟨hgd,ys,Own.fr l2 fo (λ x hx (q:x=d)=>(hVd x (l3 x hx).1).2.2 q),he.all,fE.set (.inr (by omega)) _,λ x hx=>by have:=(l3 x hx).2;omega⟩
 ·exact λ e d V Hd _ _ _ _ _ _ h=>h.elim
end
end Go.Am
namespace Go.Am
open Go.Proofs Ca
open Lang (ints)
variable {M:aA} [MK M]
structure Bd (n n':No):Prop where
 bk:n'.aq.length<=n.aq.length+1
 us:n'.c.us<=n.c.us+2
section
variable {n:No}
theorem q53 (n:No) (x:En):(n.gone x).1.aq.length<=n.aq.length+1/\(n.gone x).1.c=n.c:=by
 unfold No.gone;split
 ·exact ⟨by show (n.aq ++ [x.line]).length<=_;rw [qx];exact qf _,rfl⟩
 ·exact ⟨j5 _,rfl⟩
theorem q1p (n:No) (m:Mg) (st:Int):(n.bV m st).1.aq.length<=n.aq.length+1/\(n.bV m st).1.c.us<=n.c.us+1:=by
 have h:=(Nc n.c m.line st m.d).2;unfold No.bV;split
 ·obtain ⟨a,b⟩:=q53 { n with c:=(n.c.fill m.line st m.d).1 } (n.c.fill m.line st m.d).2.1;exact ⟨a,by rw [b];show (n.c.fill m.line st m.d).1.us<=_;omega⟩
 ·exact ⟨j5 _,by show (n.c.fill m.line st m.d).1.us<=_;omega⟩
theorem Bf (n:No) (m:Mg):Bd n (n.fill m).1:=by
 unfold No.fill;generalize (if m.k=15 then (2:Int) else 1)=st;unfold No.fG;split
 ·obtain ⟨a,b⟩:=q1p (n.dO 3) m st;have e:(n.dO 3).c.us=n.c.us:=rfl;exact ⟨a,by omega⟩
 ·obtain ⟨a,b⟩:=q1p n m st;exact ⟨a,by omega⟩
theorem Bd.refl (n:No):Bd n n:=⟨by omega,by omega⟩
theorem Pc (n:No) (k line:Int):Bd n (n.ask k line).1:=by
 unfold No.ask;split
 ·exact Bd.refl n
 ·exact ⟨j5 _,by show n.c.us<=_;omega⟩
theorem AS (n:No) (m:Mg):Bd n (n.az m).1:=by
 unfold No.az;split
 ·exact Bd.refl n
 split
 ·exact ⟨by show (n.lost _ true).aq.length<=_;rw [(Cg _ true).1];omega,by show (Ca.drop _ _).1.us<=_;rw [(F0 ..).2,(Cg _ true).2.2.2];omega⟩
 split
 ·cases n.c.find m.line with
  | none=>exact Bd.refl n
  | some x =>
   show Bd n (Prod.fst (if m.k=12 then _ else _));split
   ·exact ⟨by show (n.lost _ false).aq.length<=_;rw [(Cg _ false).1];omega,by show (Ca.bq _ _).1.us<=_;rw [(qx0 ..).2,(Cg _ false).2.2.2];omega⟩
   ·exact ⟨by show (n.lost _ true).aq.length<=_;rw [(Cg _ true).1];omega,by show (Ca.drop _ _).1.us<=_;rw [(F0 ..).2,(Cg _ true).2.2.2];omega⟩
 split
 ·exact ⟨by show (n.aq.filter _).length<=_;have:=vh (λ x=>decide (x ≠ m.line)) n.aq;omega,by show n.c.us<=_;omega⟩
 ·cases n.c.find m.line with
  | some x=>exact ⟨j5 _,by show (n.c.bH m.line m.d).us<=_;rw [(qvd ..).2];omega⟩
  | none =>
   obtain ⟨a,b⟩:=Bf { n with out:=⟨0,0,0,.zero⟩ } m;exact ⟨a,b⟩
theorem Cc (n:No) (line:Int):Bd n (n.aH line).1:=by
 unfold No.aH;split
 ·exact Bd.refl n
 ·cases n.c.find line with
  | none=>exact Bd.refl n
  | some x =>
   have e:∀ n':No,n'.aq=n.aq->n'.c.us=n.c.us->Bd n (No.gone { n' with c:=(n'.c.drop line).1 } (n'.c.drop line).2).1:=λ n' e1 e2=>by
    obtain ⟨a,b⟩:=q53 { n' with c:=(n'.c.drop line).1 } (n'.c.drop line).2;refine ⟨by rw [<-e1];exact a,?_⟩;rw [b];show (n'.c.drop line).1.us<=_;rw [(F0 ..).2,e2];omega
   show Bd n (No.gone _ _).1
   by_cases q:(x.r || x.w)=true
   ·simp only [ql q];exact e (n.dO 4) rfl rfl
   ·simp only [qg q];exact e n rfl rfl
theorem BF (n:No) (a:Int):Bd n (n.load a).1:=by
 unfold No.load;split
 ·cases n.c.find (No.ln a) with
  | none=>exact Pc ..
  | some x =>
   refine ⟨j5 _,?_⟩;show ((if n.live=true then n.c.mark (No.ln a) false else n.c).word a.toNat).1.us<=_;have h1:=(JB (if n.live=true then n.c.mark (No.ln a) false else n.c) a.toNat).2;have h2:(if n.live=true then n.c.mark (No.ln a) false else n.c).us=n.c.us:=by split;exact (Lg ..).1;rfl
   omega
 ·exact Bd.refl n
theorem yE (n:No) (a y:Int):Bd n (n.store a y).1:=by
 unfold No.store;split
 ·split
  ·refine ⟨j5 _,?_⟩;show ((if n.live=true then n.c.mark (No.ln a) true else n.c).put a.toNat y).us<=_;have h1:=(KN (if n.live=true then n.c.mark (No.ln a) true else n.c) a.toNat y).2;have h2:(if n.live=true then n.c.mark (No.ln a) true else n.c).us=n.c.us:=by split;exact (Lg ..).1;rfl
   omega
  ·exact Pc ..
 ·exact Bd.refl n
theorem DQ (n:No) (a o y:Int):Bd n (n.fq a o y).1:=by
 unfold No.fq;split
 ·split
  ·exact Bd.refl n
  ·split
   ·refine ⟨j5 _,?_⟩;have h1:=(JB n.c a.toNat).2;show (if (n.c.word a.toNat).2.getD 0=o then (n.c.word a.toNat).1.put a.toNat y else (n.c.word a.toNat).1).us<=_;split
    ·have h2:=(KN (n.c.word a.toNat).1 a.toNat y).2;omega
    ·omega
   ·exact Pc ..
 ·exact Bd.refl n
end
def ig (core lines s w:Int):No:=⟨core,lines,iO s.toNat w.toNat,⟨0,0,0,.zero⟩,[],false,0⟩
def qV (core lines cores s w:Int):Prop:=mF s w/\0<=core/\core<cores/\cores<=4/\2<=lines/\lines<=64
theorem yG {core lines cores s w:Int} (h:qV core lines cores s w):(ig core lines s w).NI:=by
 obtain ⟨⟨a,b,c,d⟩,-⟩:=h;exact ⟨wL lines (by omega) (by omega),λ _=>q0s s.toNat w.toNat⟩
def bo (lines cores s w:Int):List AV:=[.int .i64 lines,.int .i64 cores,.int .i64 s,.int .i64 w]
theorem Nh (core lines:Int) (b:Nat) (s w:Int):Op.build [.int .i64 0,.int .i64 0,.nilp,.int .i64 0,.int .i64 0,.int .i64 0,.int .u64 0,.int .u64 0,.int .u64 0,.int .u64 0,.int .u64 0,.int .u64 0,.int .u64 0,.int .u64 0,.nils,.bool false,.int .i64 0] [(0,1),(1,1),(2,1)] [.int .i64 core,.int .i64 lines,.ptr b 0]=some (.agg (mX (ig core lines s w) b .nils)):=rfl
def zI (H:AHeap) (core lines cores s w:Int) (v:AV) (H':AHeap):Prop:=(¬ qV core lines cores s w/\v=.tuple [.nilp,.int .i64 2]/\Fr Em H H')\/qV core lines cores s w /\ ∃ r b sv,v=.tuple [.ptr r 0,.int .i64 0]/\bR H H' r b sv .nils (ig core lines s w) []
theorem qyw {H:AHeap} (core lines cores s w:Int):zq M OJ [.int .i64 core,.agg (bo lines cores s w)] H (zI H core lines cores s w):=by
 refine q3z ?_;obtain ⟨w0,w4,w12⟩:=q30 M ⟨none,OJ⟩;obtain ⟨H1,e1⟩:∃ X,X=H.alloc (OR (bo lines cores s w) yf):=⟨_,rfl⟩
 have f1:Fr Em H H1:=by rw [e1];exact (Fr.refl H).alloc _
 have n1:H1.next=H.next+1:=by rw [e1,xd]
 have g1:H1.get H.next=some (OR (bo lines cores s w) yf):=by rw [e1,qw]
 have l2:Op.ae [.ptr H.next 2] H1=some (.int .i64 s):=xp (qz g1) 2;have l3:Op.ae [.ptr H.next 3] H1=some (.int .i64 w):=xp (qz g1) 3;simp only [↓qd,qp,aa,reduceIte,reduceEqDiff,w0,xk,<-e1,l2,l3];refine C3.q (q3q (M:=M) s w) λ v H2 ⟨f2,hv⟩=>?_;have g2:H2.get H.next=some (OR (bo lines cores s w) yf):=by rw [f2.ah _ (by omega) id];exact g1
 have l0:Op.ae [.ptr H.next 0] H2=some (.int .i64 lines):=xp (qz g2) 0;have l1:Op.ae [.ptr H.next 1] H2=some (.int .i64 cores):=xp (qz g2) 1;have f02:Fr Em H H2:=f1.trans f2 λ _ q=>q.elim;have t2:¬ (2:Int)=0:=by decide
 have t0:=xc (show (0:Int)=0 from rfl);rcases hv with ⟨hn,hv⟩|⟨ho,b,sv,hv,hc,hb,hs⟩
 ·rw [hv];simp only [↓qd,qp,aa,reduceIte,reduceEqDiff,qn,w4,t2];exact .inl ⟨λ q=>hn q.1,rfl,f02⟩
 rw [hv]
 by_cases q1:core<0
 ·simp only [↓qd,qp,aa,reduceIte,reduceEqDiff,qn,w4,t0,q1];exact .inl ⟨λ q=>by have:=q.2.1;omega,rfl,f02⟩
 by_cases q2:cores<=core
 ·simp only [↓qd,qp,aa,reduceIte,reduceEqDiff,qn,w4,t0,q1,l1,q2];exact .inl ⟨λ q=>by have:=q.2.2.1;omega,rfl,f02⟩
 by_cases q3:4<cores
 ·simp only [↓qd,qp,aa,reduceIte,reduceEqDiff,qn,w4,t0,q1,l1,q2,q3];exact .inl ⟨λ q=>by have:=q.2.2.2.1;omega,rfl,f02⟩
 by_cases q4:lines<2
 ·simp only [↓qd,qp,aa,reduceIte,reduceEqDiff,qn,w4,t0,q1,l1,q2,q3,l0,q4];exact .inl ⟨λ q=>by have:=q.2.2.2.2.1;omega,rfl,f02⟩
 by_cases q5:64<lines
 ·simp only [↓qd,qp,aa,reduceIte,reduceEqDiff,qn,w4,t0,q1,l1,q2,q3,l0,q4,q5];exact .inl ⟨λ q=>by have:=q.2.2.2.2.2;omega,rfl,f02⟩
 obtain ⟨H3,e3⟩:∃ X,X=H2.alloc (OR (mX (ig core lines s w) b .nils) Jq):=⟨_,rfl⟩
 have f3:Fr Em H2 H3:=by rw [e3];exact (Fr.refl H2).alloc _
 simp only [↓qd,qp,aa,reduceIte,reduceEqDiff,qn,w4,t0,q1,l1,q2,q3,l0,q4,q5,w12,Nh core lines b s w,xk,<-e3];have hlt:=hc.lt;have hsl:aF sv<H2.next:=hc.sl.lt
 refine .inr ⟨⟨ho,by omega,by omega,by omega,by omega,by omega⟩,H2.next,b,sv,rfl,⟨by rw [e3,qw],by rw [e3,xd];omega,hc.em f3,⟨.inl ⟨rfl,rfl⟩,f02.trans f3 λ _ q=>q.elim⟩,rfl,f02.next,by omega,by omega,by omega,by omega,λ q=>q.1 rfl,λ q=>q.1 rfl,λ q=>q.1 rfl,⟨by show 2<=lines;omega,by show lines<=64;omega⟩,?_⟩⟩;show (List.replicate (s.toNat*w.toNat) En.zero).length<=40;rw [zb];obtain ⟨a,b,c,d⟩:=ho;have:=Nat.mul_le_mul (show s.toNat<=8 by omega) (show w.toNat<=4 by omega);omega
end Go.Am
