/- LqMf: SoE SoG SoH. -/
import Derived.Test.YtbimikjajohflaaGreatDoorAmMLqMe
import Derived.Test.YtbimikjajohflaaGreatDoorAmMLqM0
set_option linter.unusedVariables false
set_option linter.unusedSimpArgs false
set_option linter.unusedSectionVars false
set_option maxRecDepth 100000
open Nat (reduceEqDiff)
namespace Go.Am
open Lang Go.Proofs
variable {M:aO} [MK M]
section
variable {c:rY} {H H':AHeap} {wv bv:AV} {m:SM}
theorem dY.off (h:dY c H wv bv m) {W:Nat->Prop} (f:Fr W H H') (hw:∀ b,W b->c.H0.next<=b/\b ≠ c.r /\ ¬ bL wv b /\ ¬ bL bv b):dY c H' wv bv m:=by
 obtain ⟨bl,bb,be,hr⟩:=h.row;exact ⟨⟨bl,bb,be,by rw [f.aj _ h.hi λ q=>(hw _ q).2.1 rfl];exact hr⟩,h.lo,qe h.hi f.next,h.fr.trans f λ x hx=>.inr (hw x hx).1,Own.fr h.wo f λ x hx q=>(hw x q).2.2.1 hx,h.wf,Own.fr h.bo f λ x hx q=>(hw x q).2.2.2 hx,h.bf,h.r8,h.b8⟩
theorem nj.loc {V:Nat->Prop} (h:nj c V H m) (hs:∀ b,V b->H'.get b=H.get b) (hn:H.next<=H'.next):nj c V H' m:=by
 obtain ⟨wv,bv,bl,bb,be,v1,v2,hr,ho,r8,b8⟩:=h;exact ⟨wv,bv,bl,bb,be,v1,v2,by rw [hs _ v1];exact hr,Own.fr ho (⟨hn,λ b _ hw=>hs b (Fv.1 hw)⟩:Fr (λ b=>¬ V b) H H') λ x hx w=>w (v2 x hx).1,r8,b8⟩
theorem nj.sub {V V':Nat->Prop} (h:nj c V H m) (hi:c.r<H.next) (hv:∀ b,V b->b<H.next->V' b):nj c V' H m:=by
 obtain ⟨wv,bv,bl,bb,be,v1,v2,hr,ho,r8,b8⟩:=h;exact ⟨wv,bv,bl,bb,be,hv _ v1 hi,λ b q=>⟨hv b (v2 b q).1 (Own.lt ho b q),(v2 b q).2⟩,hr,ho,r8,b8⟩
theorem nj.ld {V:Nat->Prop} (h:nj c V H m):Op.aa [.ptr c.r 10] H=some (.int .i64 m.pc)/\Op.aa [.ptr c.r 28] H=some (.bool m.over):=by
 obtain ⟨wv,bv,bl,bb,be,v1,v2,hr,ho,r8,b8⟩:=h;exact ⟨by rw [j8 (qy hr),(Bq r8 b8).2.2.1],by rw [j8 (qy hr),(Bq r8 b8).2.2.2.2.2.2.2.2.1]⟩
end
def BT (R:Nat->(Nat->Prop)->AHeap->Prop) (S:(Nat->Prop)->AHeap->Prop) (W0 O:Nat->Prop) (F:(Nat->Prop)->AHeap->Prop) (H:AHeap) (n:Nat) (v:AV) (H':AHeap):Prop :=
 ∃ W':Nat->Prop,Fr (λ b=>W0 b\/O b) H H'/\(∀ b,W' b->b<H'.next/\(W0 b\/H.next<=b))/\((R n W' H' /\ ∃ V,(∀ b,V b->b<H'.next /\ ¬ W' b/\(O b\/H.next<=b))/\F V H')\/S W' H')
structure SoJ (c:rY) (code:List bB) (m:SM) (p:Nat) (xs:List Int) (R:Nat->(Nat->Prop)->AHeap->Prop) (W0 O:Nat->Prop) (H1:AHeap) (wv:AV) (Hx:AHeap) (mi:SM) (i:Nat) (W:Nat->Prop) (bvi:AV):Prop where
 hR:R i W Hx
 wb:∀ b,W b->b<Hx.next/\(W0 b\/H1.next<=b)
 fr:Fr (λ b=>W0 b\/O b) H1 Hx
 pl:∀ j,xs[i+j]? = (mi.places code (mi.left+1))[j]?
 ln:i+(mi.places code (mi.left+1)).length=xs.length
 rn:mi.runs code=m.runs code
 gd:mi.bC
 ar:∀ b,(b=c.r\/bL wv b\/bL bvi b) -> ¬ W b/\(O b\/H1.next<=b)
 cel:Hx.get p=some (OR [.ptr c.r 0] Cl)
 hi:c.r<Hx.next
 st:(mi.over=false/\dY c Hx wv bvi mi)\/(mi.over=true/\nj c (λ b=>b=c.r\/bL wv b\/bL bvi b) Hx mi)
theorem xev {m:SM} {code:List bB} (h:m.over=true):m.runs code=m/\m.places code (m.left+1)=[]:=by
 have:m.stop code=some m:=by unfold SM.stop;rw [qk h]
 exact ⟨by unfold SM.runs;exact SM.lX h _,by simp only [SM.places,this]⟩
theorem q58 {m x:SM} {code:List bB} (h:m.stop code=some x):m.runs code=x/\m.places code (m.left+1)=[]:=⟨by unfold SM.runs;simp only [SM.run,h],by simp only [SM.places,h]⟩
theorem yR {m:SM} {code:List bB} (h:m.stop code=none):m.runs code=(m.bx.take code).runs code/\m.places code (m.left+1)=m.pc::(m.bx.take code).places code ((m.bx.take code).left+1):=by
 have hl:=SM.jG h;refine ⟨?_,?_⟩
 ·show m.run code (m.left+1)=(m.bx.take code).run code ((m.bx.take code).left+1);rw [hl];simp only [SM.run,h]
 ·rw [<-hl];simp only [SM.places,h]
theorem xe4 {c:rY} {H:AHeap} {wv bv:AV} {m:SM} {code:List bB} {p:Nat} (h:dY c H wv bv m) (hg:m.bC) (ho:m.over=false) (hs:xD c.H0) (hc:cU gn 5 c.H0 c.cv code) (hp:H.get p=some (OR [.ptr c.r 0] Cl)) (hpl:p<H.next) (hpr:¬ (p=c.r\/bL wv p\/bL bv p)) :
 oF M ju [] [.ptr p 0] (λ b=>b<c.H0.next\/b=p) (λ b=>b=c.r\/bL wv b\/bL bv b) H ((m.places code (m.left+1)).map λ x=>[AV.int .i64 x]) (λ V Hx=>nj c V Hx (m.runs code)):=by
 intro Y R S W0 H1 hnx hN hR0 hW0 loc locS step;obtain ⟨O,hO⟩:∃ O:Nat->Prop,O=λ b=>b=c.r\/bL wv b\/bL bv b:=⟨_,rfl⟩
 obtain ⟨xs,hxs⟩:∃ xs,xs=m.places code (m.left+1):=⟨_,rfl⟩
 rw [<-hxs] at step ⊢;rw [<-hO] at hN step ⊢
 suffices hq:ye M ju [.fn (.yield Y) [] [],.ptr p 0] H1 (BT R S W0 O (λ V Hx=>nj c V Hx (m.runs code)) H1 xs.length) by
  obtain ⟨v,H',hcl,W',q1,q2,q3⟩:=hq.elim;rw [vo];exact ⟨v,H',W',hcl,q1,q2,q3⟩
 have hlo:=h.lo;have hn0:c.H0.next<=H.next:=h.fr.next
 -- what was there is there
 have hfr:∀ b,b<c.H0.next\/b=p\/O b->H1.get b=H.get b:=λ b q=>(hN b (by rcases q with q|q|q;exact .inl (.inl q);exact .inl (.inr q);exact .inr q)).2.1
 have hOa:∀ b,(b=c.r\/bL wv b\/bL bv b)->O b:=λ b q=>by rw [hO];exact q
 have h1:dY c H1 wv bv m:=by
  obtain ⟨bl,bb,be,hr⟩:=h.row;have f:Fr (λ b=>¬ O b) H H1:=⟨hnx,λ b _ hw=>hfr b (.inr (.inr (Fv.1 hw)))⟩
  refine ⟨⟨bl,bb,be,by rw [hfr _ (.inr (.inr (hOa _ (.inl rfl))))];exact hr⟩,h.lo,qe h.hi hnx,⟨xz hn0 hnx,λ b hb _=>by rw [hfr b (.inl hb)];exact h.fr.aj b hb id⟩,Own.fr h.wo f λ x hx w=>w (hOa x (.inr (.inl hx))),h.wf,Own.fr h.bo f λ x hx w=>w (hOa x (.inr (.inr hx))),h.bf,h.r8,h.b8⟩
 have hp1:H1.get p=some (OR [.ptr c.r 0] Cl):=by rw [hfr p (.inr (.inl rfl))];exact hp
 have hW0lo:∀ b,W0 b->c.H0.next<=b:=λ b q=>by
  rcases kg b c.H0.next with w|w
  ·exact ((hN b (.inl (.inl w))).2.2 q).elim
  ·exact w
 have hOW:∀ b,O b -> ¬ W0 b:=λ b q=>(hN b (.inr q)).2.2;have hpW:¬ W0 p:=(hN p (.inl (.inr rfl))).2.2;refine qpv ?_;obtain ⟨w0,w1,w3,w5,w8,w27,w20,w31⟩:=qpw M ⟨none,ju⟩;simp only [↓qh,qq,reduceIte,reduceEqDiff,w0,w1,w3];refine bS.intro (λ n E Hx=>∃ (mi:SM) (i:Nat) (U:Nat->Prop) (bvi:AV),E=[(1,.ptr p 0),(0,.fn (.yield Y) [] [])]/\n=(if mi.over=true then 0 else mi.left+1)/\SoJ c code m p xs R W0 O H1 wv Hx mi i U bvi) ?_ ?_
 ·exact ⟨_,_,⟨m,0,W0,bv,rfl,rfl,⟨hR0,λ b q=>⟨hW0 b q,.inl q⟩,Fr.refl _,λ j=>by rw [x6,hxs],by rw [x6,hxs],rfl,hg,λ b q=>⟨hOW b (hOa b q),.inl (hOa b q)⟩,hp1,h1.hi,.inl ⟨ho,h1⟩⟩⟩,by simp only [↓qh,qq,reduceIte,reduceEqDiff]⟩
 rintro n E Hx ⟨mi,i,U,bvi,rfl,rfl,hJ⟩;have lp:∀ {Hy:AHeap},Hy.get p=some (OR [.ptr c.r 0] Cl)->Op.aa [.ptr p 0] Hy=some (.ptr c.r 0):=λ q=>j8 (qy q) 0;have lp0:=lp hJ.cel;have hln:=hJ.ln
 -- the end
 have fin:∀ {v:AV} {Hz:AHeap} {x:SM},nj c (λ b=>b=c.r\/bL wv b\/bL bvi b) Hz x->Fr (On c.r) Hx Hz->mi.runs code=x->mi.places code (mi.left+1)=[]->BT R S W0 O (λ V Hx=>nj c V Hx (m.runs code)) H1 xs.length v Hz:=λ {v Hz x} hF fz hx hpl0=>by
  have hrl:c.r ∉ ([]:List Nat):=by simp
  have har:=hJ.ar;refine ⟨U,hJ.fr.trans fz λ b (q:b=c.r)=>by subst q;exact (har _ (.inl rfl)).2.imp (λ q=>.inr q) id,λ b q=>⟨qe (hJ.wb b q).1 fz.next,(hJ.wb b q).2⟩,.inl ⟨?_,λ b=>(b=c.r\/bL wv b\/bL bvi b)/\b<Hz.next,λ b q=>⟨q.2,(har b q.1).1,(har b q.1).2⟩,?_⟩⟩
  ·have:i=xs.length:=by rw [hpl0] at hln;simpa using hln
   rw [<-this];exact loc i U Hx Hz hJ.hR (λ b q=>fz.aj b (hJ.wb b q).1 λ (w:b=c.r)=>(har b (.inl w)).1 q) fz.next
  ·have e:m.runs code=x:=by rw [<-hJ.rn];exact hx
   rw [e];exact hF.sub (qe hJ.hi fz.next) λ b q1 q2=>⟨q1,q2⟩
 rcases hJ.st with ⟨hov,hR⟩|⟨hov,hF⟩
 case inr =>
  obtain ⟨l10,l28⟩:=hF.ld;rw [hov] at l28;obtain ⟨q1,q2⟩:=xev (code:=code) hov;simp only [↓qh,qq,reduceIte,reduceEqDiff,w5,lp0,qi,l10,w8,l28];exact fin (v:=.undef) hF (Fr.refl _) q1 q2
 obtain ⟨r0,r1,r10,r11,r12,r14,r23,r27,r28,rr,rb⟩:=hR.ld;rw [hov] at r28;have ln:Op.aS [c.cv]=some (.int .i64 (code.length:Nat)):=hc.len
 by_cases hpc:(code.length:Int)<=mi.pc/\mi.cr=false
 ·have hstop:mi.stop code=some (mi.fin 0):=by unfold SM.stop;rw [qc (by rw [hov];decide),qk hpc]
  obtain ⟨q1,q2⟩:=q58 hstop;obtain ⟨c1,c2⟩:=hpc;rw [c2] at r27;simp only [↓qh,qq,reduceIte,reduceEqDiff,w5,lp0,qi,r10,w8,r28,r0,ln,c1,r27];refine C3.q (JE (M:=M) hR 0) λ v Hz ⟨hF,fz⟩=>?_;simp only [↓qh,qq,reduceIte,reduceEqDiff];exact fin (v:=.undef) hF fz q1 q2
 by_cases hleft:mi.left=0
 ·have hstop:mi.stop code=some (mi.fin 190):=by unfold SM.stop;rw [qc (by rw [hov];decide),qc hpc,qk hleft]
  obtain ⟨q1,q2⟩:=q58 hstop;have z0:((mi.left:Nat):Int)=0:=by omega
  by_cases c1:(code.length:Int)<=mi.pc
  ·have c2:mi.cr=true:=by cases q:mi.cr with|true=>rfl|false=>exact (hpc ⟨c1,q⟩).elim
   rw [c2] at r27;simp only [↓qh,qq,reduceIte,reduceEqDiff,w5,lp0,qi,r10,w8,r28,r0,ln,c1,r27,w20,r11,j0 z0];refine C3.q (JE (M:=M) hR 190) λ v Hz ⟨hF,fz⟩=>?_;simp only [↓qh,qq,reduceIte,reduceEqDiff];exact fin (v:=.undef) hF fz q1 q2
  ·simp only [↓qh,qq,reduceIte,reduceEqDiff,w5,lp0,qi,r10,w8,r28,r0,ln,c1,w20,r11,j0 z0];refine C3.q (JE (M:=M) hR 190) λ v Hz ⟨hF,fz⟩=>?_;simp only [↓qh,qq,reduceIte,reduceEqDiff];exact fin (v:=.undef) hF fz q1 q2
 -- a step
 have hstop:mi.stop code=none:=by unfold SM.stop;rw [qc (by rw [hov];decide),qc hpc,qc hleft]
 obtain ⟨q1,q2⟩:=yR hstop;have nl:=SM.jG hstop;have z0:¬ ((mi.left:Nat):Int)=0:=by omega
 have hfl:=hJ.gd.fl;have wl:ae .i64 (((mi.left:Nat):Int)-1)=((mi.left-1:Nat):Int):=by rw [zk (by omega) (by omega)];omega
 obtain ⟨H2,st,h2,f2⟩:=hR.zE (mi.left-1);have h2:dY c H2 wv bvi mi.bx:=h2;have hpne:p ≠ c.r:=λ q=>hpr (.inl q);have hpx:p<Hx.next:=qe (qe hpl hnx) hJ.fr.next
 have cel2:H2.get p=some (OR [.ptr c.r 0] Cl):=by rw [f2.aj p hpx λ (q:p=c.r)=>hpne q];exact hJ.cel
 have g2:mi.bx.bC:=⟨SM.wB hJ.gd.ok,hJ.gd.wl,hJ.gd.bl,hJ.gd.wr,hJ.gd.rr,hJ.gd.br,hJ.gd.qr,by show mi.left-1+mi.aN<=2000000;omega⟩
 have lp2:=lp cel2;have f02:Fr (oA c wv) Hx H2:=f2.mono λ b _ q=>.inl q;have wlt:∀ b,bL wv b->b<Hx.next:=Own.lt hR.wo
 have blt:∀ b,bL bvi b->b<Hx.next:=Own.lt hR.bo
 have har:=hJ.ar;have aW:∀ b,oA c wv b -> ¬ U b/\(O b\/H1.next<=b):=λ b q=>har b (q.elim .inl λ q=>.inr (.inl q));have fr3:∀ {H3:AHeap},Fr (oA c wv) H2 H3->Fr (λ b=>W0 b\/O b) H1 H3:=λ ft=>hJ.fr.trans (f02.trans ft λ b q=>.inl q) λ b q=>(aW b q).2.imp (λ q=>.inr q) id;have n13:∀ {H3:AHeap},Fr (oA c wv) H2 H3->H1.next<=H3.next:=λ ft=>(fr3 ft).next
 have nx3:∀ {H3:AHeap},Fr (oA c wv) H2 H3->Hx.next<=H3.next:=λ ft=>xz f2.next ft.next
 have keepU:∀ {H3:AHeap},Fr (oA c wv) H2 H3 -> ∀ b,U b->H3.get b=Hx.get b:=λ ft b q=>(f02.trans ft λ b q=>.inl q).aj b (hJ.wb b q).1 λ w=>(aW b w).1 q;have hpl0:((xs.map λ x=>[AV.int .i64 x]))[i]? = some [.int .i64 mi.pc]:=by
  have:=hJ.pl 0;rw [q2] at this;rw [xj,show xs[i]? = some mi.pc from this];rfl
 have round:∀ (H3:AHeap) (bv':AV),Fr (oA c wv) H2 H3->(∀ b,bL bv' b->(bL bvi b\/H2.next<=b)/\b<H3.next) -> ∃ bb H4 U',jN M Y [.int .i64 mi.pc] H3 (.ret (.bool bb)) H4/\Fr U H3 H4/\(∀ b,U' b->b<H4.next/\(U b\/H3.next<=b))/\(bb=true->R (i+1) U' H4)/\(bb=false->S U' H4):=λ H3 bv' ft hbv =>
  step i _ hpl0 U H3 (loc i U Hx H3 hJ.hR (keepU ft) (nx3 ft)) (λ b q=>⟨qe (hJ.wb b q).1 (nx3 ft),(hJ.wb b q).2⟩) (fr3 ft)
 have hv3:∀ (x:AV) (K:Bool->fC->List AV->Prop),V3 true [.fn (.yield Y) [] [],x] K=K true (.yield Y) [x]:=λ x K=>q8o Y [] [x] K;have less:(if (mi.bx.take code).over=true then 0 else (mi.bx.take code).left+1)<(if mi.over=true then 0 else mi.left+1):=by
  rw [qc (show ¬ mi.over=true by rw [hov];decide)];split<;>omega
 have pnO:¬ (oA c wv p):=λ q=>q.elim hpne λ q=>hpr (.inr (.inl q));have pnU:¬ U p:=λ q=>(hJ.wb p q).2.elim hpW λ q=>by omega
 have next:∀ (H3 H4:AHeap) (bv':AV) (U':Nat->Prop),Fr (oA c wv) H2 H3->(∀ b,bL bv' b->(bL bvi b\/H2.next<=b)/\b<H3.next)->((mi.bx.take code).over=false->dY c H3 wv bv' (mi.bx.take code))->((mi.bx.take code).over=true->nj c (λ b=>b=c.r\/bL wv b\/bL bv' b) H3 (mi.bx.take code)) ->
  Fr U H3 H4->(∀ b,U' b->b<H4.next/\(U b\/H3.next<=b))->R (i+1) U' H4->SoJ c code m p xs R W0 O H1 wv H4 (mi.bx.take code) (i+1) U' bv':=by
  intro H3 H4 bv' U' ft hbv hnx3 hov3 fU hU' hR4;have hrl:c.r<H3.next:=qe hJ.hi (nx3 ft)
  have hlt3:∀ b,(b=c.r\/bL wv b\/bL bv' b)->b<H3.next /\ ¬ U b/\(O b\/H1.next<=b):=λ b q=>by
   rcases q with q|q|q
   ·exact ⟨by rw [q];exact hrl,har b (.inl q)⟩
   ·exact ⟨qe (wlt b q) (nx3 ft),har b (.inr (.inl q))⟩
   ·refine ⟨(hbv b q).2,?_⟩;rcases (hbv b q).1 with w|w
    ·exact har b (.inr (.inr w))
    ·have:=f2.next
     have:=hJ.fr.next
     exact ⟨λ u=>by have:=(hJ.wb b u).1;omega,.inr (by omega)⟩
  refine ⟨hR4,λ b q=>⟨(hU' b q).1,(hU' b q).2.elim (λ q=>(hJ.wb b q).2) λ q=>.inr (xz (n13 ft) q)⟩,(fr3 ft).trans fU λ b q=>(hJ.wb b q).2.imp (λ q=>.inl q) id,λ j=>?_,?_,?_,SM.bC.take g2 (by show mi.left-1+mi.aN+1<=2000000;omega) code,λ b q=>?_,?_,qe hrl fU.next,?_⟩
  ·have:=hJ.pl (j+1);rw [q2,zd] at this;rw [<-this];congr 1;omega
  ·rw [q2,qn] at hln;omega
  ·rw [<-q1];exact hJ.rn
  ·obtain ⟨a1,a2,a3⟩:=hlt3 b q;exact ⟨λ u=>(hU' b u).2.elim a2 λ u=>by omega,a3⟩
  ·rw [fU.aj p (qe hpx (nx3 ft)) pnU,ft.aj p (qe hpx f2.next) pnO];exact cel2
  ·cases ho2:(mi.bx.take code).over with
   | false =>
    refine .inl ⟨rfl,(hnx3 ho2).off fU λ b u=>?_⟩;have hb:c.H0.next<=b:=(hJ.wb b u).2.elim (hW0lo b) λ q=>by omega
    exact ⟨hb,λ q=>(hlt3 b (.inl q)).2.1 u,λ q=>(hlt3 b (.inr (.inl q))).2.1 u,λ q=>(hlt3 b (.inr (.inr q))).2.1 u⟩
   | true=>exact .inr ⟨rfl,(hov3 ho2).loc (λ b q=>fU.aj b (hlt3 b q).1 (hlt3 b q).2.1) fU.next⟩
 by_cases c1:(code.length:Int)<=mi.pc
 ·have c2:mi.cr=true:=by cases q:mi.cr with|true=>rfl|false=>exact (hpc ⟨c1,q⟩).elim
  rw [c2] at r27;simp only [↓qh,qq,reduceIte,reduceEqDiff,w5,lp0,qi,r10,w8,r28,r0,ln,c1,r27,w20,r11,z0,w27,wl,st,lp2];refine C3.q (q6d (M:=M) (m:=mi.bx) h2 g2 hov (by show mi.aN<=10000000;omega) hs hc) λ v H3 ⟨bv',ft,hbv,hnx3,hov3⟩=>?_;simp only [↓qh,qq,reduceIte,reduceEqDiff,w31,hv3];obtain ⟨bb,H4,U',hr,fU,hU',ht,hs'⟩:=round H3 bv' ft hbv;refine C3.D2 hr ?_;cases bb with
  | false =>
   simp only [↓qh,qq,reduceIte,reduceEqDiff];exact ⟨U',(fr3 ft).trans fU λ b q=>(hJ.wb b q).2.imp (λ q=>.inl q) id,λ b q=>⟨(hU' b q).1,(hU' b q).2.elim (λ q=>(hJ.wb b q).2) λ q=>.inr (xz (n13 ft) q)⟩,.inr (hs' rfl)⟩
  | true =>
   simp only [↓qh,qq,reduceIte,reduceEqDiff];exact ⟨_,_,⟨mi.bx.take code,i+1,U',bv',rfl,rfl,next H3 H4 bv' U' ft hbv hnx3 hov3 fU hU' (ht rfl)⟩,by simp only [↓qh,qq,reduceIte,reduceEqDiff],less⟩
 ·simp only [↓qh,qq,reduceIte,reduceEqDiff,w5,lp0,qi,r10,w8,r28,r0,ln,c1,w20,r11,z0,w27,wl,st,lp2];refine C3.q (q6d (M:=M) (m:=mi.bx) h2 g2 hov (by show mi.aN<=10000000;omega) hs hc) λ v H3 ⟨bv',ft,hbv,hnx3,hov3⟩=>?_;simp only [↓qh,qq,reduceIte,reduceEqDiff,w31,hv3];obtain ⟨bb,H4,U',hr,fU,hU',ht,hs'⟩:=round H3 bv' ft hbv;refine C3.D2 hr ?_;cases bb with
  | false =>
   simp only [↓qh,qq,reduceIte,reduceEqDiff];exact ⟨U',(fr3 ft).trans fU λ b q=>(hJ.wb b q).2.imp (λ q=>.inl q) id,λ b q=>⟨(hU' b q).1,(hU' b q).2.elim (λ q=>(hJ.wb b q).2) λ q=>.inr (xz (n13 ft) q)⟩,.inr (hs' rfl)⟩
  | true =>
   simp only [↓qh,qq,reduceIte,reduceEqDiff];exact ⟨_,_,⟨mi.bx.take code,i+1,U',bv',rfl,rfl,next H3 H4 bv' U' ft hbv hnx3 hov3 fU hU' (ht rfl)⟩,by simp only [↓qh,qq,reduceIte,reduceEqDiff],less⟩
end Go.Am
namespace Go.Am
open Lang Go.Proofs
variable {M:aO} [MK M]
def fP (code:List bB) (pc:Int) (ws:List Int) (steps:Int):Prop:=1024<code.length\/pc<0\/1024<pc\/4096<ws.length\/steps<0\/1048576<steps
instance (code:List bB) (pc:Int) (ws:List Int) (steps:Int):Decidable (fP code pc ws steps):=inferInstanceAs (Decidable (_\/_))
structure DY (H:AHeap) (cv wsv:AV) (code:List bB) (rs ws:List Int):Prop where
 cd:cU gn 5 H cv code
 sl:cU fD 1 H wsv ws
 r8:rs.length=8
 rr:∀ x ∈ rs,lZ x
 wr:∀ x ∈ ws,lZ x
 sh:xD H
theorem DY.em {H H':AHeap} {cv wsv:AV} {code:List bB} {rs ws:List Int} (h:DY H cv wsv code rs ws) (f:Fr Em H H'):DY H' cv wsv code rs ws:=⟨h.cd.em f,h.sl.em f,h.r8,h.rr,h.wr,h.sh.em f⟩
theorem pk {H:AHeap} {b e:Nat} {l:List Int} (h8:l.length=8) (h:H.get b=some (OR (l.map uC) e)):Op.au 8 [.ptr b 0] H=some (.agg (l.map uC)):=by
 rw [mg (qy h) (by rw [vo];omega),xq,xo (by rw [vo];omega)]
theorem q41 {code:List bB} {rs ws:List Int} {pc steps:Int} (h8:rs.length=8) (hr:∀ x ∈ rs,lZ x) (hw:∀ x ∈ ws,lZ x) (hb:¬ fP code pc ws steps):(SM.init ws rs pc steps.toNat).bC:=by
 unfold fP at hb;refine ⟨⟨h8,rfl,?_,?_,Int.le_refl _,(by show (0:Int)<=1024;decide)⟩,?_,ja _,hw,hr,(λ x q=>by cases q),(λ x q=>by
  have:x ∈ [(0:Int),0,0,0,0,0,0,0]:=q;simp at this;rw [this];exact fc),?_⟩
 ·show 0<=pc;omega
 ·show pc<=1024;omega
 ·show ws.length<=4096;omega
 ·show steps.toNat+0<=2000000;omega
theorem xb7 {H:AHeap} {cv wsv:AV} {code:List bB} {rs ws:List Int} {pc steps:Int} (h:DY H cv wsv code rs ws):ye M Ee [cv,.agg (rs.map uC),.int .i64 pc,wsv,.int .i64 steps] H λ v H'=>Fr Em H H' /\
 ((fP code pc ws steps/\v=.tuple [.nilp,.int .i64 2])\/(¬ fP code pc ws steps /\ ∃ r wv,H.next<=r/\v=.tuple [.ptr r 0,.int .i64 0]/\dY ⟨H,r,cv⟩ H' wv .nils (SM.init ws rs pc steps.toNat))):=by
 refine q6b ?_;obtain ⟨w0,w2,w10⟩:=q6c M ⟨none,Ee⟩;obtain ⟨H1,e1⟩:∃ X,X=H.alloc (OR (rs.map uC) cQ):=⟨_,rfl⟩
 have f1:Fr Em H H1:=by rw [e1];exact (Fr.refl H).alloc _
 have n1:H1.next=H.next+1:=by rw [e1,xk]
 have g1:H1.get H.next=some (OR (rs.map uC) cQ):=by rw [e1,qp]
 have ca:AV.cells (.agg (rs.map uC))=rs.map uC:=z7 _;have lc:=(h.cd.em f1).len;have lw:=(h.sl.em f1).len;obtain ⟨QQ,hQ⟩:∃ QQ:AV->AHeap->Prop,QQ=λ v H'=>Fr Em H H'/\((fP code pc ws steps/\v=.tuple [.nilp,.int .i64 2])\/(¬ fP code pc ws steps /\ ∃ r wv,H.next<=r/\v=.tuple [.ptr r 0,.int .i64 0]/\dY ⟨H,r,cv⟩ H' wv .nils (SM.init ws rs pc steps.toNat))):=⟨_,rfl⟩
 rw [<-hQ];have gE:fP code pc ws steps->QQ (.tuple [.nilp,.int .i64 2]) H1:=λ q=>by rw [hQ];exact ⟨f1,.inl ⟨q,rfl⟩⟩
 by_cases c1:(1024:Int)<(code.length:Nat)
 ·simp only [↓qh,qq,reduceIte,reduceEqDiff,w0,ca,<-e1,w2,lc,c1];exact gE (.inl (by omega))
 by_cases c2:pc<0
 ·simp only [↓qh,qq,reduceIte,reduceEqDiff,w0,ca,<-e1,w2,lc,c1,c2];exact gE (.inr (.inl c2))
 by_cases c3:(1024:Int)<pc
 ·simp only [↓qh,qq,reduceIte,reduceEqDiff,w0,ca,<-e1,w2,lc,c1,c2,c3];exact gE (.inr (.inr (.inl c3)))
 by_cases c4:(4096:Int)<(ws.length:Nat)
 ·simp only [↓qh,qq,reduceIte,reduceEqDiff,w0,ca,<-e1,w2,lc,c1,c2,c3,lw,c4];exact gE (.inr (.inr (.inr (.inl (by omega)))))
 by_cases c5:steps<0
 ·simp only [↓qh,qq,reduceIte,reduceEqDiff,w0,ca,<-e1,w2,lc,c1,c2,c3,lw,c4,c5];exact gE (.inr (.inr (.inr (.inr (.inl c5)))))
 by_cases c6:(1048576:Int)<steps
 ·simp only [↓qh,qq,reduceIte,reduceEqDiff,w0,ca,<-e1,w2,lc,c1,c2,c3,lw,c4,c5,c6];exact gE (.inr (.inr (.inr (.inr (.inr c6)))))
 have hb:¬ fP code pc ws steps:=by unfold fP;omega
 have l8:Op.au 8 [.ptr H.next 0] H1=some (.agg (rs.map uC)):=pk h.r8 g1;simp only [↓qh,qq,reduceIte,reduceEqDiff,w0,ca,<-e1,w2,lc,c1,c2,c3,lw,c4,c5,c6,w10,l8];refine C3.q (qym (M:=M) (h.sl.em f1) (by omega)) λ wv H2 hn=>?_;have l8':Op.au 8 [.ptr H.next 0] H2=some (.agg (rs.map uC)):=pk h.r8 (by rw [hn.fr.aj _ (by omega) id];exact g1);obtain ⟨a0,a1,a2,a3,a4,a5,a6,a7,e8⟩:=eJ h.r8;have ow:aD wv=true:=hn.sl.one;have oc:=h.cd.one;have cw:wv.cells=[wv]:=by cases wv<;>first|rfl|cases ow
 have cc:cv.cells=[cv]:=by cases cv<;>first|rfl|cases oc
 have b1:Op.build [.nils,.int .u64 0,.int .u64 0,.int .u64 0,.int .u64 0,.int .u64 0,.int .u64 0,.int .u64 0,.int .u64 0,.int .i64 0,.int .i64 0,.int .i64 0,.int .i64 0] [(0,1),(1,8),(9,1),(10,1)] [wv,.agg (rs.map uC),.int .i64 pc,.int .i64 steps]=some (.agg (wv::(rs.map uC ++ [.int .i64 pc,.int .i64 steps,.int .i64 0,.int .i64 0]))):=by
  rw [e8];simp only [DP,Db,CI,cw,q4h,z7,xx,kw,uC];rfl
 have b2:Op.build [.nils,.nils,.int .u64 0,.int .u64 0,.int .u64 0,.int .u64 0,.int .u64 0,.int .u64 0,.int .u64 0,.int .u64 0,.int .i64 0,.int .i64 0,.int .i64 0,.int .i64 0,.nils,.int .u64 0,.int .u64 0,.int .u64 0,.int .u64 0,.int .u64 0,.int .u64 0,.int .u64 0,.int .u64 0,.int .i64 0,.int .i64 0,.int .i64 0,.int .i64 0,.bool false,.bool false] [(0,1),(1,13)] [cv,.agg (wv::(rs.map uC ++ [.int .i64 pc,.int .i64 steps,.int .i64 0,.int .i64 0]))]=some (.agg (gI cv wv .nils (SM.init ws rs pc steps.toNat) 0 0 0)):=by
  have hst:((steps.toNat:Nat):Int)=steps:=by omega
  unfold gI SM.init;simp only [e8,hst];simp only [DP,Db,CI,cc,z7,xx,kw,uC];rfl
 have ca2:∀ l,AV.cells (.agg l)=l:=z7;simp only [↓qh,qq,reduceIte,reduceEqDiff,KG,l8',b1,b2,ca2];obtain ⟨H3,e3⟩:∃ X,X=H2.alloc (OR (gI cv wv .nils (SM.init ws rs pc steps.toNat) 0 0 0) zq):=⟨_,rfl⟩
 rw [<-e3];have f3:Fr Em H2 H3:=by rw [e3];exact (Fr.refl H2).alloc _
 have fa:Fr Em H H3:=(f1.trans hn.fr λ _ q=>q.elim).trans f3 λ _ q=>q.elim;have n2:=hn.fr.next
 have n3:H3.next=H2.next+1:=by rw [e3,xk]
 rw [hQ];refine ⟨fa,.inr ⟨hb,H2.next,wv,by omega,rfl,⟨⟨0,0,0,by rw [e3];exact qp ..⟩,by show H.next<=H2.next;omega,by show H2.next<H3.next;omega,fa,Own.em hn.own f3,λ b q=>⟨?_,?_⟩,Own.nil ..,λ b q=>(q.1 rfl).elim,h.r8,rfl⟩⟩⟩
 ·have:=hn.fresh b q;show H.next<=b;omega
 ·have:=Own.lt hn.own b q;show b ≠ H2.next;omega
def gK (wv:AV) (m:SM):List AV:=wv::(m.rs.map uC ++ [.int .i64 m.pc,.int .i64 (m.left:Nat),.int .i64 (m.aN:Nat),.int .i64 (m.err:Nat)])
def i6:List AV:=[.nils,.int .u64 0,.int .u64 0,.int .u64 0,.int .u64 0,.int .u64 0,.int .u64 0,.int .u64 0,.int .u64 0,.int .i64 0,.int .i64 0,.int .i64 0,.int .i64 0]
end Go.Am
namespace Go.Am
open Lang Go.Proofs
variable {M:aO} [MK M]
def PH (H:AHeap) (code:List bB) (rs ws:List Int) (pc steps:Int) (v:AV) (H':AHeap):Prop:=Fr Em H H' /\
 ((fP code pc ws steps/\v=.tuple [.agg i6,.int .i64 2])\/(¬ fP code pc ws steps /\ ∃ wv,v=.tuple [.agg (gK wv ((SM.init ws rs pc steps.toNat).runs code)),.int .i64 0]/\dH fD vq 1 H' wv ((SM.init ws rs pc steps.toNat).runs code).w /\ ∀ b,bL wv b->H.next<=b))
theorem KZ:[AV.nils,.int .u64 0,.int .u64 0,.int .u64 0,.int .u64 0,.int .u64 0,.int .u64 0,.int .u64 0,.int .u64 0,.int .i64 0,.int .i64 0,.int .i64 0,.int .i64 0]=i6:=rfl
theorem bdZ:Op.build i6 [] []=some (.agg i6):=rfl
theorem NO {wv:AV} {m:SM} (h:m.rs.length=8):(gK wv m).length=13:=by unfold gK;simp [h]
theorem q8z {wv:AV} {m:SM} (h:aD wv=true):bh (gK wv m)=true:=by
 unfold gK;rw [mU,C2,h,List.all_append,List.all_map];simp [uC,aD]
theorem mz {H:AHeap} {b e:Nat} {l x:List AV} (h:H.get b=some (OR l e)) (hl:l.length=13) (hx:x.length=13) (h1:bh x=true):Op.store 13 [.ptr b 0,.agg x] H=some (.undef,H.set b (OR x e)):=by
 have st:=y9 h (o:=0) (n:=13) (v:=.agg x) (by rw [z7];exact hx) (by omega) (by rw [z7];exact h1);rw [st,z7,zt,zn,kc (by omega),kh]
theorem IB {H:AHeap} {b e:Nat} {l:List AV} (h:H.get b=some (OR l e)) (hl:l.length=13):Op.au 13 [.ptr b 0] H=some (.agg l):=by
 rw [mg (qy h) (by omega),xq,xo (by omega)]
theorem Ah {cv wv bv:AV} {m:SM} {bl bb be:Int} (h:m.rs.length=8) (h':m.mD.length=8):((gI cv wv bv m bl bb be).drop 1).take 13=gK wv m:=by
 obtain ⟨a0,a1,a2,a3,a4,a5,a6,a7,e⟩:=eJ h;obtain ⟨b0,b1,b2,b3,b4,b5,b6,b7,e'⟩:=eJ h';unfold gI gK;rw [e,e'];rfl
theorem tH {H:AHeap} {cv wsv:AV} {code:List bB} {rs ws:List Int} {pc steps:Int} (h:DY H cv wsv code rs ws):ye M zI [cv,.agg (rs.map uC),.int .i64 pc,wsv,.int .i64 steps] H (PH H code rs ws pc steps):=by
 refine xb4 ?_;obtain ⟨w0,wa,wb,w4,w12,w17⟩:=q17 M ⟨none,zI⟩;obtain ⟨H1,e1⟩:∃ X,X=H.alloc (OR (rs.map uC) cQ):=⟨_,rfl⟩
 obtain ⟨H2,e2⟩:∃ X,X=H1.alloc (OR i6 jh):=⟨_,rfl⟩
 have f1:Fr Em H H1:=by rw [e1];exact (Fr.refl H).alloc _
 have f12:Fr Em H1 H2:=by rw [e2];exact (Fr.refl H1).alloc _
 have f2:Fr Em H H2:=f1.trans f12 λ _ q=>q.elim;have n1:H1.next=H.next+1:=by rw [e1,xk]
 have n2:H2.next=H.next+2:=by rw [e2,xk,n1]
 have g1:H2.get H.next=some (OR (rs.map uC) cQ):=by rw [f12.aj _ (by omega) id,e1,qp]
 have g2:H2.get (H.next+1)=some (OR i6 jh):=by rw [e2,<-n1,qp]
 have ca:AV.cells (.agg (rs.map uC))=rs.map uC:=z7 _;have l8:=pk h.r8 g1;simp only [↓qh,qq,reduceIte,reduceEqDiff,w0,ca,<-e1,KZ,<-e2,l8];refine C3.q (xb7 (M:=M) (h.em f2)) λ v H3 ⟨f3,hv⟩=>?_;have g3:H3.get (H.next+1)=some (OR i6 jh):=by rw [f3.aj _ (by omega) id];exact g2
 have f03:Fr Em H H3:=f2.trans f3 λ _ q=>q.elim;have n3:=f3.next
 rcases hv with ⟨hb,rfl⟩|⟨hb,r,wv,hr,rfl,hR⟩
 ·have t2:¬ (2:Int)=0:=by decide
  have s13:=mz (x:=i6) g3 rfl rfl rfl;have l13:=IB (xd H3 (H.next+1) (OR i6 jh)) rfl;simp only [↓qh,qq,reduceIte,reduceEqDiff,zo,n1,w4,t2,KZ,bdZ,s13,l13];exact ⟨f03.set (.inr (by omega)) _,.inl ⟨hb,rfl⟩⟩
 obtain ⟨m,hm⟩:∃ m,m=SM.init ws rs pc steps.toNat:=⟨_,rfl⟩
 have hg:m.bC:=by rw [hm];exact q41 h.r8 h.rr h.wr hb
 have ho:m.over=false:=by rw [hm];rfl
 rw [<-hm] at hR;obtain ⟨c,hc⟩:∃ c:rY,c=⟨H2,r,cv⟩:=⟨_,rfl⟩
 rw [<-hc] at hR;have c1:c.H0=H2:=by rw [hc]
 have c2:c.r=r:=by rw [hc]
 have c3:c.cv=cv:=by rw [hc]
 obtain ⟨H4,e4⟩:∃ X,X=H3.alloc (OR [.ptr r 0] Cl):=⟨_,rfl⟩
 have f4:Fr Em H3 H4:=by rw [e4];exact (Fr.refl H3).alloc _
 have n4:H4.next=H3.next+1:=by rw [e4,xk]
 have g4:H4.get H3.next=some (OR [.ptr c.r 0] Cl):=by rw [e4,qp,c2]
 have hR4:=hR.em f4;have hwl:=Own.lt hR.wo;have hrl:r<H3.next:=by have:=hR.hi;rw [c2] at this;exact this
 have hlo:=hR.lo;rw [c1,c2] at hlo;have hit:=xe4 (M:=M) (code:=code) hR4 hg ho (by rw [c1];exact h.sh.em f2) (by rw [c1,c3];exact h.cd.em f2) g4 (by omega) (by
  rintro (q|q|q)
  ·rw [c2] at q;omega
  ·have:=hwl _ q;omega
  ·exact q.1 rfl)
 have stp:AV.cells (.ptr r 0)=[.ptr r 0]:=rfl;simp only [↓qh,qq,reduceIte,reduceEqDiff,zo,n1,w4,w12];refine C3.q (R:=λ v H'=>v=.fn (.func ju) [] [.ptr H3.next 0]/\H'=H4) ?_ λ v H5 ⟨hv,hh⟩=>?_
 ·refine qry ?_;have mk:Op.bm ju 0 [.ptr H3.next 0]=some (.fn (.func ju) [] [.ptr H3.next 0]):=rfl;simp only [↓qh,qq,reduceIte,reduceEqDiff,qrz,stp,<-e4,mk];rfl
 subst hv;rw [hh];refine mn.J5 (fn:=CX) (lp:=C4) (pa:=qz4 0) (pb:=qz5 0) q76 qw6.1 qw6.2 (by decide) ⟨rfl,Pq C4.assign⟩ ⟨rfl,Pq C4.body⟩
  (λ V Ha Hb hF hs hn=>hF.loc hs hn) hit (λ _ _ _=>True) (λ _ _ _=>False) (λ _=>False) (qf _) ?_ (λ b q=>q.elim) trivial (λ _ _ _ _ _ _ _=>trivial) (λ _ _ _ _ q _ _=>q) ?_ ?_ (λ e d U Hd _ _ _ _ _ _ q=>q.elim)
 ·rintro b (q|q)
  ·refine ⟨?_,rfl,id⟩;rcases q with q|q
   ·rw [c1] at q;omega
   ·omega
  ·refine ⟨?_,rfl,id⟩;rcases q with q|q|q
   ·rw [c2] at q;omega
   ·have:=hwl _ q;omega
   ·exact (q.1 rfl).elim
 ·intro L i lr lb x hx hL U H6 _ hU hf6 hnL hL6 hgL;rw [xj,xr] at hx;obtain ⟨y,hy,rfl⟩:=hx;refine ⟨_,rfl,?_⟩;obtain ⟨-,wa,wb,-⟩:=q17 M ⟨some L,zI⟩;simp only [↓qh,qq,reduceIte,reduceEqDiff,wa,q9v];refine ⟨hgL,?_⟩;simp only [↓qh,qq,reduceIte,reduceEqDiff,wb];exact ⟨rfl,xd ..,λ _=>False,λ b q=>q.elim,(Fr.refl H6).set (W:=λ b=>U b\/b=L) (.inl (.inr rfl)) _,.inl ⟨rfl,trivial⟩⟩
 ·intro d U Hd hd1 hd2 hgd hfd hUd _ ⟨V,hV,hF⟩;obtain ⟨R,hRR⟩:∃ R,R=m.runs code:=⟨_,rfl⟩
  rw [<-hRR] at hF;have hF0:=hF;obtain ⟨wv',bv',bl,bb,be,v1,v2,hrow,how,r8,b8⟩:=hF;have hb1:H.next+1<H4.next:=by omega
  have gb:Hd.get (H.next+1)=some (OR i6 jh):=by
   rw [hfd.aj _ hb1 ?_,f4.aj _ (by omega) id]
   ·exact g3
   ·rintro (q|q|q|q)
    ·exact q
    ·rw [c2] at q;omega
    ·have:=(hR.wf _ q).1;rw [c1] at this;omega
    ·exact q.1 rfl
  rw [c2] at hrow;have l13:Op.au 13 [.ptr r 1] Hd=some (.agg (gK wv' R)):=by
   rw [mg (qy hrow) (by rw [(Bq r8 b8).2.2.2.2.2.2.2.2.2.2.2];decide),Ah r8 b8]
  have ow:aD wv'=true:=(dH.sl how).one;have s13:=mz (x:=gK wv' R) gb rfl (NO r8) (q8z ow);have hvlo:∀ b,V b->H2.next<=b:=λ b q=>by
   rcases (hV b q).2.2.2 with w|w
   ·rcases w with w|w|w
    ·rw [w,c2];exact hlo
    ·have:=(hR.wf _ w).1;rw [c1] at this;exact this
    ·exact (w.1 rfl).elim
   ·omega
  obtain ⟨H7,e7⟩:∃ X,X=Hd.set (H.next+1) (OR (gK wv' R) jh):=⟨_,rfl⟩
  rw [<-e7] at s13;obtain ⟨H8,e8⟩:∃ X,X=H7.set d (.deferred none):=⟨_,rfl⟩
  have gd7:H7.get d=some (.deferred (some [])):=by rw [e7,sw (by omega)];exact hgd
  have g8:H8.get (H.next+1)=some (OR (gK wv' R) jh):=by rw [e8,sw (by omega),e7,xd]
  have l8:=IB g8 (NO r8);have hF8:nj c V H8 R:=hF0.loc (λ b q=>by
   have:=hvlo b q;rw [e8,sw (Ne.symm (hV b q).2.1),e7,sw (by omega)]) (by rw [e8,e7];exact qf _)
  have how8:dH fD vq 1 H8 wv' R.w:=Own.fr how (⟨by rw [e8,e7];exact qf _,λ b _ hw=>by
   have q:V b:=Fv.1 hw;have:=hvlo b q;rw [e8,sw (Ne.symm (hV b q).2.1),e7,sw (by omega)]⟩:Fr (λ b=>¬ V b) Hd H8) λ x hx w=>w (v2 x hx).1
  have f8:Fr Em H H8:=by
   have fd:Fr Em H Hd:=⟨xz f03.next (xz f4.next hfd.next),λ b hb _=>by
    rw [hfd.aj b (by omega) ?_,f4.aj b (by omega) id,f03.aj b hb id];rintro (q|q|q|q)
    ·exact q
    ·rw [c2] at q;omega
    ·have:=(hR.wf _ q).1;rw [c1] at this;omega
    ·exact q.1 rfl⟩
   rw [e8,e7];exact (fd.set (.inr (by omega)) _).set (.inr (by omega)) _
  simp only [↓qh,qq,reduceIte,reduceEqDiff,w17,qi,l13,s13,xci,<-e8,l8];exact ⟨gd7,f8,.inr ⟨hb,wv',by rw [<-hm,<-hRR],by rw [<-hm,<-hRR];exact how8,λ b q=>by have:=hvlo b (v2 b q).1;omega⟩⟩
end Go.Am
