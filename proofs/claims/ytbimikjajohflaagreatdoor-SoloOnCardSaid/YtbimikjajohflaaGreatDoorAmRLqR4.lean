/- LqR4: SoE SoG SoH SoI. -/
import Derived.Test.YtbimikjajohflaaGreatDoorAmRLqR3
import Derived.Test.YtbimikjajohflaaGreatDoorAmRLqR0
set_option linter.unusedVariables false
set_option linter.unusedSimpArgs false
set_option linter.unusedSectionVars false
set_option maxRecDepth 100000
namespace Go.Am
open Lang Go.Proofs
variable {M:Mac} [MK M]
section
variable {c:SoK} {H H':AHeap} {wv bv:AV} {m:SM}
theorem SoR.off (h:SoR c H wv bv m) {W:Nat->Prop} (f:Fr W H H') (hw:∀ b,W b->c.H0.next<=b/\b ≠ c.r /\ ¬ OnS wv b /\ ¬ OnS bv b):SoR c H' wv bv m:=by
 obtain ⟨bl,bb,be,hr⟩:=h.row
 exact ⟨⟨bl,bb,be,by rw [f.keep _ h.hi fun q=>(hw _ q).2.1 rfl];exact hr⟩,h.lo,qf h.hi f.next,h.fr.trans f fun x hx=>.inr (hw x hx).1,Own.fr h.wo f fun x hx q=>(hw x q).2.2.1 hx,h.wf,Own.fr h.bo f fun x hx q=>(hw x q).2.2.2 hx,h.bf,h.r8,h.b8⟩
theorem SoF.loc {V:Nat->Prop} (h:SoF c V H m) (hs:∀ b,V b->H'.get b=H.get b) (hn:H.next<=H'.next):SoF c V H' m:=by
 obtain ⟨wv,bv,bl,bb,be,v1,v2,hr,ho,r8,b8⟩:=h
 exact ⟨wv,bv,bl,bb,be,v1,v2,by rw [hs _ v1];exact hr,Own.fr ho (⟨hn,fun b _ hw=>hs b (kp.1 hw)⟩:Fr (fun b=>¬ V b) H H') fun x hx w=>w (v2 x hx).1,r8,b8⟩
theorem SoF.sub {V V':Nat->Prop} (h:SoF c V H m) (hi:c.r<H.next) (hv:∀ b,V b->b<H.next->V' b):SoF c V' H m:=by
 obtain ⟨wv,bv,bl,bb,be,v1,v2,hr,ho,r8,b8⟩:=h
 exact ⟨wv,bv,bl,bb,be,hv _ v1 hi,fun b q=>⟨hv b (v2 b q).1 (Own.lt ho b q),(v2 b q).2⟩,hr,ho,r8,b8⟩
theorem SoF.ld {V:Nat->Prop} (h:SoF c V H m):Op.load1 [.ptr c.r 10] H=some (.int .i64 m.pc)/\Op.load1 [.ptr c.r 28] H=some (.bool m.over):=by
 obtain ⟨wv,bv,bl,bb,be,v1,v2,hr,ho,r8,b8⟩:=h
 exact ⟨by rw [ye (xm hr),(qh7 r8 b8).2.2.1],by rw [ye (xm hr),(qh7 r8 b8).2.2.2.2.2.2.2.2.1]⟩
end
def SoItQ (R:Nat->(Nat->Prop)->AHeap->Prop) (S:(Nat->Prop)->AHeap->Prop) (W0 O:Nat->Prop) (F:(Nat->Prop)->AHeap->Prop) (H:AHeap) (n:Nat) (v:AV) (H':AHeap):Prop :=
 ∃ W':Nat->Prop,Fr (fun b=>W0 b\/O b) H H'/\(∀ b,W' b->b<H'.next/\(W0 b\/H.next<=b))/\((R n W' H' /\ ∃ V,(∀ b,V b->b<H'.next /\ ¬ W' b/\(O b\/H.next<=b))/\F V H')\/S W' H')
structure SoJ (c:SoK) (code:List Ins) (m:SM) (p:Nat) (xs:List Int) (R:Nat->(Nat->Prop)->AHeap->Prop) (W0 O:Nat->Prop) (H1:AHeap) (wv:AV) (Hx:AHeap) (mi:SM) (i:Nat) (W:Nat->Prop) (bvi:AV):Prop where
 hR:R i W Hx
 wb:∀ b,W b->b<Hx.next/\(W0 b\/H1.next<=b)
 fr:Fr (fun b=>W0 b\/O b) H1 Hx
 pl:∀ j,xs[i+j]? = (mi.places code (mi.left+1))[j]?
 ln:i+(mi.places code (mi.left+1)).length=xs.length
 rn:mi.runs code=m.runs code
 gd:mi.good
 ar:∀ b,(b=c.r\/OnS wv b\/OnS bvi b) -> ¬ W b/\(O b\/H1.next<=b)
 cel:Hx.get p=some (OR [.ptr c.r 0] jj)
 hi:c.r<Hx.next
 st:(mi.over=false/\SoR c Hx wv bvi mi)\/(mi.over=true/\SoF c (fun b=>b=c.r\/OnS wv b\/OnS bvi b) Hx mi)
theorem qua {m:SM} {code:List Ins} (h:m.over=true):m.runs code=m/\m.places code (m.left+1)=[]:=by
 have:m.stop code=some m:=by unfold SM.stop;rw [qh h]
 exact ⟨by unfold SM.runs;exact SM.run_over h _,by simp only [SM.places,this]⟩
theorem qoq {m x:SM} {code:List Ins} (h:m.stop code=some x):m.runs code=x/\m.places code (m.left+1)=[]:=⟨by unfold SM.runs;simp only [SM.run,h],by simp only [SM.places,h]⟩
theorem runs_go {m:SM} {code:List Ins} (h:m.stop code=none):m.runs code=(m.pay.take code).runs code/\m.places code (m.left+1)=m.pc::(m.pay.take code).places code ((m.pay.take code).left+1):=by
 have hl:=SM.next_left h
 refine ⟨?_,?_⟩
 ·show m.run code (m.left+1)=(m.pay.take code).run code ((m.pay.take code).left+1)
  rw [hl]
  simp only [SM.run,h]
 ·rw [<-hl]
  simp only [SM.places,h]
theorem qov {c:SoK} {H:AHeap} {wv bv:AV} {m:SM} {code:List Ins} {p:Nat} (h:SoR c H wv bv m) (hg:m.good) (ho:m.over=false) (hs:ShT c.H0) (hc:SlT insC 5 c.H0 c.cv code) (hp:H.get p=some (OR [.ptr c.r 0] jj)) (hpl:p<H.next) (hpr:¬ (p=c.r\/OnS wv p\/OnS bv p)) :
 ITERG M xi [] [.ptr p 0] (fun b=>b<c.H0.next\/b=p) (fun b=>b=c.r\/OnS wv b\/OnS bv b) H ((m.places code (m.left+1)).map fun x=>[AV.int .i64 x]) (fun V Hx=>SoF c V Hx (m.runs code)):=by
 intro Y R S W0 H1 hnx hN hR0 hW0 loc locS step
 obtain ⟨O,hO⟩:∃ O:Nat->Prop,O=fun b=>b=c.r\/OnS wv b\/OnS bv b:=⟨_,rfl⟩
 obtain ⟨xs,hxs⟩:∃ xs,xs=m.places code (m.left+1):=⟨_,rfl⟩
 rw [<-hxs] at step ⊢
 rw [<-hO] at hN step ⊢
 suffices hq:vg M xi [.fn (.yield Y) [] [],.ptr p 0] H1 (SoItQ R S W0 O (fun V Hx=>SoF c V Hx (m.runs code)) H1 xs.length) by
  obtain ⟨v,H',hcl,W',q1,q2,q3⟩:=hq.elim
  rw [vc]
  exact ⟨v,H',W',hcl,q1,q2,q3⟩
 have hlo:=h.lo
 have hn0:c.H0.next<=H.next:=h.fr.next
 -- what was there is there
 have hfr:∀ b,b<c.H0.next\/b=p\/O b->H1.get b=H.get b:=fun b q=>(hN b (by rcases q with q|q|q;exact .inl (.inl q);exact .inl (.inr q);exact .inr q)).2.1
 have hOa:∀ b,(b=c.r\/OnS wv b\/OnS bv b)->O b:=fun b q=>by rw [hO];exact q
 have h1:SoR c H1 wv bv m:=by
  obtain ⟨bl,bb,be,hr⟩:=h.row
  have f:Fr (fun b=>¬ O b) H H1:=⟨hnx,fun b _ hw=>hfr b (.inr (.inr (kp.1 hw)))⟩
  refine ⟨⟨bl,bb,be,by rw [hfr _ (.inr (.inr (hOa _ (.inl rfl))))];exact hr⟩,h.lo,qf h.hi hnx,⟨qx hn0 hnx,fun b hb _=>by rw [hfr b (.inl hb)];exact h.fr.keep b hb id⟩,Own.fr h.wo f fun x hx w=>w (hOa x (.inr (.inl hx))),h.wf,Own.fr h.bo f fun x hx w=>w (hOa x (.inr (.inr hx))),h.bf,h.r8,h.b8⟩
 have hp1:H1.get p=some (OR [.ptr c.r 0] jj):=by rw [hfr p (.inr (.inl rfl))];exact hp
 have hW0lo:∀ b,W0 b->c.H0.next<=b:=fun b q=>by
  rcases yf b c.H0.next with w|w
  ·exact ((hN b (.inl (.inl w))).2.2 q).elim
  ·exact w
 have hOW:∀ b,O b -> ¬ W0 b:=fun b q=>(hN b (.inr q)).2.2
 have hpW:¬ W0 p:=(hN p (.inl (.inr rfl))).2.2
 refine qek ?_
 obtain ⟨w0,w1,w3,w5,w8,w27,w20,w31⟩:=qel M ⟨none,xi⟩
 simp only [↓qq,ze,reduceIte,Nat.reduceEqDiff,w0,w1,w3]
 refine LOOP3.intro (fun n E Hx=>∃ (mi:SM) (i:Nat) (U:Nat->Prop) (bvi:AV),E=[(1,.ptr p 0),(0,.fn (.yield Y) [] [])]/\n=(if mi.over=true then 0 else mi.left+1)/\SoJ c code m p xs R W0 O H1 wv Hx mi i U bvi) ?_ ?_
 ·exact ⟨_,_,⟨m,0,W0,bv,rfl,rfl,⟨hR0,fun b q=>⟨hW0 b q,.inl q⟩,Fr.refl _,fun j=>by rw [x9,hxs],by rw [x9,hxs],rfl,hg,fun b q=>⟨hOW b (hOa b q),.inl (hOa b q)⟩,hp1,h1.hi,.inl ⟨ho,h1⟩⟩⟩,by simp only [↓qq,ze,reduceIte,Nat.reduceEqDiff]⟩
 rintro n E Hx ⟨mi,i,U,bvi,rfl,rfl,hJ⟩
 have lp:∀ {Hy:AHeap},Hy.get p=some (OR [.ptr c.r 0] jj)->Op.load1 [.ptr p 0] Hy=some (.ptr c.r 0):=fun q=>ye (xm q) 0
 have lp0:=lp hJ.cel
 have hln:=hJ.ln
 -- the end
 have fin:∀ {v:AV} {Hz:AHeap} {x:SM},SoF c (fun b=>b=c.r\/OnS wv b\/OnS bvi b) Hz x->Fr (On c.r) Hx Hz->mi.runs code=x->mi.places code (mi.left+1)=[]->SoItQ R S W0 O (fun V Hx=>SoF c V Hx (m.runs code)) H1 xs.length v Hz:=fun {v Hz x} hF fz hx hpl0=>by
  have hrl:c.r ∉ ([]:List Nat):=by simp
  have har:=hJ.ar
  refine ⟨U,hJ.fr.trans fz fun b (q:b=c.r)=>by subst q;exact (har _ (.inl rfl)).2.imp (fun q=>.inr q) id,fun b q=>⟨qf (hJ.wb b q).1 fz.next,(hJ.wb b q).2⟩,.inl ⟨?_,fun b=>(b=c.r\/OnS wv b\/OnS bvi b)/\b<Hz.next,fun b q=>⟨q.2,(har b q.1).1,(har b q.1).2⟩,?_⟩⟩
  ·have:i=xs.length:=by rw [hpl0] at hln;simpa using hln
   rw [<-this]
   exact loc i U Hx Hz hJ.hR (fun b q=>fz.keep b (hJ.wb b q).1 fun (w:b=c.r)=>(har b (.inl w)).1 q) fz.next
  ·have e:m.runs code=x:=by rw [<-hJ.rn];exact hx
   rw [e]
   exact hF.sub (qf hJ.hi fz.next) fun b q1 q2=>⟨q1,q2⟩
 rcases hJ.st with ⟨hov,hR⟩|⟨hov,hF⟩
 case inr =>
  obtain ⟨l10,l28⟩:=hF.ld
  rw [hov] at l28
  obtain ⟨q1,q2⟩:=qua (code:=code) hov
  simp only [↓qq,ze,reduceIte,Nat.reduceEqDiff,w5,lp0,xr,l10,w8,l28]
  exact fin (v:=.undef) hF (Fr.refl _) q1 q2
 obtain ⟨r0,r1,r10,r11,r12,r14,r23,r27,r28,rr,rb⟩:=hR.ld
 rw [hov] at r28
 have ln:Op.lenSl [c.cv]=some (.int .i64 (code.length:Nat)):=hc.len
 by_cases hpc:(code.length:Int)<=mi.pc/\mi.inb=false
 ·have hstop:mi.stop code=some (mi.fin 0):=by unfold SM.stop;rw [qe (by rw [hov];decide),qh hpc]
  obtain ⟨q1,q2⟩:=qoq hstop
  obtain ⟨c1,c2⟩:=hpc
  rw [c2] at r27
  simp only [↓qq,ze,reduceIte,Nat.reduceEqDiff,w5,lp0,xr,r10,w8,r28,r0,ln,c1,r27]
  refine C3.q (qg5 (M:=M) hR 0) fun v Hz ⟨hF,fz⟩=>?_
  simp only [↓qq,ze,reduceIte,Nat.reduceEqDiff]
  exact fin (v:=.undef) hF fz q1 q2
 by_cases hleft:mi.left=0
 ·have hstop:mi.stop code=some (mi.fin 190):=by unfold SM.stop;rw [qe (by rw [hov];decide),qe hpc,qh hleft]
  obtain ⟨q1,q2⟩:=qoq hstop
  have z0:((mi.left:Nat):Int)=0:=by omega
  by_cases c1:(code.length:Int)<=mi.pc
  ·have c2:mi.inb=true:=by cases q:mi.inb with|true=>rfl|false=>exact (hpc ⟨c1,q⟩).elim
   rw [c2] at r27
   simp only [↓qq,ze,reduceIte,Nat.reduceEqDiff,w5,lp0,xr,r10,w8,r28,r0,ln,c1,r27,w20,r11,eq_true z0]
   refine C3.q (qg5 (M:=M) hR 190) fun v Hz ⟨hF,fz⟩=>?_
   simp only [↓qq,ze,reduceIte,Nat.reduceEqDiff]
   exact fin (v:=.undef) hF fz q1 q2
  ·simp only [↓qq,ze,reduceIte,Nat.reduceEqDiff,w5,lp0,xr,r10,w8,r28,r0,ln,c1,w20,r11,eq_true z0]
   refine C3.q (qg5 (M:=M) hR 190) fun v Hz ⟨hF,fz⟩=>?_
   simp only [↓qq,ze,reduceIte,Nat.reduceEqDiff]
   exact fin (v:=.undef) hF fz q1 q2
 -- a step
 have hstop:mi.stop code=none:=by unfold SM.stop;rw [qe (by rw [hov];decide),qe hpc,qe hleft]
 obtain ⟨q1,q2⟩:=runs_go hstop
 have nl:=SM.next_left hstop
 have z0:¬ ((mi.left:Nat):Int)=0:=by omega
 have hfl:=hJ.gd.fl
 have wl:wrapI .i64 (((mi.left:Nat):Int)-1)=((mi.left-1:Nat):Int):=by rw [vy (by omega) (by omega)];omega
 obtain ⟨H2,st,h2,f2⟩:=hR.setLeft (mi.left-1)
 have h2:SoR c H2 wv bvi mi.pay:=h2
 have hpne:p ≠ c.r:=fun q=>hpr (.inl q)
 have hpx:p<Hx.next:=qf (qf hpl hnx) hJ.fr.next
 have cel2:H2.get p=some (OR [.ptr c.r 0] jj):=by rw [f2.keep p hpx fun (q:p=c.r)=>hpne q];exact hJ.cel
 have g2:mi.pay.good:=⟨SM.pay_ok hJ.gd.ok,hJ.gd.wl,hJ.gd.bl,hJ.gd.wr,hJ.gd.rr,hJ.gd.br,hJ.gd.qr,by show mi.left-1+mi.blk<=2000000;omega⟩
 have lp2:=lp cel2
 have f02:Fr (SoW c wv) Hx H2:=f2.mono fun b _ q=>.inl q
 have wlt:∀ b,OnS wv b->b<Hx.next:=Own.lt hR.wo
 have blt:∀ b,OnS bvi b->b<Hx.next:=Own.lt hR.bo
 have har:=hJ.ar
 have aW:∀ b,SoW c wv b -> ¬ U b/\(O b\/H1.next<=b):=fun b q=>har b (q.elim .inl fun q=>.inr (.inl q))
 have fr3:∀ {H3:AHeap},Fr (SoW c wv) H2 H3->Fr (fun b=>W0 b\/O b) H1 H3:=fun ft=>hJ.fr.trans (f02.trans ft fun b q=>.inl q) fun b q=>(aW b q).2.imp (fun q=>.inr q) id
 have n13:∀ {H3:AHeap},Fr (SoW c wv) H2 H3->H1.next<=H3.next:=fun ft=>(fr3 ft).next
 have nx3:∀ {H3:AHeap},Fr (SoW c wv) H2 H3->Hx.next<=H3.next:=fun ft=>qx f2.next ft.next
 have keepU:∀ {H3:AHeap},Fr (SoW c wv) H2 H3 -> ∀ b,U b->H3.get b=Hx.get b:=fun ft b q=>(f02.trans ft fun b q=>.inl q).keep b (hJ.wb b q).1 fun w=>(aW b w).1 q
 have hpl0:((xs.map fun x=>[AV.int .i64 x]))[i]? = some [.int .i64 mi.pc]:=by
  have:=hJ.pl 0
  rw [q2] at this
  rw [xb,show xs[i]? = some mi.pc from this];rfl
 have round:∀ (H3:AHeap) (bv':AV),Fr (SoW c wv) H2 H3->(∀ b,OnS bv' b->(OnS bvi b\/H2.next<=b)/\b<H3.next) -> ∃ bb H4 U',ROUND M Y [.int .i64 mi.pc] H3 (.ret (.bool bb)) H4/\Fr U H3 H4/\(∀ b,U' b->b<H4.next/\(U b\/H3.next<=b))/\(bb=true->R (i+1) U' H4)/\(bb=false->S U' H4):=fun H3 bv' ft hbv =>
  step i _ hpl0 U H3 (loc i U Hx H3 hJ.hR (keepU ft) (nx3 ft)) (fun b q=>⟨qf (hJ.wb b q).1 (nx3 ft),(hJ.wb b q).2⟩) (fr3 ft)
 have hv3:∀ (x:AV) (K:Bool->AFn->List AV->Prop),V3 true [.fn (.yield Y) [] [],x] K=K true (.yield Y) [x]:=fun x K=>qqk Y [] [x] K
 have less:(if (mi.pay.take code).over=true then 0 else (mi.pay.take code).left+1)<(if mi.over=true then 0 else mi.left+1):=by
  rw [qe (show ¬ mi.over=true by rw [hov];decide)]
  split<;>omega
 have pnO:¬ (SoW c wv p):=fun q=>q.elim hpne fun q=>hpr (.inr (.inl q))
 have pnU:¬ U p:=fun q=>(hJ.wb p q).2.elim hpW fun q=>by omega
 have next:∀ (H3 H4:AHeap) (bv':AV) (U':Nat->Prop),Fr (SoW c wv) H2 H3->(∀ b,OnS bv' b->(OnS bvi b\/H2.next<=b)/\b<H3.next)->((mi.pay.take code).over=false->SoR c H3 wv bv' (mi.pay.take code))->((mi.pay.take code).over=true->SoF c (fun b=>b=c.r\/OnS wv b\/OnS bv' b) H3 (mi.pay.take code)) ->
  Fr U H3 H4->(∀ b,U' b->b<H4.next/\(U b\/H3.next<=b))->R (i+1) U' H4->SoJ c code m p xs R W0 O H1 wv H4 (mi.pay.take code) (i+1) U' bv':=by
  intro H3 H4 bv' U' ft hbv hnx3 hov3 fU hU' hR4
  have hrl:c.r<H3.next:=qf hJ.hi (nx3 ft)
  have hlt3:∀ b,(b=c.r\/OnS wv b\/OnS bv' b)->b<H3.next /\ ¬ U b/\(O b\/H1.next<=b):=fun b q=>by
   rcases q with q|q|q
   ·exact ⟨by rw [q];exact hrl,har b (.inl q)⟩
   ·exact ⟨qf (wlt b q) (nx3 ft),har b (.inr (.inl q))⟩
   ·refine ⟨(hbv b q).2,?_⟩
    rcases (hbv b q).1 with w|w
    ·exact har b (.inr (.inr w))
    ·have:=f2.next
     have:=hJ.fr.next
     exact ⟨fun u=>by have:=(hJ.wb b u).1;omega,.inr (by omega)⟩
  refine ⟨hR4,fun b q=>⟨(hU' b q).1,(hU' b q).2.elim (fun q=>(hJ.wb b q).2) fun q=>.inr (qx (n13 ft) q)⟩,(fr3 ft).trans fU fun b q=>(hJ.wb b q).2.imp (fun q=>.inl q) id,fun j=>?_,?_,?_,SM.good.take g2 (by show mi.left-1+mi.blk+1<=2000000;omega) code,fun b q=>?_,?_,qf hrl fU.next,?_⟩
  ·have:=hJ.pl (j+1)
   rw [q2,xd] at this
   rw [<-this];congr 1;omega
  ·rw [q2,xh] at hln;omega
  ·rw [<-q1];exact hJ.rn
  ·obtain ⟨a1,a2,a3⟩:=hlt3 b q
   exact ⟨fun u=>(hU' b u).2.elim a2 fun u=>by omega,a3⟩
  ·rw [fU.keep p (qf hpx (nx3 ft)) pnU,ft.keep p (qf hpx f2.next) pnO];exact cel2
  ·cases ho2:(mi.pay.take code).over with
   | false =>
    refine .inl ⟨rfl,(hnx3 ho2).off fU fun b u=>?_⟩
    have hb:c.H0.next<=b:=(hJ.wb b u).2.elim (hW0lo b) fun q=>by omega
    exact ⟨hb,fun q=>(hlt3 b (.inl q)).2.1 u,fun q=>(hlt3 b (.inr (.inl q))).2.1 u,fun q=>(hlt3 b (.inr (.inr q))).2.1 u⟩
   | true=>exact .inr ⟨rfl,(hov3 ho2).loc (fun b q=>fU.keep b (hlt3 b q).1 (hlt3 b q).2.1) fU.next⟩
 by_cases c1:(code.length:Int)<=mi.pc
 ·have c2:mi.inb=true:=by cases q:mi.inb with|true=>rfl|false=>exact (hpc ⟨c1,q⟩).elim
  rw [c2] at r27
  simp only [↓qq,ze,reduceIte,Nat.reduceEqDiff,w5,lp0,xr,r10,w8,r28,r0,ln,c1,r27,w20,r11,z0,w27,wl,st,lp2]
  refine C3.q (qoz (M:=M) (m:=mi.pay) h2 g2 hov (by show mi.blk<=10000000;omega) hs hc) fun v H3 ⟨bv',ft,hbv,hnx3,hov3⟩=>?_
  simp only [↓qq,ze,reduceIte,Nat.reduceEqDiff,w31,hv3]
  obtain ⟨bb,H4,U',hr,fU,hU',ht,hs'⟩:=round H3 bv' ft hbv
  refine C3.yret hr ?_
  cases bb with
  | false =>
   simp only [↓qq,ze,reduceIte,Nat.reduceEqDiff]
   exact ⟨U',(fr3 ft).trans fU fun b q=>(hJ.wb b q).2.imp (fun q=>.inl q) id,fun b q=>⟨(hU' b q).1,(hU' b q).2.elim (fun q=>(hJ.wb b q).2) fun q=>.inr (qx (n13 ft) q)⟩,.inr (hs' rfl)⟩
  | true =>
   simp only [↓qq,ze,reduceIte,Nat.reduceEqDiff]
   exact ⟨_,_,⟨mi.pay.take code,i+1,U',bv',rfl,rfl,next H3 H4 bv' U' ft hbv hnx3 hov3 fU hU' (ht rfl)⟩,by simp only [↓qq,ze,reduceIte,Nat.reduceEqDiff],less⟩
 ·simp only [↓qq,ze,reduceIte,Nat.reduceEqDiff,w5,lp0,xr,r10,w8,r28,r0,ln,c1,w20,r11,z0,w27,wl,st,lp2]
  refine C3.q (qoz (M:=M) (m:=mi.pay) h2 g2 hov (by show mi.blk<=10000000;omega) hs hc) fun v H3 ⟨bv',ft,hbv,hnx3,hov3⟩=>?_
  simp only [↓qq,ze,reduceIte,Nat.reduceEqDiff,w31,hv3]
  obtain ⟨bb,H4,U',hr,fU,hU',ht,hs'⟩:=round H3 bv' ft hbv
  refine C3.yret hr ?_
  cases bb with
  | false =>
   simp only [↓qq,ze,reduceIte,Nat.reduceEqDiff]
   exact ⟨U',(fr3 ft).trans fU fun b q=>(hJ.wb b q).2.imp (fun q=>.inl q) id,fun b q=>⟨(hU' b q).1,(hU' b q).2.elim (fun q=>(hJ.wb b q).2) fun q=>.inr (qx (n13 ft) q)⟩,.inr (hs' rfl)⟩
  | true =>
   simp only [↓qq,ze,reduceIte,Nat.reduceEqDiff]
   exact ⟨_,_,⟨mi.pay.take code,i+1,U',bv',rfl,rfl,next H3 H4 bv' U' ft hbv hnx3 hov3 fU hU' (ht rfl)⟩,by simp only [↓qq,ze,reduceIte,Nat.reduceEqDiff],less⟩
end Go.Am
namespace Go.Am
open Lang Go.Proofs
variable {M:Mac} [MK M]
def soBad (code:List Ins) (pc:Int) (ws:List Int) (steps:Int):Prop:=1024<code.length\/pc<0\/1024<pc\/4096<ws.length\/steps<0\/1048576<steps
instance (code:List Ins) (pc:Int) (ws:List Int) (steps:Int):Decidable (soBad code pc ws steps):=inferInstanceAs (Decidable (_\/_))
structure SoA (H:AHeap) (cv wsv:AV) (code:List Ins) (rs ws:List Int):Prop where
 cd:SlT insC 5 H cv code
 sl:SlT encW 1 H wsv ws
 r8:rs.length=8
 rr:∀ x ∈ rs,U64 x
 wr:∀ x ∈ ws,U64 x
 sh:ShT H
theorem SoA.em {H H':AHeap} {cv wsv:AV} {code:List Ins} {rs ws:List Int} (h:SoA H cv wsv code rs ws) (f:Fr Em H H'):SoA H' cv wsv code rs ws:=⟨h.cd.em f,h.sl.em f,h.r8,h.rr,h.wr,h.sh.em f⟩
theorem ldRegs {H:AHeap} {b e:Nat} {l:List Int} (h8:l.length=8) (h:H.get b=some (OR (l.map uC) e)):Op.loadN 8 [.ptr b 0] H=some (.agg (l.map uC)):=by
 rw [wx (xm h) (by rw [vc];omega),kx,xn (by rw [vc];omega)]
theorem qer {code:List Ins} {rs ws:List Int} {pc steps:Int} (h8:rs.length=8) (hr:∀ x ∈ rs,U64 x) (hw:∀ x ∈ ws,U64 x) (hb:¬ soBad code pc ws steps):(SM.init ws rs pc steps.toNat).good:=by
 unfold soBad at hb
 refine ⟨⟨h8,rfl,?_,?_,Int.le_refl _,(by show (0:Int)<=1024;decide)⟩,?_,xu _,hw,hr,(fun x q=>by cases q),(fun x q=>by
  have:x ∈ [(0:Int),0,0,0,0,0,0,0]:=q
  simp at this;rw [this];exact u64_0),?_⟩
 ·show 0<=pc;omega
 ·show pc<=1024;omega
 ·show ws.length<=4096;omega
 ·show steps.toNat+0<=2000000;omega
theorem qls {H:AHeap} {cv wsv:AV} {code:List Ins} {rs ws:List Int} {pc steps:Int} (h:SoA H cv wsv code rs ws):vg M vr [cv,.agg (rs.map uC),.int .i64 pc,wsv,.int .i64 steps] H fun v H'=>Fr Em H H' /\
 ((soBad code pc ws steps/\v=.tuple [.nilp,.int .i64 2])\/(¬ soBad code pc ws steps /\ ∃ r wv,H.next<=r/\v=.tuple [.ptr r 0,.int .i64 0]/\SoR ⟨H,r,cv⟩ H' wv .nils (SM.init ws rs pc steps.toNat))):=by
 refine qox ?_
 obtain ⟨w0,w2,w10⟩:=qoy M ⟨none,vr⟩
 obtain ⟨H1,e1⟩:∃ X,X=H.alloc (OR (rs.map uC) T__25):=⟨_,rfl⟩
 have f1:Fr Em H H1:=by rw [e1];exact (Fr.refl H).alloc _
 have n1:H1.next=H.next+1:=by rw [e1,x4]
 have g1:H1.get H.next=some (OR (rs.map uC) T__25):=by rw [e1,xa]
 have ca:AV.cells (.agg (rs.map uC))=rs.map uC:=jg _
 have lc:=(h.cd.em f1).len
 have lw:=(h.sl.em f1).len
 obtain ⟨QQ,hQ⟩:∃ QQ:AV->AHeap->Prop,QQ=fun v H'=>Fr Em H H'/\((soBad code pc ws steps/\v=.tuple [.nilp,.int .i64 2])\/(¬ soBad code pc ws steps /\ ∃ r wv,H.next<=r/\v=.tuple [.ptr r 0,.int .i64 0]/\SoR ⟨H,r,cv⟩ H' wv .nils (SM.init ws rs pc steps.toNat))):=⟨_,rfl⟩
 rw [<-hQ]
 have bad:soBad code pc ws steps->QQ (.tuple [.nilp,.int .i64 2]) H1:=fun q=>by rw [hQ];exact ⟨f1,.inl ⟨q,rfl⟩⟩
 by_cases c1:(1024:Int)<(code.length:Nat)
 ·simp only [↓qq,ze,reduceIte,Nat.reduceEqDiff,w0,ca,<-e1,w2,lc,c1]
  exact bad (.inl (by omega))
 by_cases c2:pc<0
 ·simp only [↓qq,ze,reduceIte,Nat.reduceEqDiff,w0,ca,<-e1,w2,lc,c1,c2]
  exact bad (.inr (.inl c2))
 by_cases c3:(1024:Int)<pc
 ·simp only [↓qq,ze,reduceIte,Nat.reduceEqDiff,w0,ca,<-e1,w2,lc,c1,c2,c3]
  exact bad (.inr (.inr (.inl c3)))
 by_cases c4:(4096:Int)<(ws.length:Nat)
 ·simp only [↓qq,ze,reduceIte,Nat.reduceEqDiff,w0,ca,<-e1,w2,lc,c1,c2,c3,lw,c4]
  exact bad (.inr (.inr (.inr (.inl (by omega)))))
 by_cases c5:steps<0
 ·simp only [↓qq,ze,reduceIte,Nat.reduceEqDiff,w0,ca,<-e1,w2,lc,c1,c2,c3,lw,c4,c5]
  exact bad (.inr (.inr (.inr (.inr (.inl c5)))))
 by_cases c6:(1048576:Int)<steps
 ·simp only [↓qq,ze,reduceIte,Nat.reduceEqDiff,w0,ca,<-e1,w2,lc,c1,c2,c3,lw,c4,c5,c6]
  exact bad (.inr (.inr (.inr (.inr (.inr c6)))))
 have hb:¬ soBad code pc ws steps:=by unfold soBad;omega
 have l8:Op.loadN 8 [.ptr H.next 0] H1=some (.agg (rs.map uC)):=ldRegs h.r8 g1
 simp only [↓qq,ze,reduceIte,Nat.reduceEqDiff,w0,ca,<-e1,w2,lc,c1,c2,c3,lw,c4,c5,c6,w10,l8]
 refine C3.q (qi8 (M:=M) (h.sl.em f1) (by omega)) fun wv H2 hn=>?_
 have l8':Op.loadN 8 [.ptr H.next 0] H2=some (.agg (rs.map uC)):=ldRegs h.r8 (by rw [hn.fr.keep _ (by omega) id];exact g1)
 obtain ⟨a0,a1,a2,a3,a4,a5,a6,a7,e8⟩:=list8 h.r8
 have ow:oneCell wv=true:=hn.sl.one
 have oc:=h.cd.one
 have cw:wv.cells=[wv]:=by cases wv<;>first|rfl|cases ow
 have cc:cv.cells=[cv]:=by cases cv<;>first|rfl|cases oc
 have b1:Op.build [.nils,.int .u64 0,.int .u64 0,.int .u64 0,.int .u64 0,.int .u64 0,.int .u64 0,.int .u64 0,.int .u64 0,.int .i64 0,.int .i64 0,.int .i64 0,.int .i64 0] [(0,1),(1,8),(9,1),(10,1)] [wv,.agg (rs.map uC),.int .i64 pc,.int .i64 steps]=some (.agg (wv::(rs.map uC ++ [.int .i64 pc,.int .i64 steps,.int .i64 0,.int .i64 0]))):=by
  rw [e8]
  simp only [qts,qno,qqs,cw,qnf,jg,qw,jc,uC];rfl
 have b2:Op.build [.nils,.nils,.int .u64 0,.int .u64 0,.int .u64 0,.int .u64 0,.int .u64 0,.int .u64 0,.int .u64 0,.int .u64 0,.int .i64 0,.int .i64 0,.int .i64 0,.int .i64 0,.nils,.int .u64 0,.int .u64 0,.int .u64 0,.int .u64 0,.int .u64 0,.int .u64 0,.int .u64 0,.int .u64 0,.int .i64 0,.int .i64 0,.int .i64 0,.int .i64 0,.bool false,.bool false] [(0,1),(1,13)] [cv,.agg (wv::(rs.map uC ++ [.int .i64 pc,.int .i64 steps,.int .i64 0,.int .i64 0]))]=some (.agg (soC cv wv .nils (SM.init ws rs pc steps.toNat) 0 0 0)):=by
  have hst:((steps.toNat:Nat):Int)=steps:=by omega
  unfold soC SM.init
  simp only [e8,hst]
  simp only [qts,qno,qqs,cc,jg,qw,jc,uC];rfl
 have ca2:∀ l,AV.cells (.agg l)=l:=jg
 simp only [↓qq,ze,reduceIte,Nat.reduceEqDiff,qij,l8',b1,b2,ca2]
 obtain ⟨H3,e3⟩:∃ X,X=H2.alloc (OR (soC cv wv .nils (SM.init ws rs pc steps.toNat) 0 0 0) xf):=⟨_,rfl⟩
 rw [<-e3]
 have f3:Fr Em H2 H3:=by rw [e3];exact (Fr.refl H2).alloc _
 have fa:Fr Em H H3:=(f1.trans hn.fr fun _ q=>q.elim).trans f3 fun _ q=>q.elim
 have n2:=hn.fr.next
 have n3:H3.next=H2.next+1:=by rw [e3,x4]
 rw [hQ]
 refine ⟨fa,.inr ⟨hb,H2.next,wv,by omega,rfl,⟨⟨0,0,0,by rw [e3];exact xa ..⟩,by show H.next<=H2.next;omega,by show H2.next<H3.next;omega,fa,Own.em hn.own f3,fun b q=>⟨?_,?_⟩,Own.nil ..,fun b q=>(q.1 rfl).elim,h.r8,rfl⟩⟩⟩
 ·have:=hn.fresh b q
  show H.next<=b;omega
 ·have:=Own.lt hn.own b q
  show b ≠ H2.next;omega
def endC (wv:AV) (m:SM):List AV:=wv::(m.rs.map uC ++ [.int .i64 m.pc,.int .i64 (m.left:Nat),.int .i64 (m.blk:Nat),.int .i64 (m.err:Nat)])
def endZ:List AV:=[.nils,.int .u64 0,.int .u64 0,.int .u64 0,.int .u64 0,.int .u64 0,.int .u64 0,.int .u64 0,.int .u64 0,.int .i64 0,.int .i64 0,.int .i64 0,.int .i64 0]
end Go.Am
namespace Go.Am
open Lang Go.Proofs
variable {M:Mac} [MK M]
def RunR (H:AHeap) (code:List Ins) (rs ws:List Int) (pc steps:Int) (v:AV) (H':AHeap):Prop:=Fr Em H H' /\
 ((soBad code pc ws steps/\v=.tuple [.agg endZ,.int .i64 2])\/(¬ soBad code pc ws steps /\ ∃ wv,v=.tuple [.agg (endC wv ((SM.init ws rs pc steps.toNat).runs code)),.int .i64 0]/\OwnT encW qbl 1 H' wv ((SM.init ws rs pc steps.toNat).runs code).w /\ ∀ b,OnS wv b->H.next<=b))
theorem qbi:[AV.nils,.int .u64 0,.int .u64 0,.int .u64 0,.int .u64 0,.int .u64 0,.int .u64 0,.int .u64 0,.int .u64 0,.int .i64 0,.int .i64 0,.int .i64 0,.int .i64 0]=endZ:=rfl
theorem bdZ:Op.build endZ [] []=some (.agg endZ):=rfl
theorem qgw {wv:AV} {m:SM} (h:m.rs.length=8):(endC wv m).length=13:=by unfold endC;simp [h]
theorem qqp {wv:AV} {m:SM} (h:oneCell wv=true):allOne (endC wv m)=true:=by
 unfold endC
 rw [qaz,qbk,h,List.all_append,List.all_map]
 simp [uC,oneCell]
theorem st13 {H:AHeap} {b e:Nat} {l x:List AV} (h:H.get b=some (OR l e)) (hl:l.length=13) (hx:x.length=13) (h1:allOne x=true):Op.store 13 [.ptr b 0,.agg x] H=some (.undef,H.set b (OR x e)):=by
 have st:=qcg h (o:=0) (n:=13) (v:=.agg x) (by rw [jg];exact hx) (by omega) (by rw [jg];exact h1)
 rw [st,jg,wg,za,jz (by omega),zy]
theorem ld13 {H:AHeap} {b e:Nat} {l:List AV} (h:H.get b=some (OR l e)) (hl:l.length=13):Op.loadN 13 [.ptr b 0] H=some (.agg l):=by
 rw [wx (xm h) (by omega),kx,xn (by omega)]
theorem soC_end {cv wv bv:AV} {m:SM} {bl bb be:Int} (h:m.rs.length=8) (h':m.brs.length=8):((soC cv wv bv m bl bb be).drop 1).take 13=endC wv m:=by
 obtain ⟨a0,a1,a2,a3,a4,a5,a6,a7,e⟩:=list8 h
 obtain ⟨b0,b1,b2,b3,b4,b5,b6,b7,e'⟩:=list8 h'
 unfold soC endC;rw [e,e'];rfl
theorem qim {H:AHeap} {cv wsv:AV} {code:List Ins} {rs ws:List Int} {pc steps:Int} (h:SoA H cv wsv code rs ws):vg M vh [cv,.agg (rs.map uC),.int .i64 pc,wsv,.int .i64 steps] H (RunR H code rs ws pc steps):=by
 refine qsr ?_
 obtain ⟨w0,wa,wb,w4,w12,w17⟩:=qlr M ⟨none,vh⟩
 obtain ⟨H1,e1⟩:∃ X,X=H.alloc (OR (rs.map uC) T__25):=⟨_,rfl⟩
 obtain ⟨H2,e2⟩:∃ X,X=H1.alloc (OR endZ zf):=⟨_,rfl⟩
 have f1:Fr Em H H1:=by rw [e1];exact (Fr.refl H).alloc _
 have f12:Fr Em H1 H2:=by rw [e2];exact (Fr.refl H1).alloc _
 have f2:Fr Em H H2:=f1.trans f12 fun _ q=>q.elim
 have n1:H1.next=H.next+1:=by rw [e1,x4]
 have n2:H2.next=H.next+2:=by rw [e2,x4,n1]
 have g1:H2.get H.next=some (OR (rs.map uC) T__25):=by rw [f12.keep _ (by omega) id,e1,xa]
 have g2:H2.get (H.next+1)=some (OR endZ zf):=by rw [e2,<-n1,xa]
 have ca:AV.cells (.agg (rs.map uC))=rs.map uC:=jg _
 have l8:=ldRegs h.r8 g1
 simp only [↓qq,ze,reduceIte,Nat.reduceEqDiff,w0,ca,<-e1,qbi,<-e2,l8]
 refine C3.q (qls (M:=M) (h.em f2)) fun v H3 ⟨f3,hv⟩=>?_
 have g3:H3.get (H.next+1)=some (OR endZ zf):=by rw [f3.keep _ (by omega) id];exact g2
 have f03:Fr Em H H3:=f2.trans f3 fun _ q=>q.elim
 have n3:=f3.next
 rcases hv with ⟨hb,rfl⟩|⟨hb,r,wv,hr,rfl,hR⟩
 ·have t2:¬ (2:Int)=0:=by decide
  have s13:=st13 (x:=endZ) g3 rfl rfl rfl
  have l13:=ld13 (xc H3 (H.next+1) (OR endZ zf)) rfl
  simp only [↓qq,ze,reduceIte,Nat.reduceEqDiff,zg,n1,w4,t2,qbi,bdZ,s13,l13]
  exact ⟨f03.set (.inr (by omega)) _,.inl ⟨hb,rfl⟩⟩
 obtain ⟨m,hm⟩:∃ m,m=SM.init ws rs pc steps.toNat:=⟨_,rfl⟩
 have hg:m.good:=by rw [hm];exact qer h.r8 h.rr h.wr hb
 have ho:m.over=false:=by rw [hm];rfl
 rw [<-hm] at hR
 obtain ⟨c,hc⟩:∃ c:SoK,c=⟨H2,r,cv⟩:=⟨_,rfl⟩
 rw [<-hc] at hR
 have c1:c.H0=H2:=by rw [hc]
 have c2:c.r=r:=by rw [hc]
 have c3:c.cv=cv:=by rw [hc]
 obtain ⟨H4,e4⟩:∃ X,X=H3.alloc (OR [.ptr r 0] jj):=⟨_,rfl⟩
 have f4:Fr Em H3 H4:=by rw [e4];exact (Fr.refl H3).alloc _
 have n4:H4.next=H3.next+1:=by rw [e4,x4]
 have g4:H4.get H3.next=some (OR [.ptr c.r 0] jj):=by rw [e4,xa,c2]
 have hR4:=hR.em f4
 have hwl:=Own.lt hR.wo
 have hrl:r<H3.next:=by have:=hR.hi;rw [c2] at this;exact this
 have hlo:=hR.lo
 rw [c1,c2] at hlo
 have hit:=qov (M:=M) (code:=code) hR4 hg ho (by rw [c1];exact h.sh.em f2) (by rw [c1,c3];exact h.cd.em f2) g4 (by omega) (by
  rintro (q|q|q)
  ·rw [c2] at q;omega
  ·have:=hwl _ q;omega
  ·exact q.1 rfl)
 have stp:AV.cells (.ptr r 0)=[.ptr r 0]:=rfl
 simp only [↓qq,ze,reduceIte,Nat.reduceEqDiff,zg,n1,w4,w12]
 refine C3.q (R:=fun v H'=>v=.fn (.func xi) [] [.ptr H3.next 0]/\H'=H4) ?_ fun v H5 ⟨hv,hh⟩=>?_
 ·refine qcn ?_
  have mk:Op.mkFunc xi 0 [.ptr H3.next 0]=some (.fn (.func xi) [] [.ptr H3.next 0]):=rfl
  simp only [↓qq,ze,reduceIte,Nat.reduceEqDiff,qco,stp,<-e4,mk]
  rfl
 subst hv;rw [hh]
 refine RNG3.iterg (fn:=qb4) (lp:=qa8) (pa:=qj9 0) (pb:=qka 0) qp9 qh8.1 qh8.2 (by decide) ⟨rfl,qet qa8.assign⟩ ⟨rfl,qet qa8.body⟩
  (fun V Ha Hb hF hs hn=>hF.loc hs hn) hit (fun _ _ _=>True) (fun _ _ _=>False) (fun _=>False) (qc _) ?_ (fun b q=>q.elim) trivial (fun _ _ _ _ _ _ _=>trivial) (fun _ _ _ _ q _ _=>q) ?_ ?_ (fun e d U Hd _ _ _ _ _ _ q=>q.elim)
 ·rintro b (q|q)
  ·refine ⟨?_,rfl,id⟩
   rcases q with q|q
   ·rw [c1] at q;omega
   ·omega
  ·refine ⟨?_,rfl,id⟩
   rcases q with q|q|q
   ·rw [c2] at q;omega
   ·have:=hwl _ q;omega
   ·exact (q.1 rfl).elim
 ·intro L i lr lb x hx hL U H6 _ hU hf6 hnL hL6 hgL
  rw [xb,qt] at hx
  obtain ⟨y,hy,rfl⟩:=hx
  refine ⟨_,rfl,?_⟩
  obtain ⟨-,wa,wb,-⟩:=qlr M ⟨some L,vh⟩
  simp only [↓qq,ze,reduceIte,Nat.reduceEqDiff,wa,qks]
  refine ⟨hgL,?_⟩
  simp only [↓qq,ze,reduceIte,Nat.reduceEqDiff,wb]
  exact ⟨rfl,xc ..,fun _=>False,fun b q=>q.elim,(Fr.refl H6).set (W:=fun b=>U b\/b=L) (.inl (.inr rfl)) _,.inl ⟨rfl,trivial⟩⟩
 ·intro d U Hd hd1 hd2 hgd hfd hUd _ ⟨V,hV,hF⟩
  obtain ⟨R,hRR⟩:∃ R,R=m.runs code:=⟨_,rfl⟩
  rw [<-hRR] at hF
  have hF0:=hF
  obtain ⟨wv',bv',bl,bb,be,v1,v2,hrow,how,r8,b8⟩:=hF
  have hb1:H.next+1<H4.next:=by omega
  have gb:Hd.get (H.next+1)=some (OR endZ zf):=by
   rw [hfd.keep _ hb1 ?_,f4.keep _ (by omega) id]
   ·exact g3
   ·rintro (q|q|q|q)
    ·exact q
    ·rw [c2] at q;omega
    ·have:=(hR.wf _ q).1;rw [c1] at this;omega
    ·exact q.1 rfl
  rw [c2] at hrow
  have l13:Op.loadN 13 [.ptr r 1] Hd=some (.agg (endC wv' R)):=by
   rw [wx (xm hrow) (by rw [(qh7 r8 b8).2.2.2.2.2.2.2.2.2.2.2];decide),soC_end r8 b8]
  have ow:oneCell wv'=true:=(OwnT.sl how).one
  have s13:=st13 (x:=endC wv' R) gb rfl (qgw r8) (qqp ow)
  have hvlo:∀ b,V b->H2.next<=b:=fun b q=>by
   rcases (hV b q).2.2.2 with w|w
   ·rcases w with w|w|w
    ·rw [w,c2];exact hlo
    ·have:=(hR.wf _ w).1;rw [c1] at this;exact this
    ·exact (w.1 rfl).elim
   ·omega
  obtain ⟨H7,e7⟩:∃ X,X=Hd.set (H.next+1) (OR (endC wv' R) zf):=⟨_,rfl⟩
  rw [<-e7] at s13
  obtain ⟨H8,e8⟩:∃ X,X=H7.set d (.deferred none):=⟨_,rfl⟩
  have gd7:H7.get d=some (.deferred (some [])):=by rw [e7,qcy (by omega)];exact hgd
  have g8:H8.get (H.next+1)=some (OR (endC wv' R) zf):=by rw [e8,qcy (by omega),e7,xc]
  have l8:=ld13 g8 (qgw r8)
  have hF8:SoF c V H8 R:=hF0.loc (fun b q=>by
   have:=hvlo b q
   rw [e8,qcy (Ne.symm (hV b q).2.1),e7,qcy (by omega)]) (by rw [e8,e7];exact qc _)
  have how8:OwnT encW qbl 1 H8 wv' R.w:=Own.fr how (⟨by rw [e8,e7];exact qc _,fun b _ hw=>by
   have q:V b:=kp.1 hw
   have:=hvlo b q
   rw [e8,qcy (Ne.symm (hV b q).2.1),e7,qcy (by omega)]⟩:Fr (fun b=>¬ V b) Hd H8) fun x hx w=>w (v2 x hx).1
  have f8:Fr Em H H8:=by
   have fd:Fr Em H Hd:=⟨qx f03.next (qx f4.next hfd.next),fun b hb _=>by
    rw [hfd.keep b (by omega) ?_,f4.keep b (by omega) id,f03.keep b hb id]
    rintro (q|q|q|q)
    ·exact q
    ·rw [c2] at q;omega
    ·have:=(hR.wf _ q).1;rw [c1] at this;omega
    ·exact q.1 rfl⟩
   rw [e8,e7]
   exact (fd.set (.inr (by omega)) _).set (.inr (by omega)) _
  simp only [↓qq,ze,reduceIte,Nat.reduceEqDiff,w17,xr,l13,s13,qnc,<-e8,l8]
  exact ⟨gd7,f8,.inr ⟨hb,wv',by rw [<-hm,<-hRR],by rw [<-hm,<-hRR];exact how8,fun b q=>by have:=hvlo b (v2 b q).1;omega⟩⟩
end Go.Am
namespace Go.Am
open Lang Go.Proofs
variable {M:Mac} [MK M]
structure ApI (b:Nat) (xs:List Int) (i:Nat) (V:Nat->Prop) (Hx:AHeap):Prop where
 vb:V b
 lt:b<Hx.next
 ls:∃ lv,Hx.get b=some (OR [lv] T__13)/\OwnT encI T_int 1 Hx lv (xs.take i) /\ ∀ a,OnS lv a->V a/\b<a
theorem ApI.loc {b:Nat} {xs:List Int} {i:Nat} {V:Nat->Prop} {H1 H2:AHeap} (h:ApI b xs i V H1) (hs:∀ b,V b->H2.get b=H1.get b) (hn:H1.next<=H2.next):ApI b xs i V H2:=by
 obtain ⟨lv,l1,l2,l3⟩:=h.ls
 refine ⟨h.vb,qf h.lt hn,lv,by rw [hs _ h.vb];exact l1,?_,l3⟩
 exact Own.fr l2 (⟨hn,fun b _ hw=>hs b (kp.1 hw)⟩:Fr (fun b=>¬ V b) H1 H2) fun x hx w=>w (l3 x hx).1
theorem qkg {g:Nat} {cap:List AV} {N O:Nat->Prop} {H0 H:AHeap} {xs:List Int} (hit:ITERO M g [] cap N O H0 (xs.map fun x=>[AV.int .i64 x])) (hn:H0.next<=H.next) (hN:∀ b,N b\/O b->b<H0.next/\H.get b=H0.get b) (hl:xs.length<=100000000) :
 vg M zl [.nils,.fn (.func g) [] cap] H fun v H'=>OwnT encI T_int 1 H' v xs/\Fr O H H' /\ ∀ b,OnS v b->H.next<=b:=by
 refine qei ?_
 obtain ⟨w0,wa,wb,w2,w7⟩:=qby M ⟨none,zl⟩
 obtain ⟨H1,e1⟩:∃ X,X=H.alloc (OR [.nils] T__13):=⟨_,rfl⟩
 have f1:Fr Em H H1:=by rw [e1];exact (Fr.refl H).alloc _
 have n1:H1.next=H.next+1:=by rw [e1,x4]
 have g1:H1.get H.next=some (OR [.nils] T__13):=by rw [e1,xa]
 have ca:AV.cells .nils=[.nils]:=rfl
 simp only [↓qq,ze,reduceIte,Nat.reduceEqDiff,w0,ca,<-e1,w2]
 refine RNG3.iter (fn:=z6) (lp:=zx) (pa:=qbr 0) (pb:=qbs 0) qec qbj.1 qbj.2 (by decide) ⟨rfl,qet zx.assign⟩ ⟨rfl,qet zx.body⟩
  hit (fun i V Hx=>ApI H.next xs i V Hx) (fun _ _ _=>False) (fun b=>b=H.next) (by omega) ?_ ?_ ?_ ?_ ?_ ?_ ?_ ?_
 ·intro b q
  obtain ⟨q1,q2⟩:=hN b q
  exact ⟨q1,by rw [f1.keep _ (by omega) id];exact q2,fun q=>by omega⟩
 ·exact fun b hb=>by omega
 ·exact ⟨rfl,by omega,.nils,g1,Own.nil ..,fun b q=>(q.1 rfl).elim⟩
 ·exact fun i V Ha Hb h hs hn=>h.loc hs hn
 ·exact fun e V Ha Hb h _ _=>h
 ·-- one more
  intro L2 i lr lb x hx hL2 V H4 hPI hV hf4 hnL hL4 hgL
  rw [xb,qt] at hx
  obtain ⟨y,hy,rfl⟩:=hx
  refine ⟨_,rfl,?_⟩
  obtain ⟨-,wa,wb,-⟩:=qby M ⟨some L2,zl⟩
  simp only [↓qq,ze,reduceIte,Nat.reduceEqDiff,wa,qks]
  refine ⟨hgL,?_⟩
  have fx:Fr (On L2) H4 (H4.set L2 lb):=(Fr.refl H4).set (W:=On L2) (.inl rfl) _
  have hP6:=hPI.loc (H2:=H4.set L2 lb) (fun b hb=>fx.keep b (hV b hb).1 (fun (q:b=L2)=>hnL (q ▸ hb))) fx.next
  have gL6:(H4.set L2 lb).get L2=some lb:=xc ..
  have n6:(H4.set L2 lb).next=H4.next:=rfl
  generalize H4.set L2 lb=H6 at *
  obtain ⟨lv,l1,l2,l3⟩:=hP6.ls
  have lq:Op.load1 [.ptr H.next 0] H6=some lv:=by rw [ye (xm l1)];rfl
  have hil:i<xs.length:=(qo.1 hy).1
  have htl:(xs.take i).length<=100000000:=by rw [km];omega
  simp only [↓qq,ze,reduceIte,Nat.reduceEqDiff,wb,lq]
  refine append3 (e:=T_int) (size:=1) (bytes:=8) l2 (zero:=[.int .i64 0]) (x:=.int .i64 y) rfl rfl rfl (by decide) (by omega) (by omega) fun lv' H7 hlv' hf hfr=>?_
  have q7:H7.get H.next=some (OR [lv] T__13):=by rw [hf.keep _ (by have:=hP6.lt;omega) fun q=>by have:=(l3 _ q).2;omega];exact l1
  have o1:oneCell lv'=true:=by have:=Sl.one (Own.sl hlv');exact this
  have oc:lv'.cells=[lv']:=by cases lv'<;>first|rfl|cases o1
  have st8:=qcg q7 (o:=0) (n:=1) (v:=lv') (by rw [oc];rfl) (by simp) (by rw [oc];exact (by rw [qaz,qbk,o1];rfl))
  rw [oc] at st8
  obtain ⟨H8,e8⟩:∃ X,X=H7.set H.next (OR [lv'] T__13):=⟨_,rfl⟩
  have st8:Op.store 1 [.ptr H.next 0,lv'] H7=some (.undef,H8):=by rw [e8];exact st8
  have f8:Fr (On H.next) H7 H8:=by rw [e8];exact (Fr.refl H7).set (W:=On H.next) (.inl rfl) _
  have hlt4:=hPI.lt
  simp only [↓qq,ze,reduceIte,Nat.reduceEqDiff,st8]
  have hgL8:H8.get L2=some lb:=by
   rw [f8.keep L2 (qf (by omega) hf.next) (fun (q:L2=H.next)=>by omega),hf.keep L2 (by omega) fun q=>hnL (l3 _ q).1];exact gL6
  have lo':∀ b,OnS lv' b->H.next<b:=fun b q=>(hfr b q).elim (fun q=>(l3 b q).2) fun q=>by omega
  refine ⟨rfl,hgL8,fun b=>V b\/OnS lv' b,?_,?_,.inl ⟨rfl,⟨.inl hPI.vb,?_,lv',?_,?_,fun b q=>⟨.inr q,lo' b q⟩⟩⟩⟩
  ·rintro b (q|q)
   ·exact ⟨qf (hV b q).1 (by have:=hf.next;have:=f8.next;omega),.inl q⟩
   ·refine ⟨qf (Own.lt hlv' b q) f8.next,?_⟩
    rcases hfr b q with w|w
    ·exact .inl (l3 b w).1
    ·exact .inr (by omega)
  ·have a1:Fr (fun b=>V b\/b=L2) H4 H6:=fx.mono fun x _ q=>.inr q
   exact (a1.trans hf fun x hx=>.inl (.inl (l3 x hx).1)).trans f8 fun x hx=>.inl (.inl (by rw [show x=H.next from hx];exact hPI.vb))
  ·have:=hP6.lt;have:=hf.next;have:=f8.next;omega
  ·rw [e8,xc]
  ·have hx2:xs.take (i+1)=xs.take i ++ [y]:=by rw [List.take_add_one,hy];rfl
   rw [hx2]
   have ow:OwnT encI T_int 1 H7 lv' (xs.take i ++ [y]):=by
    unfold OwnT
    rw [qk,List.flatMap_append]
    exact hlv'
   exact Own.fr ow f8 fun x hx (q:x=H.next)=>by have:=lo' x hx;omega
 ·intro d V Hd hd1 hd2 hgd hfd hVd hPI
  obtain ⟨lv,l1,l2,l3⟩:=hPI.ls
  rw [vc,xn (qc _)] at l2
  have lq:Op.load1 [.ptr H.next 0] Hd=some lv:=by rw [ye (xm l1)];rfl
  simp only [↓qq,ze,reduceIte,Nat.reduceEqDiff,w7,lq,qnc]
  refine ⟨hgd,?_,?_,fun b q=>by have:=(l3 b q).2;omega⟩
  ·exact Own.fr l2 ((Fr.refl Hd).set (W:=On d) (.inl rfl) _) fun x hx (q:x=d)=>(hVd x (l3 x hx).1).2.2 q
  ·have fO:Fr O H Hd:=⟨qx f1.next hfd.next,fun b hb hw=>by rw [hfd.keep b (by omega) fun q=>q.elim (fun q=>by omega) hw,f1.keep b hb id]⟩
   exact fO.set (.inr (by omega)) _
 ·exact fun e d V Hd _ _ _ _ _ _ h=>h.elim
theorem qng {g:Nat} {cap:List AV} {N O:Nat->Prop} {H0 H:AHeap} {xs:List Int} (hit:ITERO M g [] cap N O H0 (xs.map fun x=>[AV.int .i64 x])) (hn:H0.next<=H.next) (hN:∀ b,N b\/O b->b<H0.next/\H.get b=H0.get b) (hl:xs.length<=100000000) :
 vg M ki [.fn (.func g) [] cap] H fun v H'=>OwnT encI T_int 1 H' v xs/\Fr O H H' /\ ∀ b,OnS v b->H.next<=b:=by
 refine qfh ?_
 simp only [↓qq,ze,reduceIte,Nat.reduceEqDiff,qfi]
 refine C3.q (qkg (M:=M) hit hn hN hl) fun v H1 hq=>?_
 simp only [↓qq,ze,reduceIte,Nat.reduceEqDiff]
 exact hq
theorem qjv {code:List Ins}:∀ (n:Nat) (m:SM),(m.places code n).length<=n
 | 0,m=>qc _
 | n+1,m=>by
  unfold SM.places
  cases m.stop code with
  | some x=>exact xu _
  | none=>have:=qjv (code:=code) n (m.pay.take code);simp only [xh];omega
def TrcR (H:AHeap) (code:List Ins) (rs ws:List Int) (pc steps:Int) (v:AV) (H':AHeap):Prop:=Fr Em H H' /\ ∃ lv,v=.tuple [lv,.int .i64 0]/\SlT encI 1 H' lv ((SM.init ws rs pc steps.toNat).places code (steps.toNat+1))
theorem qrl {H:AHeap} {cv wsv:AV} {code:List Ins} {rs ws:List Int} {pc steps:Int} (h:SoA H cv wsv code rs ws) (hb:¬ soBad code pc ws steps):vg M qaa [cv,.agg (rs.map uC),.int .i64 pc,wsv,.int .i64 steps] H (TrcR H code rs ws pc steps):=by
 refine qot ?_
 obtain ⟨w0,w4,w12⟩:=qou M ⟨none,qaa⟩
 obtain ⟨H2,e1⟩:∃ X,X=H.alloc (OR (rs.map uC) T__25):=⟨_,rfl⟩
 have f2:Fr Em H H2:=by rw [e1];exact (Fr.refl H).alloc _
 have n2:H2.next=H.next+1:=by rw [e1,x4]
 have g1:H2.get H.next=some (OR (rs.map uC) T__25):=by rw [e1,xa]
 have ca:AV.cells (.agg (rs.map uC))=rs.map uC:=jg _
 have l8:=ldRegs h.r8 g1
 simp only [↓qq,ze,reduceIte,Nat.reduceEqDiff,w0,ca,<-e1,l8]
 refine C3.q (qls (M:=M) (h.em f2)) fun v H3 ⟨f3,hv⟩=>?_
 have f03:Fr Em H H3:=f2.trans f3 fun _ q=>q.elim
 have n3:=f3.next
 rcases hv with ⟨hb',rfl⟩|⟨_,r,wv,hr,rfl,hR⟩
 ·exact (hb hb').elim
 obtain ⟨m,hm⟩:∃ m,m=SM.init ws rs pc steps.toNat:=⟨_,rfl⟩
 have hg:m.good:=by rw [hm];exact qer h.r8 h.rr h.wr hb
 have ho:m.over=false:=by rw [hm];rfl
 rw [<-hm] at hR
 obtain ⟨c,hc⟩:∃ c:SoK,c=⟨H2,r,cv⟩:=⟨_,rfl⟩
 rw [<-hc] at hR
 have c1:c.H0=H2:=by rw [hc]
 have c2:c.r=r:=by rw [hc]
 have c3:c.cv=cv:=by rw [hc]
 obtain ⟨H4,e4⟩:∃ X,X=H3.alloc (OR [.ptr r 0] jj):=⟨_,rfl⟩
 have f4:Fr Em H3 H4:=by rw [e4];exact (Fr.refl H3).alloc _
 have n4:H4.next=H3.next+1:=by rw [e4,x4]
 have g4:H4.get H3.next=some (OR [.ptr c.r 0] jj):=by rw [e4,xa,c2]
 have hR4:=hR.em f4
 have hwl:=Own.lt hR.wo
 have hrl:r<H3.next:=by have:=hR.hi;rw [c2] at this;exact this
 have hlo:=hR.lo
 rw [c1,c2] at hlo
 have hit:=qov (M:=M) (code:=code) hR4 hg ho (by rw [c1];exact h.sh.em f2) (by rw [c1,c3];exact h.cd.em f2) g4 (by omega) (by
  rintro (q|q|q)
  ·rw [c2] at q;omega
  ·have:=hwl _ q;omega
  ·exact q.1 rfl)
 have stp:AV.cells (.ptr r 0)=[.ptr r 0]:=rfl
 simp only [↓qq,ze,reduceIte,Nat.reduceEqDiff,zg,w4,w12]
 refine C3.q (R:=fun v H'=>v=.fn (.func xi) [] [.ptr H3.next 0]/\H'=H4) ?_ fun v H5 ⟨hv,hh⟩=>?_
 ·refine qcn ?_
  have mk:Op.mkFunc xi 0 [.ptr H3.next 0]=some (.fn (.func xi) [] [.ptr H3.next 0]):=rfl
  simp only [↓qq,ze,reduceIte,Nat.reduceEqDiff,qco,stp,<-e4,mk]
  rfl
 subst hv;rw [hh]
 have hml:m.left=steps.toNat:=by rw [hm];rfl
 have hpl:=qjv (code:=code) (m.left+1) m
 unfold soBad at hb
 refine C3.q (qng (M:=M) (H:=H4) hit.o (qc _) ?_ (by omega)) fun v H6 ⟨how,hf6,hv6⟩=>?_
 ·rintro b (q|q)
  ·refine ⟨?_,rfl⟩
   rcases q with q|q
   ·rw [c1] at q;omega
   ·omega
  ·refine ⟨?_,rfl⟩
   rcases q with q|q|q
   ·rw [c2] at q;omega
   ·have:=hwl _ q;omega
   ·exact (q.1 rfl).elim
 simp only [↓qq,ze,reduceIte,Nat.reduceEqDiff]
 refine ⟨⟨qx f03.next (qx f4.next hf6.next),fun b hb _=>?_⟩,v,rfl,?_⟩
 ·rw [hf6.keep b (by have:=f03.next;omega) ?_,f4.keep b (by have:=f03.next;omega) id,f03.keep b hb id]
  rintro (q|q|q)
  ·rw [c2] at q;omega
  ·have:=(hR.wf _ q).1;rw [c1] at this;omega
  ·exact q.1 rfl
 ·rw [<-hm,<-hml];exact OwnT.sl how
end Go.Am
