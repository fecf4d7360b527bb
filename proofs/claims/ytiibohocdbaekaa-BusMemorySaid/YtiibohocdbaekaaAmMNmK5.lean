/- NmK5: NhA NhB. -/
import Derived.Test.YtiibohocdbaekaaAmMCodeK
import Derived.Test.YtiibohocdbaekaaAmMNmK0
import Derived.Test.YtiibohocdbaekaaAmMNmK2
set_option linter.unusedVariables false
set_option linter.unusedSimpArgs false
set_option linter.unusedSectionVars false
set_option maxRecDepth 100000
open Nat (reduceEqDiff)
namespace Go.Am
open Go.Proofs Ca
variable {M:aL} [MK M]
abbrev uW (x:Int):AV:=.int .u64 x
def aq (e:En):List AV:=.int .i64 e.line::.int .i64 e.st::.bool e.r::.bool e.w::(e.d.l.map uW++(e.o.l.map uW ++ [.int .i64 e.u]))
theorem zt (e:En):(aq e).length=21:=by simp [aq,e.d.h,e.o.h]
theorem mQ (e:En):aX (aq e)=true:=by
 rw [nZ];unfold aq;simp [bn]
theorem E6 {H:AHeap} {s e:Nat} {a:AV} (h:H.get s=some (OR [a] e)) {u:AV} (hu:bn u=true):Op.store 1 [.ptr s 0,u] H=some (.undef,H.set s (OR [u] e)):=by
 have hc:u.cells=[u]:=by cases u<;>first|rfl|cases hu
 have:=oA h (o:=0) (n:=1) (v:=u) (by rw [hc];rfl) (by simp) (by rw [hc,nZ];simpa using hu);rw [this,hc];rfl
theorem BM (b:ah) (Q:aI) (E:Env) (D:List aM) (H:AHeap):mF b Q .normal E D H=Q .normal E D H:=rfl
theorem pW (b:ah) (Q:aI) (E:Env) (D:List aM) (H:AHeap):mF b Q .ret E D H=Q .ret E D H:=rfl
def tv (c:Ca) (sv:AV):List AV:=[.int .i64 (c.dy:Int),.int .i64 (c.ways:Int),sv,.int .i64 c.us]
abbrev eA (sv:AV) (i:Nat):AV:=.ptr (aN sv) (cr 21 sv i)
structure cG (H:AHeap) (b:Nat) (sv:AV) (c:Ca):Prop where
 row:H.get b=some (OR (tv c sv) GS)
 lt:b<H.next
 sl:dp aq qt 21 H sv c.sl
 ne:aN sv ≠ b
 s8:c.dy<=8
 w4:c.ways<=4
 us:0<=c.us/\c.us<=1000000
theorem cG.em {H H':AHeap} {b:Nat} {sv:AV} {c:Ca} (h:cG H b sv c) (f:Fr Em H H'):cG H' b sv c:=⟨by rw [f.ae _ h.lt id];exact h.row,qp h.lt f.next,h.sl.fr f id,h.ne,h.s8,h.w4,h.us⟩
theorem cG.fr {H H':AHeap} {W:Nat->Prop} {b:Nat} {sv:AV} {c:Ca} (h:cG H b sv c) (f:Fr W H H') (h1:¬ W b) (h2:¬ W (aN sv)):cG H' b sv c:=⟨by rw [f.ae _ h.lt h1];exact h.row,qp h.lt f.next,h.sl.fr f h2,h.ne,h.s8,h.w4,h.us⟩
theorem cG.ix {H:AHeap} {b:Nat} {sv:AV} {c:Ca} (h:cG H b sv c) {i:Nat} (hi:i<c.sl.length):Op.aP 21 [sv,.int .i64 (i:Int)]=some (eA sv i):=(h.sl.sl zt).idx (wI hi) rfl .i64
theorem cG.ld {H:AHeap} {b:Nat} {sv:AV} {c:Ca} (h:cG H b sv c) {i:Nat} (hi:i<c.sl.length) {k:Nat} (hk:k<21):Op.aa [.ptr (aN sv) (cr 21 sv i+k)] H=(aq (c.en i))[k]?:=(h.sl.sl zt).aa zt (wI hi) hk
theorem cG.xJ {H:AHeap} {b:Nat} {sv:AV} {c:Ca} (h:cG H b sv c) {i:Nat} (hi:i<c.sl.length):Op.aa [.ptr (aN sv) (cr 21 sv i)] H=some (.int .i64 (c.en i).line):=(h.sl.sl zt).mh zt (wI hi) (by decide)
theorem yh (b o:Nat) (H:AHeap):Op.eq .ptr false [.ptr b o,.nilp] H=some (.bool false):=rfl
theorem iN (b o:Nat) (H:AHeap):Op.eq .ptr true [.ptr b o,.nilp] H=some (.bool true):=rfl
theorem IX (H:AHeap):Op.eq .ptr false [.nilp,.nilp] H=some (.bool true):=rfl
theorem nq (H:AHeap):Op.eq .ptr true [.nilp,.nilp] H=some (.bool false):=rfl
def JQ (R:Nat->(Nat->Prop)->AHeap->Prop) (S:(Nat->Prop)->AHeap->Prop) (W0 O:Nat->Prop) (H:AHeap) (n:Nat) (v:AV) (H':AHeap):Prop:=∃ W':Nat->Prop,Fr (λ b=>W0 b\/O b) H H'/\(∀ b,W' b->b<H'.next/\(W0 b\/H.next<=b))/\(R n W' H'\/S W' H')
def jJ (c:Ca) (sv:AV) (line:Int):List (List AV):=if line<0 then [] else (List.range c.ways).map λ k=>[eA sv (c.fr line+k)]
structure JR (R:Nat->(Nat->Prop)->AHeap->Prop) (W0:Nat->Prop) (H1 Hx:AHeap) (i:Nat) (V:Nat->Prop):Prop where
 hR:R i V Hx
 hV:∀ b,V b->b<Hx.next/\(W0 b\/H1.next<=b)
 fr:Fr W0 H1 Hx
theorem q2s {H0:AHeap} {p q b:Nat} {sv:AV} {c:Ca} {lines line:Int} (hc:cG H0 b sv c) (hci:CI lines c) (hp:H0.get p=some (OR [.ptr b 0] vy)) (hq:H0.get q=some (OR [.int .i64 line] cV)) (hpl:p<H0.next) (hql:q<H0.next) :
 ny M yw [] [.ptr p 0,.ptr q 0] (λ x=>x=p\/x=q\/x=b) (λ _=>False) H0 (jJ c sv line):=by
 intro Y R S W0 H1 hnx hN hR0 hW0 loc locS step;obtain ⟨p1,p2,p3⟩:=hN p (.inl (.inl rfl));obtain ⟨q1,q2,q3⟩:=hN q (.inl (.inr (.inl rfl)));obtain ⟨b1,b2,b3⟩:=hN b (.inl (.inr (.inr rfl)))
 suffices h:jx M yw [.fn (.yield Y) [] [],.ptr p 0,.ptr q 0] H1 (JQ R S W0 (λ _=>False) H1 (jJ c sv line).length) by
  obtain ⟨v,H',hc,W',q1,q2,q3⟩:=h.elim;exact ⟨v,H',W',hc,q1,q2,q3⟩
 refine qtj ?_;obtain ⟨w0,w6,w12,w18,w27⟩:=qtk M ⟨none,yw⟩;have lp:∀ {Hx:AHeap},Fr W0 H1 Hx->Op.aa [.ptr p 0] Hx=some (.ptr b 0):=λ f=>by rw [ze (xb (by rw [f.ae _ (by omega) p3,p2];exact hp))];rfl
 have lq:∀ {Hx:AHeap},Fr W0 H1 Hx->Op.aa [.ptr q 0] Hx=some (.int .i64 line):=λ f=>by rw [ze (xb (by rw [f.ae _ (by omega) q3,q2];exact hq))];rfl
 have lb:∀ {Hx:AHeap} (k:Nat),Fr W0 H1 Hx->Op.aa [.ptr b k] Hx=(tv c sv)[k]?:=λ k f=>ze (xb (by rw [f.ae _ (by omega) b3,b2];exact hc.row)) k;have r0:=Fr.refl (W:=W0) H1
 by_cases hl:line<0
 ·simp only [↓qi,xd,reduceIte,reduceEqDiff,w0,lp r0,yh,lq r0,hl];exact ⟨W0,Fr.refl _,λ b hb=>⟨hW0 b hb,.inl hb⟩,.inl (by unfold jJ;rw [qm hl];exact hR0)⟩
 have hsl:(jJ c sv line)=(List.range c.ways).map λ k=>[eA sv (c.fr line+k)]:=by unfold jJ;rw [qe hl]
 rw [hsl] at step ⊢;rw [zg,yj];have l0:Op.aa [.ptr b 0] H1=some (.int .i64 (c.dy:Int)):=lb 0 r0;have l1:Op.aa [.ptr b 1] H1=some (.int .i64 (c.ways:Int)):=lb 1 r0;have rm:Op.bin .rem [.int .i64 line,.int .i64 (c.dy:Int)]=some (.int .i64 ((line.toNat % c.dy:Nat):Int)):=by
  have:=hci.s0;obtain ⟨n,rfl⟩:=ke (Int.not_lt.1 hl);rw [A7 .i64 _ _ (by omega)];rfl
 have hmod:line.toNat % c.dy<c.dy:=ry _ hci.s0;have h8:=hc.s8;have h4:=hc.w4;have hfr:(line.toNat % c.dy)*c.ways<=7*4:=Nat.mul_le_mul (by omega) h4;have wm:aW .i64 (((line.toNat % c.dy:Nat):Int)*(c.ways:Int))=((c.fr line:Nat):Int):=by
  rw [<-Int.natCast_mul];exact vl (by omega) (by omega)
 have hfr':c.fr line<=28:=hfr;simp only [↓qi,xd,reduceIte,reduceEqDiff,w0,lp r0,yh,qg,lq r0,hl,w6,l0,l1,rm,wm];refine bu.intro (λ n E Hx=>∃ (i:Nat) (V:Nat->Prop),E=[(27,.int .i64 (i:Int)),(26,.int .i64 (c.ways:Int)),(4,.int .i64 ((c.fr line:Nat):Int)),(0,.fn (.yield Y) [] []),(1,.ptr p 0)]/\n=c.ways-i/\i<=c.ways/\JR R W0 H1 Hx i V) ?_ ?_
 ·exact ⟨_,_,⟨0,W0,rfl,rfl,zq _,⟨hR0,λ b hb=>⟨hW0 b hb,.inl hb⟩,Fr.refl _⟩⟩,by simp only [↓qi,xd,reduceIte,reduceEqDiff]⟩
 rintro n E Hx ⟨i,V,rfl,rfl,hi,hI⟩;rcases jr i c.ways with hlt|hge
 ·have c1:(i:Int)<(c.ways:Int):=by omega
  have l2:Op.aa [.ptr b 2] Hx=some sv:=lb 2 hI.fr;have wi:aW .i64 (((c.fr line:Nat):Int)+(i:Int))=((c.fr line+i:Nat):Int):=by rw [vl (by omega) (by omega)];omega
  have ix:=hc.ix (hci.fR line hlt);obtain ⟨bb,H2,W2,hr,hf,hW2,ht,hs⟩:=step i [eA sv (c.fr line+i)] (by rw [xj,vn hlt];rfl) V Hx hI.hR hI.hV (hI.fr.mono λ _ _ q=>.inl q);have fr2:Fr W0 H1 H2:=hI.fr.trans hf λ b q=>(hI.hV b q).2;have hV2:∀ b,W2 b->b<H2.next/\(W0 b\/H1.next<=b):=λ b q=>⟨(hW2 b q).1,(hW2 b q).2.elim (λ w=>(hI.hV b w).2) λ w=>.inr (xu hI.fr.next w)⟩
  have wj:aW .i64 ((i:Int)+1)=((i+1:Nat):Int):=by rw [vl (by omega) (by omega)];omega
  simp only [↓qi,xd,reduceIte,reduceEqDiff,w12,c1,w18,lp hI.fr,qg,l2,wi,ix];refine C3.Aa hr ?_;cases bb with
  | true =>
   simp only [↓qi,xd,reduceIte,reduceEqDiff,w27,wj];exact ⟨_,_,⟨i+1,W2,rfl,rfl,by omega,⟨ht rfl,hV2,fr2⟩⟩,by simp only [↓qi,xd,reduceIte,reduceEqDiff],by omega⟩
  | false =>
   simp only [↓qi,xd,reduceIte,reduceEqDiff];exact ⟨W2,fr2.mono λ _ _ q=>.inl q,hV2,.inr (hs rfl)⟩
 ·have c1:¬ (i:Int)<(c.ways:Int):=by omega
  have hiw:i=c.ways:=by omega
  simp only [↓qi,xd,reduceIte,reduceEqDiff,w12,c1];exact ⟨V,hI.fr.mono λ _ _ q=>.inl q,hI.hV,.inl (by rw [<-hiw];exact hI.hR)⟩
theorem q5s {H:AHeap} (b:Nat) (line:Int):jx M EZ [.ptr b 0,.int .i64 line] H λ v H'=>v=.fn (.func yw) [] [.ptr H.next 0,.ptr (H.next+1) 0]/\H'=(H.alloc (OR [.ptr b 0] vy)).alloc (OR [.int .i64 line] cV):=by
 refine qxy ?_;obtain ⟨H1,e1⟩:∃ X,X=H.alloc (OR [.ptr b 0] vy):=⟨_,rfl⟩
 have n1:H1.next=H.next+1:=by rw [e1,xp]
 have ca:AV.cells (.ptr b 0)=[.ptr b 0]:=rfl;have cb:AV.cells (.int .i64 line)=[.int .i64 line]:=rfl;have mk:Op.bZ yw 0 [.ptr H.next 0,.ptr (H.next+1) 0]=some (.fn (.func yw) [] [.ptr H.next 0,.ptr (H.next+1) 0]):=rfl;simp only [↓qi,xd,reduceIte,reduceEqDiff,qxz,ca,cb,<-e1,n1,mk];rfl
structure AtI (c:Ca) (line:Int) (t:Nat) (i:Nat) (V:Nat->Prop) (Hx:AHeap):Prop where
 vt:V t
 g:Hx.get t=some (OR [.nilp] jm)
 lt:t<Hx.next
 no:∀ k,k<i->c.iF line k=false
structure AtS (c:Ca) (sv:AV) (line:Int) (t:Nat) (V:Nat->Prop) (Hx:AHeap):Prop where
 vt:V t
 ex:∃ k,k<c.ways/\cq (c.iF line) c.ways=some k/\Hx.get t=some (OR [eA sv (c.fr line+k)] jm)
 lt:t<Hx.next
def od (c:Ca) (sv:AV) (line:Int):AV:=match c.pos line with
 | none=>.nilp
 | some i=>eA sv i
theorem K6 {H:AHeap} {b:Nat} {sv:AV} {c:Ca} {lines line:Int} (hc:cG H b sv c) (hci:CI lines c):jx M tL [.ptr b 0,.int .i64 line] H λ v H'=>v=od c sv line/\Fr Em H H':=by
 refine qzt ?_;obtain ⟨w0,wa,wb,w2,w7⟩:=qqg M ⟨none,tL⟩;obtain ⟨H1,e1⟩:∃ X,X=H.alloc (OR [.int .i64 line] cV):=⟨_,rfl⟩
 obtain ⟨H2,e2⟩:∃ X,X=H1.alloc (OR [.nilp] jm):=⟨_,rfl⟩
 have f1:Fr Em H H1:=by rw [e1];exact (Fr.refl H).alloc _
 have f12:Fr Em H1 H2:=by rw [e2];exact (Fr.refl H1).alloc _
 have f2:Fr Em H H2:=f1.trans f12 λ _ q=>q.elim;have n1:H1.next=H.next+1:=by rw [e1,xp]
 have n2:H2.next=H.next+2:=by rw [e2,xp,n1]
 have g1:H2.get H.next=some (OR [.int .i64 line] cV):=by rw [f12.ae _ (by omega) id,e1,qy]
 have g2:H2.get (H.next+1)=some (OR [.nilp] jm):=by rw [e2,<-n1,qy]
 have cl:AV.cells (.int .i64 line)=[.int .i64 line]:=rfl;have l1:Op.aa [.ptr H.next 0] H2=some (.int .i64 line):=ze (xb g1) 0;simp only [↓qi,xd,reduceIte,reduceEqDiff,w0,cl,<-e1,<-e2,n1,w2,l1];refine C3.q (q5s (M:=M) b line) λ v H5 ⟨hv,hh⟩=>?_;obtain ⟨H3,e3⟩:∃ X,X=H2.alloc (OR [.ptr b 0] vy):=⟨_,rfl⟩
 obtain ⟨H4,e4⟩:∃ X,X=H3.alloc (OR [.int .i64 line] cV):=⟨_,rfl⟩
 rw [<-e3,<-e4] at hh;rw [hv,hh];have f23:Fr Em H2 H3:=by rw [e3];exact (Fr.refl H2).alloc _
 have f34:Fr Em H3 H4:=by rw [e4];exact (Fr.refl H3).alloc _
 have f24:Fr Em H2 H4:=f23.trans f34 λ _ q=>q.elim;have f4:Fr Em H H4:=f2.trans f24 λ _ q=>q.elim;have n3:H3.next=H.next+3:=by rw [e3,xp,n2]
 have n4:H4.next=H.next+4:=by rw [e4,xp,n3]
 have g3:H4.get H2.next=some (OR [.ptr b 0] vy):=by rw [f34.ae _ (by omega) id,e3,qy]
 have g4:H4.get (H2.next+1)=some (OR [.int .i64 line] cV):=by rw [show H2.next+1=H3.next by omega,e4,qy]
 have hc4:=hc.em f4;have hlt:=hc.lt;have hsb:aN sv<H.next:=hc.sl.lt
 have kp:∀ {Hx:AHeap},Fr (λ x=>(x=H.next+1)\/False) H4 Hx->cG Hx b sv c/\Op.aa [.ptr H.next 0] Hx=some (.int .i64 line):=λ f =>
  ⟨hc4.fr f (λ q=>q.elim (λ q=>by omega) id) (λ q=>q.elim (λ q=>by omega) id),ze (xb (by rw [f.ae H.next (by omega) (λ q=>q.elim (λ q=>by omega) id),f24.ae _ (by omega) id];exact g1)) 0⟩
 have res:∀ {d:Nat} {Hx:AHeap} {x:AV},Hx.get (H.next+1)=some (OR [x] jm)->d ≠ H.next+1->Op.aa [.ptr (H.next+1) 0] (Hx.set d (.deferred none))=some x:=λ g hd=>by
  rw [ze (xb (by rw [vk hd];exact g))];rfl
 refine eK.iter (fn:=CG) (lp:=ER) (pa:=qo3 0) (pb:=qo4 0) qxw qnk.1 qnk.2 (by decide) ⟨rfl,p7 ER.assign⟩ ⟨rfl,p7 ER.body⟩
  (q2s (M:=M) hc4 hci g3 g4 (by omega) (by omega)) (λ i V Hx=>AtI c line (H.next+1) i V Hx) (λ e V Hx=>e=.ret/\AtS c sv line (H.next+1) V Hx) (λ x=>x=H.next+1) (qh _) ?_ ?_ ?_ ?_ ?_ ?_ ?_ ?_
 ·rintro x ((q|q|q) | q)
  ·exact ⟨by omega,rfl,by omega⟩
  ·exact ⟨by omega,rfl,by omega⟩
  ·exact ⟨by omega,rfl,by omega⟩
  ·exact q.elim
 ·exact λ x hx=>by omega
 ·exact ⟨rfl,by rw [f24.ae _ (by omega) id];exact g2,by omega,λ k hk=>by omega⟩
 ·exact λ i V Ha Hb h hs hn=>⟨h.vt,by rw [hs _ h.vt];exact h.g,qp h.lt hn,h.no⟩
 ·rintro e V Ha Hb ⟨he,h⟩ hs hn;obtain ⟨k,k1,k2,k3⟩:=h.ex;exact ⟨he,h.vt,⟨k,k1,k2,by rw [hs _ h.vt];exact k3⟩,qp h.lt hn⟩
 ·intro L2 i lr lb x hx hL2 V H6 hP hV hf6 hnL hL6 hgL;unfold jJ at hx;split at hx
  ·simp at hx
  rename_i hl;rw [xj,xh] at hx;obtain ⟨y,hy,rfl⟩:=hx;have hiw:i<c.ways:=by have:=(qj.1 hy).1;rw [yj] at this;exact this
  rw [vn hiw] at hy;injection hy with hy;subst hy
  refine ⟨_,rfl,?_⟩;obtain ⟨-,wa,wb,-⟩:=qqg M ⟨some L2,tL⟩;simp only [↓qi,xd,reduceIte,reduceEqDiff,wa,Fu];refine ⟨hgL,?_⟩;have fx:Fr (On L2) H6 (H6.set L2 lb):=(Fr.refl H6).set (W:=On L2) (.inl rfl) _;have gL:(H6.set L2 lb).get L2=some lb:=xe ..;have nL:(H6.set L2 lb).next=H6.next:=rfl
  obtain ⟨hc6,lq6⟩:=kp hf6;have h7:cG (H6.set L2 lb) b sv c:=hc6.fr fx (λ (q:b=L2)=>by omega) (λ (q:aN sv=L2)=>by omega);have lq7:Op.aa [.ptr H.next 0] (H6.set L2 lb)=some (.int .i64 line):=by
   have hg:(H6.set L2 lb).get H.next=H6.get H.next:=by rw [vk (by omega)]
   exact ze (xb (by rw [hg,hf6.ae H.next (by omega) (λ q=>q.elim (λ q=>by omega) id),f24.ae _ (by omega) id];exact g1)) 0
  have hLt:L2 ≠ H.next+1:=λ q=>hnL (by rw [q];exact hP.vt)
  have hgt:(H6.set L2 lb).get (H.next+1)=some (OR [.nilp] jm):=by rw [vk hLt];exact hP.g
  generalize H6.set L2 lb=H7 at *;have hi:=hci.fR line hiw;obtain ⟨e,he⟩:∃ e,e=c.en (c.fr line+i):=⟨_,rfl⟩
  have l0:Op.aa [.ptr (aN sv) (cr 21 sv (c.fr line+i))] H7=some (.int .i64 e.line):=by rw [he];exact h7.xJ hi
  have l1:Op.aa [.ptr (aN sv) (cr 21 sv (c.fr line+i)+1)] H7=some (.int .i64 e.st):=by rw [he];exact h7.ld hi (k:=1) (by decide)
  have hhit:c.iF line i=(e.st != 0 && e.line == line):=by rw [he];rfl
  have stay:c.iF line i=false->IH (λ V Hx=>AtI c line (H.next+1) (i+1) V Hx) (λ e V Hx=>e=.ret/\AtS c sv line (H.next+1) V Hx) L2 lb V H6 .normal [] [] H7:=λ hh =>
   ⟨rfl,gL,V,λ b hb=>⟨by rw [nL];exact (hV b hb).1,.inl hb⟩,fx.mono λ x _ q=>.inr q,.inl ⟨rfl,hP.vt,hgt,by rw [nL];exact hP.lt,λ k hk=>by
    by_cases q:k=i
    ·rw [q];exact hh
    ·exact hP.no k (by omega)⟩⟩
  by_cases q1:e.st=0
  ·simp only [↓qi,xd,reduceIte,reduceEqDiff,wb,qg,l1,xf q1];exact stay (by rw [hhit,q1];rfl)
  by_cases q2:e.line=line
  ·have st:=E6 hgt (u:=eA sv (c.fr line+i)) rfl;simp only [↓qi,xd,reduceIte,reduceEqDiff,wb,qg,l1,q1,l0,lq7,xf q2,st];refine ⟨rfl,?_,V,?_,?_,.inr ⟨trivial,rfl,hP.vt,⟨i,hiw,FX hiw (by rw [hhit];simp [q1,q2]) hP.no,xe ..⟩,?_⟩⟩
   ·rw [vk (ve hLt)];exact gL
   ·exact λ b hb=>⟨by show b<H7.next;rw [nL];exact (hV b hb).1,.inl hb⟩
   ·exact (fx.mono λ x _ q=>.inr q).set (.inl (.inl hP.vt)) _
   ·show H.next+1<H7.next;rw [nL];exact hP.lt
  ·simp only [↓qi,xd,reduceIte,reduceEqDiff,wb,qg,l1,q1,l0,lq7,q2];exact stay (by rw [hhit];simp [q2])
 ·intro d V Hd hd1 hd2 hgd hfd hVd hP;have st:=E6 hP.g (u:=.nilp) rfl;have hdt:d ≠ H.next+1:=λ q=>by have:=(hVd _ hP.vt).2.2;omega
  have gd:(Hd.set (H.next+1) (OR [.nilp] jm)).get d=some (.deferred (some [])):=by rw [vk (ve hdt)];exact hgd
  have rd:=res (d:=d) (xe Hd (H.next+1) (OR [.nilp] jm)) hdt;have hpos:c.pos line=none:=by
   unfold Ca.pos;split
   ·rfl
   ·rename_i hl;have hno:=hP.no;unfold jJ at hno;rw [qe hl,zg,yj] at hno;rw [CY hno];rfl
  simp only [↓qi,xd,reduceIte,reduceEqDiff,w7,st,AZ,rd];refine ⟨gd,?_,?_⟩
  ·unfold od;rw [hpos]
  ·exact (((f4.trans (W':=λ x=>x=H.next+1\/False) hfd λ x q=>q.elim (λ q=>.inr (by omega)) False.elim).set (.inr (by omega)) _).set (.inr (by omega)) _)
 ·rintro e d V Hd hj hd1 hd2 hgd hfd hVd ⟨he,hS⟩;subst he;obtain ⟨k,k1,k2,k3⟩:=hS.ex;have hdt:d ≠ H.next+1:=λ q=>by have:=(hVd _ hS.vt).2.2;omega
  have rd:=res (d:=d) k3 hdt;have hpos:od c sv line=eA sv (c.fr line+k):=by
   unfold od Ca.pos
   by_cases hl:line<0
   ·exfalso;obtain ⟨q1,q2,-⟩:=Cp k2;unfold Ca.iF at q2;simp only [xq,bne_iff_ne,ne_eq,BQ] at q2;have:=(hci.ok _ (hci.fR line k1) q2.1).2.1;omega
   ·rw [qe hl,k2];rfl
  simp only [↓qi,xd,reduceIte,reduceEqDiff,AZ,rd];refine ⟨hgd,hpos.symm,?_⟩;exact ((f4.trans (W':=λ x=>x=H.next+1\/False) hfd λ x q=>q.elim (λ q=>.inr (by omega)) False.elim).set (.inr (by omega)) _)
end Go.Am
namespace Go.Am
open Go.Proofs Ca
variable {M:aL} [MK M]
theorem fG {H:AHeap} {b e n:Nat} {l x:List AV} (h:H.get b=some (OR l e)) (hl:l.length=n) (hx:x.length=n) (h1:aX x=true):Op.store n [.ptr b 0,.agg x] H=some (.undef,H.set b (OR x e)):=by
 have st:=oA h (o:=0) (n:=n) (v:=.agg x) (by rw [x9];exact hx) (by omega) (by rw [x9];exact h1);rw [st,x9,CN,je,j3 (by omega),zb]
theorem fm {H:AHeap} {b e n:Nat} {l:List AV} (h:H.get b=some (OR l e)) (hl:l.length=n):Op.ao n [.ptr b 0] H=some (.agg l):=by
 rw [qJ (xb h) (by omega),FJ,zh (by omega)]
theorem zB (l:List AV):Op.build l [] []=some (.agg l):=rfl
theorem eZ:[AV.int .i64 0,.int .i64 0,.bool false,.bool false,.int .u64 0,.int .u64 0,.int .u64 0,.int .u64 0,.int .u64 0,.int .u64 0,.int .u64 0,.int .u64 0,.int .u64 0,.int .u64 0,.int .u64 0,.int .u64 0,.int .u64 0,.int .u64 0,.int .u64 0,.int .u64 0,.int .i64 0]=aq .zero:=rfl
abbrev bS (d:L8):List AV:=d.l.map uW
theorem ku (d:L8):(bS d).length=8:=by simp [bS,d.h]
theorem nN (d:L8):aX (bS d)=true:=by rw [nZ];simp [bS,bn]
theorem lZ:[AV.int .u64 0,.int .u64 0,.int .u64 0,.int .u64 0,.int .u64 0,.int .u64 0,.int .u64 0,.int .u64 0]=bS .zero:=rfl
def iy (b:Nat) (sv:AV):Nat->Prop:=λ x=>x=b\/x=aN sv
section
variable {H:AHeap} {b:Nat} {sv:AV} {c:Ca} {lines line:Int}
theorem cG.set (h:cG H b sv c) {i:Nat} {e:En} {H':AHeap} (hs:dp aq qt 21 H' sv (c.sl.set i e)) (f:Fr (On (aN sv)) H H'):cG H' b sv (c.set i e) :=
 ⟨by rw [f.ae _ h.lt (λ q:b=aN sv=>h.ne q.symm)];exact h.row,qp h.lt f.next,hs,h.ne,h.s8,h.w4,h.us⟩
theorem cG.bV (h:cG H b sv c) {i:Nat} (hi:i<c.sl.length) {j:Nat} (hj:j<21) {u:AV} (hu:bn u=true) {e:En} (he:aq e=(aq (c.en i)).set j u):∃ H',Op.store 1 [.ptr (aN sv) (cr 21 sv i+j),u] H=some (.undef,H')/\cG H' b sv (c.set i e)/\Fr (On (aN sv)) H H':=by
 obtain ⟨H',a1,a2,a3⟩:=h.sl.Al zt (wI hi) hj hu he;exact ⟨H',a1,h.set a2 a3,a3⟩
theorem cG.Ka (h:cG H b sv c) {i:Nat} (hi:i<c.sl.length) {j n:Nat} {u:AV} (hu:u.cells.length=n) (ho:aX u.cells=true) (hj:j+n<=21) {e:En} (he:aq e=(aq (c.en i)).take j++u.cells++(aq (c.en i)).drop (j+n)):∃ H',Op.store n [.ptr (aN sv) (cr 21 sv i+j),u] H=some (.undef,H')/\cG H' b sv (c.set i e)/\Fr (On (aN sv)) H H':=by
 obtain ⟨H',a1,a2,a3⟩:=h.sl.yQ zt (wI hi) hu ho hj he;exact ⟨H',a1,h.set a2 a3,a3⟩
theorem cG.stE (h:cG H b sv c) {i:Nat} (hi:i<c.sl.length) (e:En):∃ H',Op.store 21 [.ptr (aN sv) (cr 21 sv i),.agg (aq e)] H=some (.undef,H')/\cG H' b sv (c.set i e)/\Fr (On (aN sv)) H H':=by
 obtain ⟨H',a1,a2,a3⟩:=h.sl.HZ zt mQ (wI hi) e;exact ⟨H',a1,h.set a2 a3,a3⟩
theorem cG.stU (h:cG H b sv c) {u:Int} (hu:0<=u/\u<=1000000):∃ H',Op.store 1 [.ptr b 3,.int .i64 u] H=some (.undef,H')/\cG H' b sv { c with us:=u }/\Fr (On b) H H':=by
 have st:=oA h.row (o:=3) (n:=1) (v:=.int .i64 u) rfl (by simp [tv]) rfl;have e:(tv c sv).take 3++(AV.int .i64 u).cells++(tv c sv).drop (3+1)=tv { c with us:=u } sv:=rfl;rw [e] at st;have f:Fr (On b) H (H.set b (OR (tv { c with us:=u } sv) GS)):=(Fr.refl H).set (W:=On b) (.inl rfl) _;exact ⟨_,st,⟨xe ..,h.lt,h.sl.fr f λ (q:aN sv=b)=>h.ne q,h.ne,h.s8,h.w4,hu⟩,f⟩
theorem cG.Jw (h:cG H b sv c) (k:Nat):Op.aa [.ptr b k] H=(tv c sv)[k]?:=ze (xb h.row) k
theorem cG.Mr (h:cG H b sv c) {i:Nat} (hi:i<c.sl.length):Op.ao 21 [.ptr (aN sv) (cr 21 sv i)] H=some (.agg (aq (c.en i))):=(h.sl.sl zt).ao zt (by decide) (wI hi)
theorem cG.cells (h:cG H b sv c) {i:Nat} (hi:i<c.sl.length) {j n:Nat} (hj:j+n<=21):Op.ao n [.ptr (aN sv) (cr 21 sv i+j)] H=some (.agg (((aq (c.en i)).drop j).take n)):=by
 obtain ⟨sb,e,h1,h2⟩:=h.sl;have hb:aN sv=sb:=by rw [e];rfl
 have ho:cr 21 sv i=i*21:=by rw [e];simp [cr]
 have hb2:(i+1)*21<=c.sl.length*21:=kc _ hi;have hl:=xQ zt c.sl;rw [hb,ho,qJ (xb h2) (by omega)];have hm:=q2a (L:=c.sl.flatMap aq) (E:=aq (c.en i)) (p:=i*21) (size:=21) (zt _) (by omega) (λ r hr=>Ch zt c.sl (wI hi) hr);have hA:((c.sl.flatMap aq).take (i*21)).length=i*21:=by rw [j6];omega
 have e1:(c.sl.flatMap aq).drop (i*21+j)=(aq (c.en i)).drop j++(c.sl.flatMap aq).drop (i*21+21):=by
  conv=>lhs;rw [hm]
  rw [vz,hA,j3 (by omega),je,yc,kx (by rw [zt];omega)]
 rw [e1,j7 (by rw [j5,zt];omega)]
theorem cG.GG (h:cG H b sv c) {i:Nat} (hi:i<c.sl.length):Op.ao 8 [.ptr (aN sv) (cr 21 sv i+4)] H=some (.agg (bS (c.en i).d)):=by
 rw [h.cells hi (by decide)];have:((aq (c.en i)).drop 4).take 8=bS (c.en i).d:=by
  show ((bS (c.en i).d++(bS (c.en i).o ++ [AV.int .i64 (c.en i).u]))).take 8=_;rw [List.take_left' (ku _)]
 rw [this]
theorem cG.ldO (h:cG H b sv c) {i:Nat} (hi:i<c.sl.length):Op.ao 8 [.ptr (aN sv) (cr 21 sv i+12)] H=some (.agg (bS (c.en i).o)):=by
 rw [h.cells hi (by decide)];have:((aq (c.en i)).drop 12).take 8=bS (c.en i).o:=by
  have e:(aq (c.en i)).drop 12=(bS (c.en i).d++(bS (c.en i).o ++ [AV.int .i64 (c.en i).u])).drop 8:=rfl;rw [e,List.drop_left' (ku _),List.take_left' (ku _)]
 rw [this]
def yU (c:Ca) (sv:AV) (line st:Int):AV:=match c.fE line st with
 | none=>.tuple [.nilp,.int .i64 20]
 | some i=>.tuple [eA sv i,.int .i64 0]
theorem EL (hc:cG H b sv c) (hci:CI lines c) (line st:Int):jx M wh [.ptr b 0,.int .i64 line,.int .i64 st] H λ v H'=>v=yU c sv line st/\Fr Em H H':=by
 refine qzv ?_;obtain ⟨w0,w2,w10,w12,w20⟩:=qzw M ⟨none,wh⟩;simp only [↓qi,xd,reduceIte,reduceEqDiff,w0,w2,yh,w10];refine C3.q (K6 (M:=M) (line:=line) hc hci) λ v H1 ⟨hv,f1⟩=>?_;rw [hv];unfold od yU fE;cases hp:c.pos line with
 | none =>
  simp only [↓qi,xd,reduceIte,reduceEqDiff,w12,IX];exact f1
 | some i =>
  obtain ⟨-,hi,-⟩:=hci.aV hp;have l1:Op.aa [.ptr (aN sv) (cr 21 sv i+1)] H1=some (.int .i64 (c.en i).st):=(hc.em f1).ld hi (by decide)
  by_cases h0:st=0
  ·subst h0;simp only [↓qi,xd,reduceIte,reduceEqDiff,w12,yh,w20];exact f1
  by_cases h1:(c.en i).st=st
  ·simp only [↓qi,xd,reduceIte,reduceEqDiff,w12,yh,h0,qg,l1,xf h1,w20];exact f1
  ·simp only [↓qi,xd,reduceIte,reduceEqDiff,w12,yh,h0,qg,l1,h1];exact f1
abbrev CaQ (H:AHeap) (b:Nat) (sv:AV) (c':Ca) (r:AV):AV->AHeap->Prop:=λ v H'=>v=r/\cG H' b sv c'/\Fr (iy b sv) H H'
theorem nX {H1 H2:AHeap} (f:Fr (On (aN sv)) H1 H2):Fr (iy b sv) H1 H2:=f.mono λ _ _ q=>.inr q
theorem frB {H1 H2:AHeap} (f:Fr (On b) H1 H2):Fr (iy b sv) H1 H2:=f.mono λ _ _ q=>.inl q
theorem lP {H1 H2:AHeap} (f:Fr Em H1 H2):Fr (iy b sv) H1 H2:=f.mono λ _ _ q=>q.elim
theorem nY {H1 H2 H3:AHeap} (f:Fr (iy b sv) H1 H2) (g:Fr (iy b sv) H2 H3):Fr (iy b sv) H1 H3:=f.trans g λ _ q=>.inl q
theorem K0 (hc:cG H b sv c) (hu:c.us+1<=1000000) {i:Nat} (hi:i<c.sl.length):jx M AU [.ptr b 0,eA sv i] H λ _ H'=>cG H' b sv (c.use i)/\Fr (iy b sv) H H':=by
 refine qx1 ?_;have l3:Op.aa [.ptr b 3] H=some (.int .i64 c.us):=hc.Jw 3;have:=hc.us;have w1:aW .i64 (c.us+1)=c.us+1:=vl (by omega) (by omega);obtain ⟨H1,s1,h1,f1⟩:=hc.stU (u:=c.us+1) (by omega);have l3':Op.aa [.ptr b 3] H1=some (.int .i64 (c.us+1)):=h1.Jw 3;obtain ⟨H2,s2,h2,f2⟩:=h1.bV hi (j:=20) (by decide) (u:=.int .i64 (c.us+1)) rfl (e:={ c.en i with u:=c.us+1 }) (by
  show aq { c.en i with u:=c.us+1 } = (aq (c.en i)).set 20 _;obtain ⟨line,st,r,w,⟨d,hd⟩,⟨o,ho⟩,u⟩:=c.en i
  match d,hd,o,ho with
  | [d0,d1,d2,d3,d4,d5,d6,d7],_,[o0,o1,o2,o3,o4,o5,o6,o7],_=>rfl)
 simp only [↓qi,xd,reduceIte,reduceEqDiff,qx2,qg,l3,w1,s1,l3',s2];exact ⟨h2,nY (frB f1) (nX f2)⟩
def iC (c:Ca) (line:Int):AV:=match c.find line with
 | none=>.tuple [.agg (aq .zero),.bool false]
 | some e=>.tuple [.agg (aq e),.bool true]
theorem Iz (hc:cG H b sv c) (hci:CI lines c) (line:Int):jx M vr [.ptr b 0,.int .i64 line] H λ v H'=>v=iC c line/\Fr Em H H':=by
 refine qv0 ?_;obtain ⟨w0,w4,w12⟩:=qv1 M ⟨none,vr⟩;obtain ⟨H1,e1⟩:∃ X,X=H.alloc (OR (aq .zero) qt):=⟨_,rfl⟩
 have f1:Fr Em H H1:=by rw [e1];exact (Fr.refl H).alloc _
 have n1:H1.next=H.next+1:=by rw [e1,xp]
 have g1:H1.get H.next=some (OR (aq .zero) qt):=by rw [e1,qy]
 simp only [↓qi,xd,reduceIte,reduceEqDiff,w0,eZ,<-e1];refine C3.q (K6 (M:=M) (line:=line) (hc.em f1) hci) λ v H2 ⟨hv,f2⟩=>?_;rw [hv];have g2:H2.get H.next=some (OR (aq .zero) qt):=by rw [f2.ae _ (by omega) id];exact g1
 have f12:Fr Em H H2:=f1.trans f2 λ _ q=>q.elim;unfold od iC Ca.find;cases hp:c.pos line with
 | none =>
  have st:=fG g2 (zt _) (zt .zero) (mQ _);have ld:=fm (xe H2 H.next (OR (aq .zero) qt)) (zt _);simp only [↓qi,xd,reduceIte,reduceEqDiff,w4,IX,eZ,zB,st,ld];exact ⟨rfl,f12.set (.inr (qh _)) _⟩
 | some i =>
  obtain ⟨-,hi,-⟩:=hci.aV hp;have le:=(hc.em f12).Mr hi;have st:=fG g2 (zt _) (zt (c.en i)) (mQ _);have ld:=fm (xe H2 H.next (OR (aq (c.en i)) qt)) (zt _);simp only [↓qi,xd,reduceIte,reduceEqDiff,w4,yh,w12,qg,le,st,ld];exact ⟨rfl,f12.set (.inr (qh _)) _⟩
end
end Go.Am
