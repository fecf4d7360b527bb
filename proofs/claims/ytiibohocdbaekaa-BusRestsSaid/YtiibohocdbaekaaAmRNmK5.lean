/- NmK5: NhA NhB. -/
import Derived.Test.YtiibohocdbaekaaAmRCodeK
import Derived.Test.YtiibohocdbaekaaAmRNmK0
import Derived.Test.YtiibohocdbaekaaAmRNmK2
set_option linter.unusedVariables false
set_option linter.unusedSimpArgs false
set_option linter.unusedSectionVars false
set_option maxRecDepth 100000
open Nat (reduceEqDiff)
namespace Go.Am
open Go.Proofs Ca
variable {M:aO} [MK M]
abbrev uW (x:Int):AV:=.int .u64 x
def aA (e:En):List AV:=.int .i64 e.line::.int .i64 e.st::.bool e.r::.bool e.w::(e.d.l.map uW++(e.o.l.map uW ++ [.int .i64 e.u]))
theorem ja (e:En):(aA e).length=21:=by simp [aA,e.d.h,e.o.h]
theorem qS (e:En):ba (aA e)=true:=by
 rw [nU];unfold aA;simp [br]
theorem Ge {H:AHeap} {s e:Nat} {a:AV} (h:H.get s=some (OR [a] e)) {u:AV} (hu:br u=true):Op.store 1 [.ptr s 0,u] H=some (.undef,H.set s (OR [u] e)):=by
 have hc:u.cells=[u]:=by cases u<;>first|rfl|cases hu
 have:=po h (o:=0) (n:=1) (v:=u) (by rw [hc];rfl) (by simp) (by rw [hc,nU];simpa using hu);rw [this,hc];rfl
theorem G0 (b:ah) (Q:aJ) (E:Env) (D:List aL) (H:AHeap):oi b Q .normal E D H=Q .normal E D H:=rfl
theorem rX (b:ah) (Q:aJ) (E:Env) (D:List aL) (H:AHeap):oi b Q .ret E D H=Q .ret E D H:=rfl
def tF (c:Ca) (sv:AV):List AV:=[.int .i64 (c.dk:Int),.int .i64 (c.ways:Int),sv,.int .i64 c.us]
abbrev eA (sv:AV) (i:Nat):AV:=.ptr (aM sv) (cu 21 sv i)
structure cK (H:AHeap) (b:Nat) (sv:AV) (c:Ca):Prop where
 row:H.get b=some (OR (tF c sv) Iu)
 lt:b<H.next
 sl:dA aA qt 21 H sv c.sl
 ne:aM sv ≠ b
 s8:c.dk<=8
 w4:c.ways<=4
 us:0<=c.us/\c.us<=1000000
theorem cK.em {H H':AHeap} {b:Nat} {sv:AV} {c:Ca} (h:cK H b sv c) (f:Fr Em H H'):cK H' b sv c:=⟨by rw [f.ae _ h.lt id];exact h.row,qn h.lt f.next,h.sl.fr f id,h.ne,h.s8,h.w4,h.us⟩
theorem cK.fr {H H':AHeap} {W:Nat->Prop} {b:Nat} {sv:AV} {c:Ca} (h:cK H b sv c) (f:Fr W H H') (h1:¬ W b) (h2:¬ W (aM sv)):cK H' b sv c:=⟨by rw [f.ae _ h.lt h1];exact h.row,qn h.lt f.next,h.sl.fr f h2,h.ne,h.s8,h.w4,h.us⟩
theorem cK.ix {H:AHeap} {b:Nat} {sv:AV} {c:Ca} (h:cK H b sv c) {i:Nat} (hi:i<c.sl.length):Op.aS 21 [sv,.int .i64 (i:Int)]=some (eA sv i):=(h.sl.sl ja).idx (wL hi) rfl .i64
theorem cK.ld {H:AHeap} {b:Nat} {sv:AV} {c:Ca} (h:cK H b sv c) {i:Nat} (hi:i<c.sl.length) {k:Nat} (hk:k<21):Op.aa [.ptr (aM sv) (cu 21 sv i+k)] H=(aA (c.en i))[k]?:=(h.sl.sl ja).aa ja (wL hi) hk
theorem cK.yR {H:AHeap} {b:Nat} {sv:AV} {c:Ca} (h:cK H b sv c) {i:Nat} (hi:i<c.sl.length):Op.aa [.ptr (aM sv) (cu 21 sv i)] H=some (.int .i64 (c.en i).line):=(h.sl.sl ja).lT ja (wL hi) (by decide)
theorem yk (b o:Nat) (H:AHeap):Op.eq .ptr false [.ptr b o,.nilp] H=some (.bool false):=rfl
theorem iP (b o:Nat) (H:AHeap):Op.eq .ptr true [.ptr b o,.nilp] H=some (.bool true):=rfl
theorem Jz (H:AHeap):Op.eq .ptr false [.nilp,.nilp] H=some (.bool true):=rfl
theorem nD (H:AHeap):Op.eq .ptr true [.nilp,.nilp] H=some (.bool false):=rfl
def Ma (R:Nat->(Nat->Prop)->AHeap->Prop) (S:(Nat->Prop)->AHeap->Prop) (W0 O:Nat->Prop) (H:AHeap) (n:Nat) (v:AV) (H':AHeap):Prop:=∃ W':Nat->Prop,Fr (λ b=>W0 b\/O b) H H'/\(∀ b,W' b->b<H'.next/\(W0 b\/H.next<=b))/\(R n W' H'\/S W' H')
def jP (c:Ca) (sv:AV) (line:Int):List (List AV):=if line<0 then [] else (List.range c.ways).map λ k=>[eA sv (c.fr line+k)]
structure Me (R:Nat->(Nat->Prop)->AHeap->Prop) (W0:Nat->Prop) (H1 Hx:AHeap) (i:Nat) (V:Nat->Prop):Prop where
 hR:R i V Hx
 hV:∀ b,V b->b<Hx.next/\(W0 b\/H1.next<=b)
 fr:Fr W0 H1 Hx
theorem q2l {H0:AHeap} {p q b:Nat} {sv:AV} {c:Ca} {lines line:Int} (hc:cK H0 b sv c) (hci:CI lines c) (hp:H0.get p=some (OR [.ptr b 0] wc)) (hq:H0.get q=some (OR [.int .i64 line] dF)) (hpl:p<H0.next) (hql:q<H0.next) :
 pX M yw [] [.ptr p 0,.ptr q 0] (λ x=>x=p\/x=q\/x=b) (λ _=>False) H0 (jP c sv line):=by
 intro Y R S W0 H1 hnx hN hR0 hW0 loc locS step;obtain ⟨p1,p2,p3⟩:=hN p (.inl (.inl rfl));obtain ⟨q1,q2,q3⟩:=hN q (.inl (.inr (.inl rfl)));obtain ⟨b1,b2,b3⟩:=hN b (.inl (.inr (.inr rfl)))
 suffices h:jv M yw [.fn (.yield Y) [] [],.ptr p 0,.ptr q 0] H1 (Ma R S W0 (λ _=>False) H1 (jP c sv line).length) by
  obtain ⟨v,H',hc,W',q1,q2,q3⟩:=h.elim;exact ⟨v,H',W',hc,q1,q2,q3⟩
 refine qs8 ?_;obtain ⟨w0,w6,w12,w18,w27⟩:=qs9 M ⟨none,yw⟩;have lp:∀ {Hx:AHeap},Fr W0 H1 Hx->Op.aa [.ptr p 0] Hx=some (.ptr b 0):=λ f=>by rw [zf (xb (by rw [f.ae _ (by omega) p3,p2];exact hp))];rfl
 have lq:∀ {Hx:AHeap},Fr W0 H1 Hx->Op.aa [.ptr q 0] Hx=some (.int .i64 line):=λ f=>by rw [zf (xb (by rw [f.ae _ (by omega) q3,q2];exact hq))];rfl
 have lb:∀ {Hx:AHeap} (k:Nat),Fr W0 H1 Hx->Op.aa [.ptr b k] Hx=(tF c sv)[k]?:=λ k f=>zf (xb (by rw [f.ae _ (by omega) b3,b2];exact hc.row)) k;have r0:=Fr.refl (W:=W0) H1
 by_cases hl:line<0
 ·simp only [↓qh,xa,reduceIte,reduceEqDiff,w0,lp r0,yk,lq r0,hl];exact ⟨W0,Fr.refl _,λ b hb=>⟨hW0 b hb,.inl hb⟩,.inl (by unfold jP;rw [qm hl];exact hR0)⟩
 have hsl:(jP c sv line)=(List.range c.ways).map λ k=>[eA sv (c.fr line+k)]:=by unfold jP;rw [qd hl]
 rw [hsl] at step ⊢;rw [zb,yl];have l0:Op.aa [.ptr b 0] H1=some (.int .i64 (c.dk:Int)):=lb 0 r0;have l1:Op.aa [.ptr b 1] H1=some (.int .i64 (c.ways:Int)):=lb 1 r0;have rm:Op.bin .rem [.int .i64 line,.int .i64 (c.dk:Int)]=some (.int .i64 ((line.toNat % c.dk:Nat):Int)):=by
  have:=hci.s0;obtain ⟨n,rfl⟩:=kj (Int.not_lt.1 hl);rw [BE .i64 _ _ (by omega)];rfl
 have hmod:line.toNat % c.dk<c.dk:=zH _ hci.s0;have h8:=hc.s8;have h4:=hc.w4;have hfr:(line.toNat % c.dk)*c.ways<=7*4:=Nat.mul_le_mul (by omega) h4;have wm:aZ .i64 (((line.toNat % c.dk:Nat):Int)*(c.ways:Int))=((c.fr line:Nat):Int):=by
  rw [<-Int.natCast_mul];exact wx (by omega) (by omega)
 have hfr':c.fr line<=28:=hfr;simp only [↓qh,xa,reduceIte,reduceEqDiff,w0,lp r0,yk,qf,lq r0,hl,w6,l0,l1,rm,wm];refine bG.intro (λ n E Hx=>∃ (i:Nat) (V:Nat->Prop),E=[(27,.int .i64 (i:Int)),(26,.int .i64 (c.ways:Int)),(4,.int .i64 ((c.fr line:Nat):Int)),(0,.fn (.yield Y) [] []),(1,.ptr p 0)]/\n=c.ways-i/\i<=c.ways/\Me R W0 H1 Hx i V) ?_ ?_
 ·exact ⟨_,_,⟨0,W0,rfl,rfl,zl _,⟨hR0,λ b hb=>⟨hW0 b hb,.inl hb⟩,Fr.refl _⟩⟩,by simp only [↓qh,xa,reduceIte,reduceEqDiff]⟩
 rintro n E Hx ⟨i,V,rfl,rfl,hi,hI⟩;rcases jp i c.ways with hlt|hge
 ·have c1:(i:Int)<(c.ways:Int):=by omega
  have l2:Op.aa [.ptr b 2] Hx=some sv:=lb 2 hI.fr;have wi:aZ .i64 (((c.fr line:Nat):Int)+(i:Int))=((c.fr line+i:Nat):Int):=by rw [wx (by omega) (by omega)];omega
  have ix:=hc.ix (hci.fV line hlt);obtain ⟨bb,H2,W2,hr,hf,hW2,ht,hs⟩:=step i [eA sv (c.fr line+i)] (by rw [xm,vv hlt];rfl) V Hx hI.hR hI.hV (hI.fr.mono λ _ _ q=>.inl q);have fr2:Fr W0 H1 H2:=hI.fr.trans hf λ b q=>(hI.hV b q).2;have hV2:∀ b,W2 b->b<H2.next/\(W0 b\/H1.next<=b):=λ b q=>⟨(hW2 b q).1,(hW2 b q).2.elim (λ w=>(hI.hV b w).2) λ w=>.inr (xt hI.fr.next w)⟩
  have wj:aZ .i64 ((i:Int)+1)=((i+1:Nat):Int):=by rw [wx (by omega) (by omega)];omega
  simp only [↓qh,xa,reduceIte,reduceEqDiff,w12,c1,w18,lp hI.fr,qf,l2,wi,ix];refine C3.EN hr ?_;cases bb with
  | true =>
   simp only [↓qh,xa,reduceIte,reduceEqDiff,w27,wj];exact ⟨_,_,⟨i+1,W2,rfl,rfl,by omega,⟨ht rfl,hV2,fr2⟩⟩,by simp only [↓qh,xa,reduceIte,reduceEqDiff],by omega⟩
  | false =>
   simp only [↓qh,xa,reduceIte,reduceEqDiff];exact ⟨W2,fr2.mono λ _ _ q=>.inl q,hV2,.inr (hs rfl)⟩
 ·have c1:¬ (i:Int)<(c.ways:Int):=by omega
  have hiw:i=c.ways:=by omega
  simp only [↓qh,xa,reduceIte,reduceEqDiff,w12,c1];exact ⟨V,hI.fr.mono λ _ _ q=>.inl q,hI.hV,.inl (by rw [<-hiw];exact hI.hR)⟩
theorem q5r {H:AHeap} (b:Nat) (line:Int):jv M CE [.ptr b 0,.int .i64 line] H λ v H'=>v=.fn (.func yw) [] [.ptr H.next 0,.ptr (H.next+1) 0]/\H'=(H.alloc (OR [.ptr b 0] wc)).alloc (OR [.int .i64 line] dF):=by
 refine qxm ?_;obtain ⟨H1,e1⟩:∃ X,X=H.alloc (OR [.ptr b 0] wc):=⟨_,rfl⟩
 have n1:H1.next=H.next+1:=by rw [e1,xn]
 have ca:AV.cells (.ptr b 0)=[.ptr b 0]:=rfl;have cb:AV.cells (.int .i64 line)=[.int .i64 line]:=rfl;have mk:Op.cB yw 0 [.ptr H.next 0,.ptr (H.next+1) 0]=some (.fn (.func yw) [] [.ptr H.next 0,.ptr (H.next+1) 0]):=rfl;simp only [↓qh,xa,reduceIte,reduceEqDiff,qxn,ca,cb,<-e1,n1,mk];rfl
structure AtI (c:Ca) (line:Int) (t:Nat) (i:Nat) (V:Nat->Prop) (Hx:AHeap):Prop where
 vt:V t
 g:Hx.get t=some (OR [.nilp] jj)
 lt:t<Hx.next
 no:∀ k,k<i->c.iI line k=false
structure AtS (c:Ca) (sv:AV) (line:Int) (t:Nat) (V:Nat->Prop) (Hx:AHeap):Prop where
 vt:V t
 ex:∃ k,k<c.ways/\cr (c.iI line) c.ways=some k/\Hx.get t=some (OR [eA sv (c.fr line+k)] jj)
 lt:t<Hx.next
def pn (c:Ca) (sv:AV) (line:Int):AV:=match c.pos line with
 | none=>.nilp
 | some i=>eA sv i
theorem Og {H:AHeap} {b:Nat} {sv:AV} {c:Ca} {lines line:Int} (hc:cK H b sv c) (hci:CI lines c):jv M sS [.ptr b 0,.int .i64 line] H λ v H'=>v=pn c sv line/\Fr Em H H':=by
 refine qzl ?_;obtain ⟨w0,wa,wb,w2,w7⟩:=qp7 M ⟨none,sS⟩;obtain ⟨H1,e1⟩:∃ X,X=H.alloc (OR [.int .i64 line] dF):=⟨_,rfl⟩
 obtain ⟨H2,e2⟩:∃ X,X=H1.alloc (OR [.nilp] jj):=⟨_,rfl⟩
 have f1:Fr Em H H1:=by rw [e1];exact (Fr.refl H).alloc _
 have f12:Fr Em H1 H2:=by rw [e2];exact (Fr.refl H1).alloc _
 have f2:Fr Em H H2:=f1.trans f12 λ _ q=>q.elim;have n1:H1.next=H.next+1:=by rw [e1,xn]
 have n2:H2.next=H.next+2:=by rw [e2,xn,n1]
 have g1:H2.get H.next=some (OR [.int .i64 line] dF):=by rw [f12.ae _ (by omega) id,e1,qx]
 have g2:H2.get (H.next+1)=some (OR [.nilp] jj):=by rw [e2,<-n1,qx]
 have cl:AV.cells (.int .i64 line)=[.int .i64 line]:=rfl;have l1:Op.aa [.ptr H.next 0] H2=some (.int .i64 line):=zf (xb g1) 0;simp only [↓qh,xa,reduceIte,reduceEqDiff,w0,cl,<-e1,<-e2,n1,w2,l1];refine C3.q (q5r (M:=M) b line) λ v H5 ⟨hv,hh⟩=>?_;obtain ⟨H3,e3⟩:∃ X,X=H2.alloc (OR [.ptr b 0] wc):=⟨_,rfl⟩
 obtain ⟨H4,e4⟩:∃ X,X=H3.alloc (OR [.int .i64 line] dF):=⟨_,rfl⟩
 rw [<-e3,<-e4] at hh;rw [hv,hh];have f23:Fr Em H2 H3:=by rw [e3];exact (Fr.refl H2).alloc _
 have f34:Fr Em H3 H4:=by rw [e4];exact (Fr.refl H3).alloc _
 have f24:Fr Em H2 H4:=f23.trans f34 λ _ q=>q.elim;have f4:Fr Em H H4:=f2.trans f24 λ _ q=>q.elim;have n3:H3.next=H.next+3:=by rw [e3,xn,n2]
 have n4:H4.next=H.next+4:=by rw [e4,xn,n3]
 have g3:H4.get H2.next=some (OR [.ptr b 0] wc):=by rw [f34.ae _ (by omega) id,e3,qx]
 have g4:H4.get (H2.next+1)=some (OR [.int .i64 line] dF):=by rw [show H2.next+1=H3.next by omega,e4,qx]
 have hc4:=hc.em f4;have hlt:=hc.lt;have hsb:aM sv<H.next:=hc.sl.lt
 have kp:∀ {Hx:AHeap},Fr (λ x=>(x=H.next+1)\/False) H4 Hx->cK Hx b sv c/\Op.aa [.ptr H.next 0] Hx=some (.int .i64 line):=λ f =>
  ⟨hc4.fr f (λ q=>q.elim (λ q=>by omega) id) (λ q=>q.elim (λ q=>by omega) id),zf (xb (by rw [f.ae H.next (by omega) (λ q=>q.elim (λ q=>by omega) id),f24.ae _ (by omega) id];exact g1)) 0⟩
 have res:∀ {d:Nat} {Hx:AHeap} {x:AV},Hx.get (H.next+1)=some (OR [x] jj)->d ≠ H.next+1->Op.aa [.ptr (H.next+1) 0] (Hx.set d (.deferred none))=some x:=λ g hd=>by
  rw [zf (xb (by rw [wq hd];exact g))];rfl
 refine fw.iter (fn:=CX) (lp:=Cw) (pa:=qou 0) (pb:=qov 0) qxk qne.1 qne.2 (by decide) ⟨rfl,sD Cw.assign⟩ ⟨rfl,sD Cw.body⟩
  (q2l (M:=M) hc4 hci g3 g4 (by omega) (by omega)) (λ i V Hx=>AtI c line (H.next+1) i V Hx) (λ e V Hx=>e=.ret/\AtS c sv line (H.next+1) V Hx) (λ x=>x=H.next+1) (qg _) ?_ ?_ ?_ ?_ ?_ ?_ ?_ ?_
 ·rintro x ((q|q|q) | q)
  ·exact ⟨by omega,rfl,by omega⟩
  ·exact ⟨by omega,rfl,by omega⟩
  ·exact ⟨by omega,rfl,by omega⟩
  ·exact q.elim
 ·exact λ x hx=>by omega
 ·exact ⟨rfl,by rw [f24.ae _ (by omega) id];exact g2,by omega,λ k hk=>by omega⟩
 ·exact λ i V Ha Hb h hs hn=>⟨h.vt,by rw [hs _ h.vt];exact h.g,qn h.lt hn,h.no⟩
 ·rintro e V Ha Hb ⟨he,h⟩ hs hn;obtain ⟨k,k1,k2,k3⟩:=h.ex;exact ⟨he,h.vt,⟨k,k1,k2,by rw [hs _ h.vt];exact k3⟩,qn h.lt hn⟩
 ·intro L2 i lr lb x hx hL2 V H6 hP hV hf6 hnL hL6 hgL;unfold jP at hx;split at hx
  ·simp at hx
  rename_i hl;rw [xm,xf] at hx;obtain ⟨y,hy,rfl⟩:=hx;have hiw:i<c.ways:=by have:=(ql.1 hy).1;rw [yl] at this;exact this
  rw [vv hiw] at hy;injection hy with hy;subst hy
  refine ⟨_,rfl,?_⟩;obtain ⟨-,wa,wb,-⟩:=qp7 M ⟨some L2,sS⟩;simp only [↓qh,xa,reduceIte,reduceEqDiff,wa,GS];refine ⟨hgL,?_⟩;have fx:Fr (On L2) H6 (H6.set L2 lb):=(Fr.refl H6).set (W:=On L2) (.inl rfl) _;have gL:(H6.set L2 lb).get L2=some lb:=xd ..;have nL:(H6.set L2 lb).next=H6.next:=rfl
  obtain ⟨hc6,lq6⟩:=kp hf6;have h7:cK (H6.set L2 lb) b sv c:=hc6.fr fx (λ (q:b=L2)=>by omega) (λ (q:aM sv=L2)=>by omega);have lq7:Op.aa [.ptr H.next 0] (H6.set L2 lb)=some (.int .i64 line):=by
   have hg:(H6.set L2 lb).get H.next=H6.get H.next:=by rw [wq (by omega)]
   exact zf (xb (by rw [hg,hf6.ae H.next (by omega) (λ q=>q.elim (λ q=>by omega) id),f24.ae _ (by omega) id];exact g1)) 0
  have hLt:L2 ≠ H.next+1:=λ q=>hnL (by rw [q];exact hP.vt)
  have hgt:(H6.set L2 lb).get (H.next+1)=some (OR [.nilp] jj):=by rw [wq hLt];exact hP.g
  generalize H6.set L2 lb=H7 at *;have hi:=hci.fV line hiw;obtain ⟨e,he⟩:∃ e,e=c.en (c.fr line+i):=⟨_,rfl⟩
  have l0:Op.aa [.ptr (aM sv) (cu 21 sv (c.fr line+i))] H7=some (.int .i64 e.line):=by rw [he];exact h7.yR hi
  have l1:Op.aa [.ptr (aM sv) (cu 21 sv (c.fr line+i)+1)] H7=some (.int .i64 e.st):=by rw [he];exact h7.ld hi (k:=1) (by decide)
  have hhit:c.iI line i=(e.st != 0 && e.line == line):=by rw [he];rfl
  have stay:c.iI line i=false->IQ (λ V Hx=>AtI c line (H.next+1) (i+1) V Hx) (λ e V Hx=>e=.ret/\AtS c sv line (H.next+1) V Hx) L2 lb V H6 .normal [] [] H7:=λ hh =>
   ⟨rfl,gL,V,λ b hb=>⟨by rw [nL];exact (hV b hb).1,.inl hb⟩,fx.mono λ x _ q=>.inr q,.inl ⟨rfl,hP.vt,hgt,by rw [nL];exact hP.lt,λ k hk=>by
    by_cases q:k=i
    ·rw [q];exact hh
    ·exact hP.no k (by omega)⟩⟩
  by_cases q1:e.st=0
  ·simp only [↓qh,xa,reduceIte,reduceEqDiff,wb,qf,l1,xj q1];exact stay (by rw [hhit,q1];rfl)
  by_cases q2:e.line=line
  ·have st:=Ge hgt (u:=eA sv (c.fr line+i)) rfl;simp only [↓qh,xa,reduceIte,reduceEqDiff,wb,qf,l1,q1,l0,lq7,xj q2,st];refine ⟨rfl,?_,V,?_,?_,.inr ⟨trivial,rfl,hP.vt,⟨i,hiw,Fx hiw (by rw [hhit];simp [q1,q2]) hP.no,xd ..⟩,?_⟩⟩
   ·rw [wq (vp hLt)];exact gL
   ·exact λ b hb=>⟨by show b<H7.next;rw [nL];exact (hV b hb).1,.inl hb⟩
   ·exact (fx.mono λ x _ q=>.inr q).set (.inl (.inl hP.vt)) _
   ·show H.next+1<H7.next;rw [nL];exact hP.lt
  ·simp only [↓qh,xa,reduceIte,reduceEqDiff,wb,qf,l1,q1,l0,lq7,q2];exact stay (by rw [hhit];simp [q2])
 ·intro d V Hd hd1 hd2 hgd hfd hVd hP;have st:=Ge hP.g (u:=.nilp) rfl;have hdt:d ≠ H.next+1:=λ q=>by have:=(hVd _ hP.vt).2.2;omega
  have gd:(Hd.set (H.next+1) (OR [.nilp] jj)).get d=some (.deferred (some [])):=by rw [wq (vp hdt)];exact hgd
  have rd:=res (d:=d) (xd Hd (H.next+1) (OR [.nilp] jj)) hdt;have hpos:c.pos line=none:=by
   unfold Ca.pos;split
   ·rfl
   ·rename_i hl;have hno:=hP.no;unfold jP at hno;rw [qd hl,zb,yl] at hno;rw [Ce hno];rfl
  simp only [↓qh,xa,reduceIte,reduceEqDiff,w7,st,DD,rd];refine ⟨gd,?_,?_⟩
  ·unfold pn;rw [hpos]
  ·exact (((f4.trans (W':=λ x=>x=H.next+1\/False) hfd λ x q=>q.elim (λ q=>.inr (by omega)) False.elim).set (.inr (by omega)) _).set (.inr (by omega)) _)
 ·rintro e d V Hd hj hd1 hd2 hgd hfd hVd ⟨he,hS⟩;subst he;obtain ⟨k,k1,k2,k3⟩:=hS.ex;have hdt:d ≠ H.next+1:=λ q=>by have:=(hVd _ hS.vt).2.2;omega
  have rd:=res (d:=d) k3 hdt;have hpos:pn c sv line=eA sv (c.fr line+k):=by
   unfold pn Ca.pos
   by_cases hl:line<0
   ·exfalso;obtain ⟨q1,q2,-⟩:=Dg k2;unfold Ca.iI at q2;simp only [xk,bne_iff_ne,ne_eq,A5] at q2;have:=(hci.ok _ (hci.fV line k1) q2.1).2.1;omega
   ·rw [qd hl,k2];rfl
  simp only [↓qh,xa,reduceIte,reduceEqDiff,DD,rd];refine ⟨hgd,hpos.symm,?_⟩;exact ((f4.trans (W':=λ x=>x=H.next+1\/False) hfd λ x q=>q.elim (λ q=>.inr (by omega)) False.elim).set (.inr (by omega)) _)
end Go.Am
namespace Go.Am
open Go.Proofs Ca
variable {M:aO} [MK M]
theorem iw {H:AHeap} {b e n:Nat} {l x:List AV} (h:H.get b=some (OR l e)) (hl:l.length=n) (hx:x.length=n) (h1:ba x=true):Op.store n [.ptr b 0,.agg x] H=some (.undef,H.set b (OR x e)):=by
 have st:=po h (o:=0) (n:=n) (v:=.agg x) (by rw [xw];exact hx) (by omega) (by rw [xw];exact h1);rw [st,xw,Dm,zt,j6 (by omega),x9]
theorem fQ {H:AHeap} {b e n:Nat} {l:List AV} (h:H.get b=some (OR l e)) (hl:l.length=n):Op.aq n [.ptr b 0] H=some (.agg l):=by
 rw [wF (xb h) (by omega),Fu,zw (by omega)]
theorem xB (l:List AV):Op.build l [] []=some (.agg l):=rfl
theorem eZ:[AV.int .i64 0,.int .i64 0,.bool false,.bool false,.int .u64 0,.int .u64 0,.int .u64 0,.int .u64 0,.int .u64 0,.int .u64 0,.int .u64 0,.int .u64 0,.int .u64 0,.int .u64 0,.int .u64 0,.int .u64 0,.int .u64 0,.int .u64 0,.int .u64 0,.int .u64 0,.int .i64 0]=aA .zero:=rfl
abbrev cN (d:L8):List AV:=d.l.map uW
theorem iu (d:L8):(cN d).length=8:=by simp [cN,d.h]
theorem rn (d:L8):ba (cN d)=true:=by rw [nU];simp [cN,br]
theorem lZ:[AV.int .u64 0,.int .u64 0,.int .u64 0,.int .u64 0,.int .u64 0,.int .u64 0,.int .u64 0,.int .u64 0]=cN .zero:=rfl
def iC (b:Nat) (sv:AV):Nat->Prop:=λ x=>x=b\/x=aM sv
section
variable {H:AHeap} {b:Nat} {sv:AV} {c:Ca} {lines line:Int}
theorem cK.set (h:cK H b sv c) {i:Nat} {e:En} {H':AHeap} (hs:dA aA qt 21 H' sv (c.sl.set i e)) (f:Fr (On (aM sv)) H H'):cK H' b sv (c.set i e) :=
 ⟨by rw [f.ae _ h.lt (λ q:b=aM sv=>h.ne q.symm)];exact h.row,qn h.lt f.next,hs,h.ne,h.s8,h.w4,h.us⟩
theorem cK.b9 (h:cK H b sv c) {i:Nat} (hi:i<c.sl.length) {j:Nat} (hj:j<21) {u:AV} (hu:br u=true) {e:En} (he:aA e=(aA (c.en i)).set j u):∃ H',Op.store 1 [.ptr (aM sv) (cu 21 sv i+j),u] H=some (.undef,H')/\cK H' b sv (c.set i e)/\Fr (On (aM sv)) H H':=by
 obtain ⟨H',a1,a2,a3⟩:=h.sl.zC ja (wL hi) hj hu he;exact ⟨H',a1,h.set a2 a3,a3⟩
theorem cK.Kc (h:cK H b sv c) {i:Nat} (hi:i<c.sl.length) {j n:Nat} {u:AV} (hu:u.cells.length=n) (ho:ba u.cells=true) (hj:j+n<=21) {e:En} (he:aA e=(aA (c.en i)).take j++u.cells++(aA (c.en i)).drop (j+n)):∃ H',Op.store n [.ptr (aM sv) (cu 21 sv i+j),u] H=some (.undef,H')/\cK H' b sv (c.set i e)/\Fr (On (aM sv)) H H':=by
 obtain ⟨H',a1,a2,a3⟩:=h.sl.zX ja (wL hi) hu ho hj he;exact ⟨H',a1,h.set a2 a3,a3⟩
theorem cK.stE (h:cK H b sv c) {i:Nat} (hi:i<c.sl.length) (e:En):∃ H',Op.store 21 [.ptr (aM sv) (cu 21 sv i),.agg (aA e)] H=some (.undef,H')/\cK H' b sv (c.set i e)/\Fr (On (aM sv)) H H':=by
 obtain ⟨H',a1,a2,a3⟩:=h.sl.HM ja qS (wL hi) e;exact ⟨H',a1,h.set a2 a3,a3⟩
theorem cK.stU (h:cK H b sv c) {u:Int} (hu:0<=u/\u<=1000000):∃ H',Op.store 1 [.ptr b 3,.int .i64 u] H=some (.undef,H')/\cK H' b sv { c with us:=u }/\Fr (On b) H H':=by
 have st:=po h.row (o:=3) (n:=1) (v:=.int .i64 u) rfl (by simp [tF]) rfl;have e:(tF c sv).take 3++(AV.int .i64 u).cells++(tF c sv).drop (3+1)=tF { c with us:=u } sv:=rfl;rw [e] at st;have f:Fr (On b) H (H.set b (OR (tF { c with us:=u } sv) Iu)):=(Fr.refl H).set (W:=On b) (.inl rfl) _;exact ⟨_,st,⟨xd ..,h.lt,h.sl.fr f λ (q:aM sv=b)=>h.ne q,h.ne,h.s8,h.w4,hu⟩,f⟩
theorem cK.I0 (h:cK H b sv c) (k:Nat):Op.aa [.ptr b k] H=(tF c sv)[k]?:=zf (xb h.row) k
theorem cK.Ot (h:cK H b sv c) {i:Nat} (hi:i<c.sl.length):Op.aq 21 [.ptr (aM sv) (cu 21 sv i)] H=some (.agg (aA (c.en i))):=(h.sl.sl ja).aq ja (by decide) (wL hi)
theorem cK.cells (h:cK H b sv c) {i:Nat} (hi:i<c.sl.length) {j n:Nat} (hj:j+n<=21):Op.aq n [.ptr (aM sv) (cu 21 sv i+j)] H=some (.agg (((aA (c.en i)).drop j).take n)):=by
 obtain ⟨sb,e,h1,h2⟩:=h.sl;have hb:aM sv=sb:=by rw [e];rfl
 have ho:cu 21 sv i=i*21:=by rw [e];simp [cu]
 have hb2:(i+1)*21<=c.sl.length*21:=ki _ hi;have hl:=xR ja c.sl;rw [hb,ho,wF (xb h2) (by omega)];have hm:=q14 (L:=c.sl.flatMap aA) (E:=aA (c.en i)) (p:=i*21) (size:=21) (ja _) (by omega) (λ r hr=>Ey ja c.sl (wL hi) hr);have hA:((c.sl.flatMap aA).take (i*21)).length=i*21:=by rw [j9];omega
 have e1:(c.sl.flatMap aA).drop (i*21+j)=(aA (c.en i)).drop j++(c.sl.flatMap aA).drop (i*21+21):=by
  conv=>lhs;rw [hm]
  rw [we,hA,j6 (by omega),zt,ye,kw (by rw [ja];omega)]
 rw [e1,kc (by rw [j8,ja];omega)]
theorem cK.ldD (h:cK H b sv c) {i:Nat} (hi:i<c.sl.length):Op.aq 8 [.ptr (aM sv) (cu 21 sv i+4)] H=some (.agg (cN (c.en i).d)):=by
 rw [h.cells hi (by decide)];have:((aA (c.en i)).drop 4).take 8=cN (c.en i).d:=by
  show ((cN (c.en i).d++(cN (c.en i).o ++ [AV.int .i64 (c.en i).u]))).take 8=_;rw [List.take_left' (iu _)]
 rw [this]
theorem cK.ldO (h:cK H b sv c) {i:Nat} (hi:i<c.sl.length):Op.aq 8 [.ptr (aM sv) (cu 21 sv i+12)] H=some (.agg (cN (c.en i).o)):=by
 rw [h.cells hi (by decide)];have:((aA (c.en i)).drop 12).take 8=cN (c.en i).o:=by
  have e:(aA (c.en i)).drop 12=(cN (c.en i).d++(cN (c.en i).o ++ [AV.int .i64 (c.en i).u])).drop 8:=rfl;rw [e,List.drop_left' (iu _),List.take_left' (iu _)]
 rw [this]
def yC (c:Ca) (sv:AV) (line st:Int):AV:=match c.fJ line st with
 | none=>.tuple [.nilp,.int .i64 20]
 | some i=>.tuple [eA sv i,.int .i64 0]
theorem Dt (hc:cK H b sv c) (hci:CI lines c) (line st:Int):jv M wo [.ptr b 0,.int .i64 line,.int .i64 st] H λ v H'=>v=yC c sv line st/\Fr Em H H':=by
 refine qzn ?_;obtain ⟨w0,w2,w10,w12,w20⟩:=qzo M ⟨none,wo⟩;simp only [↓qh,xa,reduceIte,reduceEqDiff,w0,w2,yk,w10];refine C3.q (Og (M:=M) (line:=line) hc hci) λ v H1 ⟨hv,f1⟩=>?_;rw [hv];unfold pn yC fJ;cases hp:c.pos line with
 | none =>
  simp only [↓qh,xa,reduceIte,reduceEqDiff,w12,Jz];exact f1
 | some i =>
  obtain ⟨-,hi,-⟩:=hci.aW hp;have l1:Op.aa [.ptr (aM sv) (cu 21 sv i+1)] H1=some (.int .i64 (c.en i).st):=(hc.em f1).ld hi (by decide)
  by_cases h0:st=0
  ·subst h0;simp only [↓qh,xa,reduceIte,reduceEqDiff,w12,yk,w20];exact f1
  by_cases h1:(c.en i).st=st
  ·simp only [↓qh,xa,reduceIte,reduceEqDiff,w12,yk,h0,qf,l1,xj h1,w20];exact f1
  ·simp only [↓qh,xa,reduceIte,reduceEqDiff,w12,yk,h0,qf,l1,h1];exact f1
abbrev CaQ (H:AHeap) (b:Nat) (sv:AV) (c':Ca) (r:AV):AV->AHeap->Prop:=λ v H'=>v=r/\cK H' b sv c'/\Fr (iC b sv) H H'
theorem nX {H1 H2:AHeap} (f:Fr (On (aM sv)) H1 H2):Fr (iC b sv) H1 H2:=f.mono λ _ _ q=>.inr q
theorem frB {H1 H2:AHeap} (f:Fr (On b) H1 H2):Fr (iC b sv) H1 H2:=f.mono λ _ _ q=>.inl q
theorem lA {H1 H2:AHeap} (f:Fr Em H1 H2):Fr (iC b sv) H1 H2:=f.mono λ _ _ q=>q.elim
theorem nS {H1 H2 H3:AHeap} (f:Fr (iC b sv) H1 H2) (g:Fr (iC b sv) H2 H3):Fr (iC b sv) H1 H3:=f.trans g λ _ q=>.inl q
theorem KS (hc:cK H b sv c) (hu:c.us+1<=1000000) {i:Nat} (hi:i<c.sl.length):jv M Bh [.ptr b 0,eA sv i] H λ _ H'=>cK H' b sv (c.use i)/\Fr (iC b sv) H H':=by
 refine qxp ?_;have l3:Op.aa [.ptr b 3] H=some (.int .i64 c.us):=hc.I0 3;have:=hc.us;have w1:aZ .i64 (c.us+1)=c.us+1:=wx (by omega) (by omega);obtain ⟨H1,s1,h1,f1⟩:=hc.stU (u:=c.us+1) (by omega);have l3':Op.aa [.ptr b 3] H1=some (.int .i64 (c.us+1)):=h1.I0 3;obtain ⟨H2,s2,h2,f2⟩:=h1.b9 hi (j:=20) (by decide) (u:=.int .i64 (c.us+1)) rfl (e:={ c.en i with u:=c.us+1 }) (by
  show aA { c.en i with u:=c.us+1 } = (aA (c.en i)).set 20 _;obtain ⟨line,st,r,w,⟨d,hd⟩,⟨o,ho⟩,u⟩:=c.en i
  match d,hd,o,ho with
  | [d0,d1,d2,d3,d4,d5,d6,d7],_,[o0,o1,o2,o3,o4,o5,o6,o7],_=>rfl)
 simp only [↓qh,xa,reduceIte,reduceEqDiff,qxq,qf,l3,w1,s1,l3',s2];exact ⟨h2,nS (frB f1) (nX f2)⟩
def lX (c:Ca) (line:Int):AV:=match c.find line with
 | none=>.tuple [.agg (aA .zero),.bool false]
 | some e=>.tuple [.agg (aA e),.bool true]
theorem J9 (hc:cK H b sv c) (hci:CI lines c) (line:Int):jv M wA [.ptr b 0,.int .i64 line] H λ v H'=>v=lX c line/\Fr Em H H':=by
 refine qvp ?_;obtain ⟨w0,w4,w12⟩:=qvq M ⟨none,wA⟩;obtain ⟨H1,e1⟩:∃ X,X=H.alloc (OR (aA .zero) qt):=⟨_,rfl⟩
 have f1:Fr Em H H1:=by rw [e1];exact (Fr.refl H).alloc _
 have n1:H1.next=H.next+1:=by rw [e1,xn]
 have g1:H1.get H.next=some (OR (aA .zero) qt):=by rw [e1,qx]
 simp only [↓qh,xa,reduceIte,reduceEqDiff,w0,eZ,<-e1];refine C3.q (Og (M:=M) (line:=line) (hc.em f1) hci) λ v H2 ⟨hv,f2⟩=>?_;rw [hv];have g2:H2.get H.next=some (OR (aA .zero) qt):=by rw [f2.ae _ (by omega) id];exact g1
 have f12:Fr Em H H2:=f1.trans f2 λ _ q=>q.elim;unfold pn lX Ca.find;cases hp:c.pos line with
 | none =>
  have st:=iw g2 (ja _) (ja .zero) (qS _);have ld:=fQ (xd H2 H.next (OR (aA .zero) qt)) (ja _);simp only [↓qh,xa,reduceIte,reduceEqDiff,w4,Jz,eZ,xB,st,ld];exact ⟨rfl,f12.set (.inr (qg _)) _⟩
 | some i =>
  obtain ⟨-,hi,-⟩:=hci.aW hp;have le:=(hc.em f12).Ot hi;have st:=iw g2 (ja _) (ja (c.en i)) (qS _);have ld:=fQ (xd H2 H.next (OR (aA (c.en i)) qt)) (ja _);simp only [↓qh,xa,reduceIte,reduceEqDiff,w4,yk,w12,qf,le,st,ld];exact ⟨rfl,f12.set (.inr (qg _)) _⟩
end
end Go.Am
