/- NmK5: NhA NhB. -/
import Derived.Test.YtiibohocdbaekaaAmKCodeK
import Derived.Test.YtiibohocdbaekaaAmKNmK0
import Derived.Test.YtiibohocdbaekaaAmKNmK2
set_option linter.unusedVariables false
set_option linter.unusedSimpArgs false
set_option linter.unusedSectionVars false
set_option maxRecDepth 100000
open Nat (reduceEqDiff)
namespace Go.Am
open Go.Proofs Ca
variable {M:aM} [MK M]
abbrev uW (x:Int):AV:=.int .u64 x
def av (e:En):List AV:=.int .i64 e.line::.int .i64 e.st::.bool e.r::.bool e.w::(e.d.l.map uW++(e.o.l.map uW ++ [.int .i64 e.u]))
theorem zn (e:En):(av e).length=21:=by simp [av,e.d.h,e.o.h]
theorem mU (e:En):aY (av e)=true:=by
 rw [nu];unfold av;simp [bm]
theorem FQ {H:AHeap} {s e:Nat} {a:AV} (h:H.get s=some (OR [a] e)) {u:AV} (hu:bm u=true):Op.store 1 [.ptr s 0,u] H=some (.undef,H.set s (OR [u] e)):=by
 have hc:u.cells=[u]:=by cases u<;>first|rfl|cases hu
 have:=nV h (o:=0) (n:=1) (v:=u) (by rw [hc];rfl) (by simp) (by rw [hc,nu];simpa using hu);rw [this,hc];rfl
theorem HV (b:ah) (Q:aJ) (E:Env) (D:List aN) (H:AHeap):o9 b Q .normal E D H=Q .normal E D H:=rfl
theorem uV (b:ah) (Q:aJ) (E:Env) (D:List aN) (H:AHeap):o9 b Q .ret E D H=Q .ret E D H:=rfl
def rT (c:Ca) (sv:AV):List AV:=[.int .i64 (c.dF:Int),.int .i64 (c.ways:Int),sv,.int .i64 c.us]
abbrev eA (sv:AV) (i:Nat):AV:=.ptr (aO sv) (cm 21 sv i)
structure cF (H:AHeap) (b:Nat) (sv:AV) (c:Ca):Prop where
 row:H.get b=some (OR (rT c sv) Iv)
 lt:b<H.next
 sl:dA av qu 21 H sv c.sl
 ne:aO sv ≠ b
 s8:c.dF<=8
 w4:c.ways<=4
 us:0<=c.us/\c.us<=1000000
theorem cF.em {H H':AHeap} {b:Nat} {sv:AV} {c:Ca} (h:cF H b sv c) (f:Fr Em H H'):cF H' b sv c:=⟨by rw [f.ae _ h.lt id];exact h.row,qp h.lt f.next,h.sl.fr f id,h.ne,h.s8,h.w4,h.us⟩
theorem cF.fr {H H':AHeap} {W:Nat->Prop} {b:Nat} {sv:AV} {c:Ca} (h:cF H b sv c) (f:Fr W H H') (h1:¬ W b) (h2:¬ W (aO sv)):cF H' b sv c:=⟨by rw [f.ae _ h.lt h1];exact h.row,qp h.lt f.next,h.sl.fr f h2,h.ne,h.s8,h.w4,h.us⟩
theorem cF.ix {H:AHeap} {b:Nat} {sv:AV} {c:Ca} (h:cF H b sv c) {i:Nat} (hi:i<c.sl.length):Op.aP 21 [sv,.int .i64 (i:Int)]=some (eA sv i):=(h.sl.sl zn).idx (wA hi) rfl .i64
theorem cF.ld {H:AHeap} {b:Nat} {sv:AV} {c:Ca} (h:cF H b sv c) {i:Nat} (hi:i<c.sl.length) {k:Nat} (hk:k<21):Op.aa [.ptr (aO sv) (cm 21 sv i+k)] H=(av (c.en i))[k]?:=(h.sl.sl zn).aa zn (wA hi) hk
theorem cF.wH {H:AHeap} {b:Nat} {sv:AV} {c:Ca} (h:cF H b sv c) {i:Nat} (hi:i<c.sl.length):Op.aa [.ptr (aO sv) (cm 21 sv i)] H=some (.int .i64 (c.en i).line):=(h.sl.sl zn).na zn (wA hi) (by decide)
theorem yh (b o:Nat) (H:AHeap):Op.eq .ptr false [.ptr b o,.nilp] H=some (.bool false):=rfl
theorem fA (b o:Nat) (H:AHeap):Op.eq .ptr true [.ptr b o,.nilp] H=some (.bool true):=rfl
theorem IQ (H:AHeap):Op.eq .ptr false [.nilp,.nilp] H=some (.bool true):=rfl
theorem nD (H:AHeap):Op.eq .ptr true [.nilp,.nilp] H=some (.bool false):=rfl
def NS (R:Nat->(Nat->Prop)->AHeap->Prop) (S:(Nat->Prop)->AHeap->Prop) (W0 O:Nat->Prop) (H:AHeap) (n:Nat) (v:AV) (H':AHeap):Prop:=∃ W':Nat->Prop,Fr (λ b=>W0 b\/O b) H H'/\(∀ b,W' b->b<H'.next/\(W0 b\/H.next<=b))/\(R n W' H'\/S W' H')
def jY (c:Ca) (sv:AV) (line:Int):List (List AV):=if line<0 then [] else (List.range c.ways).map λ k=>[eA sv (c.fr line+k)]
structure Kf (R:Nat->(Nat->Prop)->AHeap->Prop) (W0:Nat->Prop) (H1 Hx:AHeap) (i:Nat) (V:Nat->Prop):Prop where
 hR:R i V Hx
 hV:∀ b,V b->b<Hx.next/\(W0 b\/H1.next<=b)
 fr:Fr W0 H1 Hx
theorem q31 {H0:AHeap} {p q b:Nat} {sv:AV} {c:Ca} {lines line:Int} (hc:cF H0 b sv c) (hci:CI lines c) (hp:H0.get p=some (OR [.ptr b 0] vx)) (hq:H0.get q=some (OR [.int .i64 line] cJ)) (hpl:p<H0.next) (hql:q<H0.next) :
 mg M yu [] [.ptr p 0,.ptr q 0] (λ x=>x=p\/x=q\/x=b) (λ _=>False) H0 (jY c sv line):=by
 intro Y R S W0 H1 hnx hN hR0 hW0 loc locS step;obtain ⟨p1,p2,p3⟩:=hN p (.inl (.inl rfl));obtain ⟨q1,q2,q3⟩:=hN q (.inl (.inr (.inl rfl)));obtain ⟨b1,b2,b3⟩:=hN b (.inl (.inr (.inr rfl)))
 suffices h:jm M yu [.fn (.yield Y) [] [],.ptr p 0,.ptr q 0] H1 (NS R S W0 (λ _=>False) H1 (jY c sv line).length) by
  obtain ⟨v,H',hc,W',q1,q2,q3⟩:=h.elim;exact ⟨v,H',W',hc,q1,q2,q3⟩
 refine quf ?_;obtain ⟨w0,w6,w12,w18,w27⟩:=qug M ⟨none,yu⟩;have lp:∀ {Hx:AHeap},Fr W0 H1 Hx->Op.aa [.ptr p 0] Hx=some (.ptr b 0):=λ f=>by rw [ze (xc (by rw [f.ae _ (by omega) p3,p2];exact hp))];rfl
 have lq:∀ {Hx:AHeap},Fr W0 H1 Hx->Op.aa [.ptr q 0] Hx=some (.int .i64 line):=λ f=>by rw [ze (xc (by rw [f.ae _ (by omega) q3,q2];exact hq))];rfl
 have lb:∀ {Hx:AHeap} (k:Nat),Fr W0 H1 Hx->Op.aa [.ptr b k] Hx=(rT c sv)[k]?:=λ k f=>ze (xc (by rw [f.ae _ (by omega) b3,b2];exact hc.row)) k;have r0:=Fr.refl (W:=W0) H1
 by_cases hl:line<0
 ·simp only [↓qg,xb,reduceIte,reduceEqDiff,w0,lp r0,yh,lq r0,hl];exact ⟨W0,Fr.refl _,λ b hb=>⟨hW0 b hb,.inl hb⟩,.inl (by unfold jY;rw [qr hl];exact hR0)⟩
 have hsl:(jY c sv line)=(List.range c.ways).map λ k=>[eA sv (c.fr line+k)]:=by unfold jY;rw [qf hl]
 rw [hsl] at step ⊢;rw [zd,yj];have l0:Op.aa [.ptr b 0] H1=some (.int .i64 (c.dF:Int)):=lb 0 r0;have l1:Op.aa [.ptr b 1] H1=some (.int .i64 (c.ways:Int)):=lb 1 r0;have rm:Op.bin .rem [.int .i64 line,.int .i64 (c.dF:Int)]=some (.int .i64 ((line.toNat % c.dF:Nat):Int)):=by
  have:=hci.s0;obtain ⟨n,rfl⟩:=ke (Int.not_lt.1 hl);rw [Bi .i64 _ _ (by omega)];rfl
 have hmod:line.toNat % c.dF<c.dF:=Nat.mod_lt _ hci.s0;have h8:=hc.s8;have h4:=hc.w4;have hfr:(line.toNat % c.dF)*c.ways<=7*4:=Nat.mul_le_mul (by omega) h4;have wm:aV .i64 (((line.toNat % c.dF:Nat):Int)*(c.ways:Int))=((c.fr line:Nat):Int):=by
  rw [<-Int.natCast_mul];exact yw (by omega) (by omega)
 have hfr':c.fr line<=28:=hfr;simp only [↓qg,xb,reduceIte,reduceEqDiff,w0,lp r0,yh,qh,lq r0,hl,w6,l0,l1,rm,wm];refine bq.intro (λ n E Hx=>∃ (i:Nat) (V:Nat->Prop),E=[(27,.int .i64 (i:Int)),(26,.int .i64 (c.ways:Int)),(4,.int .i64 ((c.fr line:Nat):Int)),(0,.fn (.yield Y) [] []),(1,.ptr p 0)]/\n=c.ways-i/\i<=c.ways/\Kf R W0 H1 Hx i V) ?_ ?_
 ·exact ⟨_,_,⟨0,W0,rfl,rfl,zp _,⟨hR0,λ b hb=>⟨hW0 b hb,.inl hb⟩,Fr.refl _⟩⟩,by simp only [↓qg,xb,reduceIte,reduceEqDiff]⟩
 rintro n E Hx ⟨i,V,rfl,rfl,hi,hI⟩;rcases jr i c.ways with hlt|hge
 ·have c1:(i:Int)<(c.ways:Int):=by omega
  have l2:Op.aa [.ptr b 2] Hx=some sv:=lb 2 hI.fr;have wi:aV .i64 (((c.fr line:Nat):Int)+(i:Int))=((c.fr line+i:Nat):Int):=by rw [yw (by omega) (by omega)];omega
  have ix:=hc.ix (hci.gk line hlt);obtain ⟨bb,H2,W2,hr,hf,hW2,ht,hs⟩:=step i [eA sv (c.fr line+i)] (by rw [xn,vn hlt];rfl) V Hx hI.hR hI.hV (hI.fr.mono λ _ _ q=>.inl q);have fr2:Fr W0 H1 H2:=hI.fr.trans hf λ b q=>(hI.hV b q).2;have hV2:∀ b,W2 b->b<H2.next/\(W0 b\/H1.next<=b):=λ b q=>⟨(hW2 b q).1,(hW2 b q).2.elim (λ w=>(hI.hV b w).2) λ w=>.inr (xt hI.fr.next w)⟩
  have wj:aV .i64 ((i:Int)+1)=((i+1:Nat):Int):=by rw [yw (by omega) (by omega)];omega
  simp only [↓qg,xb,reduceIte,reduceEqDiff,w12,c1,w18,lp hI.fr,qh,l2,wi,ix];refine C3.DQ hr ?_;cases bb with
  | true =>
   simp only [↓qg,xb,reduceIte,reduceEqDiff,w27,wj];exact ⟨_,_,⟨i+1,W2,rfl,rfl,by omega,⟨ht rfl,hV2,fr2⟩⟩,by simp only [↓qg,xb,reduceIte,reduceEqDiff],by omega⟩
  | false =>
   simp only [↓qg,xb,reduceIte,reduceEqDiff];exact ⟨W2,fr2.mono λ _ _ q=>.inl q,hV2,.inr (hs rfl)⟩
 ·have c1:¬ (i:Int)<(c.ways:Int):=by omega
  have hiw:i=c.ways:=by omega
  simp only [↓qg,xb,reduceIte,reduceEqDiff,w12,c1];exact ⟨V,hI.fr.mono λ _ _ q=>.inl q,hI.hV,.inl (by rw [<-hiw];exact hI.hR)⟩
theorem q64 {H:AHeap} (b:Nat) (line:Int):jm M Du [.ptr b 0,.int .i64 line] H λ v H'=>v=.fn (.func yu) [] [.ptr H.next 0,.ptr (H.next+1) 0]/\H'=(H.alloc (OR [.ptr b 0] vx)).alloc (OR [.int .i64 line] cJ):=by
 refine qyv ?_;obtain ⟨H1,e1⟩:∃ X,X=H.alloc (OR [.ptr b 0] vx):=⟨_,rfl⟩
 have n1:H1.next=H.next+1:=by rw [e1,xl]
 have ca:AV.cells (.ptr b 0)=[.ptr b 0]:=rfl;have cb:AV.cells (.int .i64 line)=[.int .i64 line]:=rfl;have mk:Op.cu yu 0 [.ptr H.next 0,.ptr (H.next+1) 0]=some (.fn (.func yu) [] [.ptr H.next 0,.ptr (H.next+1) 0]):=rfl;simp only [↓qg,xb,reduceIte,reduceEqDiff,qyw,ca,cb,<-e1,n1,mk];rfl
structure AtI (c:Ca) (line:Int) (t:Nat) (i:Nat) (V:Nat->Prop) (Hx:AHeap):Prop where
 vt:V t
 g:Hx.get t=some (OR [.nilp] jk)
 lt:t<Hx.next
 no:∀ k,k<i->c.gv line k=false
structure AtS (c:Ca) (sv:AV) (line:Int) (t:Nat) (V:Nat->Prop) (Hx:AHeap):Prop where
 vt:V t
 ex:∃ k,k<c.ways/\cr (c.gv line) c.ways=some k/\Hx.get t=some (OR [eA sv (c.fr line+k)] jk)
 lt:t<Hx.next
def ou (c:Ca) (sv:AV) (line:Int):AV:=match c.pos line with
 | none=>.nilp
 | some i=>eA sv i
theorem K7 {H:AHeap} {b:Nat} {sv:AV} {c:Ca} {lines line:Int} (hc:cF H b sv c) (hci:CI lines c):jm M sD [.ptr b 0,.int .i64 line] H λ v H'=>v=ou c sv line/\Fr Em H H':=by
 refine q0w ?_;obtain ⟨w0,wa,wb,w2,w7⟩:=qrd M ⟨none,sD⟩;obtain ⟨H1,e1⟩:∃ X,X=H.alloc (OR [.int .i64 line] cJ):=⟨_,rfl⟩
 obtain ⟨H2,e2⟩:∃ X,X=H1.alloc (OR [.nilp] jk):=⟨_,rfl⟩
 have f1:Fr Em H H1:=by rw [e1];exact (Fr.refl H).alloc _
 have f12:Fr Em H1 H2:=by rw [e2];exact (Fr.refl H1).alloc _
 have f2:Fr Em H H2:=f1.trans f12 λ _ q=>q.elim;have n1:H1.next=H.next+1:=by rw [e1,xl]
 have n2:H2.next=H.next+2:=by rw [e2,xl,n1]
 have g1:H2.get H.next=some (OR [.int .i64 line] cJ):=by rw [f12.ae _ (by omega) id,e1,qz]
 have g2:H2.get (H.next+1)=some (OR [.nilp] jk):=by rw [e2,<-n1,qz]
 have cl:AV.cells (.int .i64 line)=[.int .i64 line]:=rfl;have l1:Op.aa [.ptr H.next 0] H2=some (.int .i64 line):=ze (xc g1) 0;simp only [↓qg,xb,reduceIte,reduceEqDiff,w0,cl,<-e1,<-e2,n1,w2,l1];refine C3.q (q64 (M:=M) b line) λ v H5 ⟨hv,hh⟩=>?_;obtain ⟨H3,e3⟩:∃ X,X=H2.alloc (OR [.ptr b 0] vx):=⟨_,rfl⟩
 obtain ⟨H4,e4⟩:∃ X,X=H3.alloc (OR [.int .i64 line] cJ):=⟨_,rfl⟩
 rw [<-e3,<-e4] at hh;rw [hv,hh];have f23:Fr Em H2 H3:=by rw [e3];exact (Fr.refl H2).alloc _
 have f34:Fr Em H3 H4:=by rw [e4];exact (Fr.refl H3).alloc _
 have f24:Fr Em H2 H4:=f23.trans f34 λ _ q=>q.elim;have f4:Fr Em H H4:=f2.trans f24 λ _ q=>q.elim;have n3:H3.next=H.next+3:=by rw [e3,xl,n2]
 have n4:H4.next=H.next+4:=by rw [e4,xl,n3]
 have g3:H4.get H2.next=some (OR [.ptr b 0] vx):=by rw [f34.ae _ (by omega) id,e3,qz]
 have g4:H4.get (H2.next+1)=some (OR [.int .i64 line] cJ):=by rw [show H2.next+1=H3.next by omega,e4,qz]
 have hc4:=hc.em f4;have hlt:=hc.lt;have hsb:aO sv<H.next:=hc.sl.lt
 have kp:∀ {Hx:AHeap},Fr (λ x=>(x=H.next+1)\/False) H4 Hx->cF Hx b sv c/\Op.aa [.ptr H.next 0] Hx=some (.int .i64 line):=λ f =>
  ⟨hc4.fr f (λ q=>q.elim (λ q=>by omega) id) (λ q=>q.elim (λ q=>by omega) id),ze (xc (by rw [f.ae H.next (by omega) (λ q=>q.elim (λ q=>by omega) id),f24.ae _ (by omega) id];exact g1)) 0⟩
 have res:∀ {d:Nat} {Hx:AHeap} {x:AV},Hx.get (H.next+1)=some (OR [x] jk)->d ≠ H.next+1->Op.aa [.ptr (H.next+1) 0] (Hx.set d (.deferred none))=some x:=λ g hd=>by
  rw [ze (xc (by rw [ww hd];exact g))];rfl
 refine eS.iter (fn:=DD) (lp:=Cd) (pa:=qpz 0) (pb:=qp0 0) qyt qob.1 qob.2 (by decide) ⟨rfl,rb Cd.assign⟩ ⟨rfl,rb Cd.body⟩
  (q31 (M:=M) hc4 hci g3 g4 (by omega) (by omega)) (λ i V Hx=>AtI c line (H.next+1) i V Hx) (λ e V Hx=>e=.ret/\AtS c sv line (H.next+1) V Hx) (λ x=>x=H.next+1) (qi _) ?_ ?_ ?_ ?_ ?_ ?_ ?_ ?_
 ·rintro x ((q|q|q) | q)
  ·exact ⟨by omega,rfl,by omega⟩
  ·exact ⟨by omega,rfl,by omega⟩
  ·exact ⟨by omega,rfl,by omega⟩
  ·exact q.elim
 ·exact λ x hx=>by omega
 ·exact ⟨rfl,by rw [f24.ae _ (by omega) id];exact g2,by omega,λ k hk=>by omega⟩
 ·exact λ i V Ha Hb h hs hn=>⟨h.vt,by rw [hs _ h.vt];exact h.g,qp h.lt hn,h.no⟩
 ·rintro e V Ha Hb ⟨he,h⟩ hs hn;obtain ⟨k,k1,k2,k3⟩:=h.ex;exact ⟨he,h.vt,⟨k,k1,k2,by rw [hs _ h.vt];exact k3⟩,qp h.lt hn⟩
 ·intro L2 i lr lb x hx hL2 V H6 hP hV hf6 hnL hL6 hgL;unfold jY at hx;split at hx
  ·simp at hx
  rename_i hl;rw [xn,xg] at hx;obtain ⟨y,hy,rfl⟩:=hx;have hiw:i<c.ways:=by have:=(qm.1 hy).1;rw [yj] at this;exact this
  rw [vn hiw] at hy;injection hy with hy;subst hy
  refine ⟨_,rfl,?_⟩;obtain ⟨-,wa,wb,-⟩:=qrd M ⟨some L2,sD⟩;simp only [↓qg,xb,reduceIte,reduceEqDiff,wa,Fc];refine ⟨hgL,?_⟩;have fx:Fr (On L2) H6 (H6.set L2 lb):=(Fr.refl H6).set (W:=On L2) (.inl rfl) _;have gL:(H6.set L2 lb).get L2=some lb:=xe ..;have nL:(H6.set L2 lb).next=H6.next:=rfl
  obtain ⟨hc6,lq6⟩:=kp hf6;have h7:cF (H6.set L2 lb) b sv c:=hc6.fr fx (λ (q:b=L2)=>by omega) (λ (q:aO sv=L2)=>by omega);have lq7:Op.aa [.ptr H.next 0] (H6.set L2 lb)=some (.int .i64 line):=by
   have hg:(H6.set L2 lb).get H.next=H6.get H.next:=by rw [ww (by omega)]
   exact ze (xc (by rw [hg,hf6.ae H.next (by omega) (λ q=>q.elim (λ q=>by omega) id),f24.ae _ (by omega) id];exact g1)) 0
  have hLt:L2 ≠ H.next+1:=λ q=>hnL (by rw [q];exact hP.vt)
  have hgt:(H6.set L2 lb).get (H.next+1)=some (OR [.nilp] jk):=by rw [ww hLt];exact hP.g
  generalize H6.set L2 lb=H7 at *;have hi:=hci.gk line hiw;obtain ⟨e,he⟩:∃ e,e=c.en (c.fr line+i):=⟨_,rfl⟩
  have l0:Op.aa [.ptr (aO sv) (cm 21 sv (c.fr line+i))] H7=some (.int .i64 e.line):=by rw [he];exact h7.wH hi
  have l1:Op.aa [.ptr (aO sv) (cm 21 sv (c.fr line+i)+1)] H7=some (.int .i64 e.st):=by rw [he];exact h7.ld hi (k:=1) (by decide)
  have hhit:c.gv line i=(e.st != 0 && e.line == line):=by rw [he];rfl
  have stay:c.gv line i=false->HU (λ V Hx=>AtI c line (H.next+1) (i+1) V Hx) (λ e V Hx=>e=.ret/\AtS c sv line (H.next+1) V Hx) L2 lb V H6 .normal [] [] H7:=λ hh =>
   ⟨rfl,gL,V,λ b hb=>⟨by rw [nL];exact (hV b hb).1,.inl hb⟩,fx.mono λ x _ q=>.inr q,.inl ⟨rfl,hP.vt,hgt,by rw [nL];exact hP.lt,λ k hk=>by
    by_cases q:k=i
    ·rw [q];exact hh
    ·exact hP.no k (by omega)⟩⟩
  by_cases q1:e.st=0
  ·simp only [↓qg,xb,reduceIte,reduceEqDiff,wb,qh,l1,xf q1];exact stay (by rw [hhit,q1];rfl)
  by_cases q2:e.line=line
  ·have st:=FQ hgt (u:=eA sv (c.fr line+i)) rfl;simp only [↓qg,xb,reduceIte,reduceEqDiff,wb,qh,l1,q1,l0,lq7,xf q2,st];refine ⟨rfl,?_,V,?_,?_,.inr ⟨trivial,rfl,hP.vt,⟨i,hiw,E4 hiw (by rw [hhit];simp [q1,q2]) hP.no,xe ..⟩,?_⟩⟩
   ·rw [ww (wh hLt)];exact gL
   ·exact λ b hb=>⟨by show b<H7.next;rw [nL];exact (hV b hb).1,.inl hb⟩
   ·exact (fx.mono λ x _ q=>.inr q).set (.inl (.inl hP.vt)) _
   ·show H.next+1<H7.next;rw [nL];exact hP.lt
  ·simp only [↓qg,xb,reduceIte,reduceEqDiff,wb,qh,l1,q1,l0,lq7,q2];exact stay (by rw [hhit];simp [q2])
 ·intro d V Hd hd1 hd2 hgd hfd hVd hP;have st:=FQ hP.g (u:=.nilp) rfl;have hdt:d ≠ H.next+1:=λ q=>by have:=(hVd _ hP.vt).2.2;omega
  have gd:(Hd.set (H.next+1) (OR [.nilp] jk)).get d=some (.deferred (some [])):=by rw [ww (wh hdt)];exact hgd
  have rd:=res (d:=d) (xe Hd (H.next+1) (OR [.nilp] jk)) hdt;have hpos:c.pos line=none:=by
   unfold Ca.pos;split
   ·rfl
   ·rename_i hl;have hno:=hP.no;unfold jY at hno;rw [qf hl,zd,yj] at hno;rw [DG hno];rfl
  simp only [↓qg,xb,reduceIte,reduceEqDiff,w7,st,Ba,rd];refine ⟨gd,?_,?_⟩
  ·unfold ou;rw [hpos]
  ·exact (((f4.trans (W':=λ x=>x=H.next+1\/False) hfd λ x q=>q.elim (λ q=>.inr (by omega)) False.elim).set (.inr (by omega)) _).set (.inr (by omega)) _)
 ·rintro e d V Hd hj hd1 hd2 hgd hfd hVd ⟨he,hS⟩;subst he;obtain ⟨k,k1,k2,k3⟩:=hS.ex;have hdt:d ≠ H.next+1:=λ q=>by have:=(hVd _ hS.vt).2.2;omega
  have rd:=res (d:=d) k3 hdt;have hpos:ou c sv line=eA sv (c.fr line+k):=by
   unfold ou Ca.pos
   by_cases hl:line<0
   ·exfalso;obtain ⟨q1,q2,-⟩:=EN k2;unfold Ca.gv at q2;simp only [xm,bne_iff_ne,ne_eq,A9] at q2;have:=(hci.ok _ (hci.gk line k1) q2.1).2.1;omega
   ·rw [qf hl,k2];rfl
  simp only [↓qg,xb,reduceIte,reduceEqDiff,Ba,rd];refine ⟨hgd,hpos.symm,?_⟩;exact ((f4.trans (W':=λ x=>x=H.next+1\/False) hfd λ x q=>q.elim (λ q=>.inr (by omega)) False.elim).set (.inr (by omega)) _)
end Go.Am
namespace Go.Am
open Go.Proofs Ca
variable {M:aM} [MK M]
theorem gY {H:AHeap} {b e n:Nat} {l x:List AV} (h:H.get b=some (OR l e)) (hl:l.length=n) (hx:x.length=n) (h1:aY x=true):Op.store n [.ptr b 0,.agg x] H=some (.undef,H.set b (OR x e)):=by
 have st:=nV h (o:=0) (n:=n) (v:=.agg x) (by rw [xx];exact hx) (by omega) (by rw [xx];exact h1);rw [st,xx,AY,zy,j5 (by omega),za]
theorem fH {H:AHeap} {b e n:Nat} {l:List AV} (h:H.get b=some (OR l e)) (hl:l.length=n):Op.ao n [.ptr b 0] H=some (.agg l):=by
 rw [wE (xc h) (by omega),F0,zu (by omega)]
theorem xP (l:List AV):Op.build l [] []=some (.agg l):=rfl
theorem eZ:[AV.int .i64 0,.int .i64 0,.bool false,.bool false,.int .u64 0,.int .u64 0,.int .u64 0,.int .u64 0,.int .u64 0,.int .u64 0,.int .u64 0,.int .u64 0,.int .u64 0,.int .u64 0,.int .u64 0,.int .u64 0,.int .u64 0,.int .u64 0,.int .u64 0,.int .u64 0,.int .i64 0]=av .zero:=rfl
abbrev cK (d:L8):List AV:=d.l.map uW
theorem iu (d:L8):(cK d).length=8:=by simp [cK,d.h]
theorem rh (d:L8):aY (cK d)=true:=by rw [nu];simp [cK,bm]
theorem lZ:[AV.int .u64 0,.int .u64 0,.int .u64 0,.int .u64 0,.int .u64 0,.int .u64 0,.int .u64 0,.int .u64 0]=cK .zero:=rfl
def iG (b:Nat) (sv:AV):Nat->Prop:=λ x=>x=b\/x=aO sv
section
variable {H:AHeap} {b:Nat} {sv:AV} {c:Ca} {lines line:Int}
theorem cF.set (h:cF H b sv c) {i:Nat} {e:En} {H':AHeap} (hs:dA av qu 21 H' sv (c.sl.set i e)) (f:Fr (On (aO sv)) H H'):cF H' b sv (c.set i e) :=
 ⟨by rw [f.ae _ h.lt (λ q:b=aO sv=>h.ne q.symm)];exact h.row,qp h.lt f.next,hs,h.ne,h.s8,h.w4,h.us⟩
theorem cF.bU (h:cF H b sv c) {i:Nat} (hi:i<c.sl.length) {j:Nat} (hj:j<21) {u:AV} (hu:bm u=true) {e:En} (he:av e=(av (c.en i)).set j u):∃ H',Op.store 1 [.ptr (aO sv) (cm 21 sv i+j),u] H=some (.undef,H')/\cF H' b sv (c.set i e)/\Fr (On (aO sv)) H H':=by
 obtain ⟨H',a1,a2,a3⟩:=h.sl.yS zn (wA hi) hj hu he;exact ⟨H',a1,h.set a2 a3,a3⟩
theorem cF.IU (h:cF H b sv c) {i:Nat} (hi:i<c.sl.length) {j n:Nat} {u:AV} (hu:u.cells.length=n) (ho:aY u.cells=true) (hj:j+n<=21) {e:En} (he:av e=(av (c.en i)).take j++u.cells++(av (c.en i)).drop (j+n)):∃ H',Op.store n [.ptr (aO sv) (cm 21 sv i+j),u] H=some (.undef,H')/\cF H' b sv (c.set i e)/\Fr (On (aO sv)) H H':=by
 obtain ⟨H',a1,a2,a3⟩:=h.sl.yP zn (wA hi) hu ho hj he;exact ⟨H',a1,h.set a2 a3,a3⟩
theorem cF.stE (h:cF H b sv c) {i:Nat} (hi:i<c.sl.length) (e:En):∃ H',Op.store 21 [.ptr (aO sv) (cm 21 sv i),.agg (av e)] H=some (.undef,H')/\cF H' b sv (c.set i e)/\Fr (On (aO sv)) H H':=by
 obtain ⟨H',a1,a2,a3⟩:=h.sl.HG zn mU (wA hi) e;exact ⟨H',a1,h.set a2 a3,a3⟩
theorem cF.stU (h:cF H b sv c) {u:Int} (hu:0<=u/\u<=1000000):∃ H',Op.store 1 [.ptr b 3,.int .i64 u] H=some (.undef,H')/\cF H' b sv { c with us:=u }/\Fr (On b) H H':=by
 have st:=nV h.row (o:=3) (n:=1) (v:=.int .i64 u) rfl (by simp [rT]) rfl;have e:(rT c sv).take 3++(AV.int .i64 u).cells++(rT c sv).drop (3+1)=rT { c with us:=u } sv:=rfl;rw [e] at st;have f:Fr (On b) H (H.set b (OR (rT { c with us:=u } sv) Iv)):=(Fr.refl H).set (W:=On b) (.inl rfl) _;exact ⟨_,st,⟨xe ..,h.lt,h.sl.fr f λ (q:aO sv=b)=>h.ne q,h.ne,h.s8,h.w4,hu⟩,f⟩
theorem cF.I7 (h:cF H b sv c) (k:Nat):Op.aa [.ptr b k] H=(rT c sv)[k]?:=ze (xc h.row) k
theorem cF.Kk (h:cF H b sv c) {i:Nat} (hi:i<c.sl.length):Op.ao 21 [.ptr (aO sv) (cm 21 sv i)] H=some (.agg (av (c.en i))):=(h.sl.sl zn).ao zn (by decide) (wA hi)
theorem cF.cells (h:cF H b sv c) {i:Nat} (hi:i<c.sl.length) {j n:Nat} (hj:j+n<=21):Op.ao n [.ptr (aO sv) (cm 21 sv i+j)] H=some (.agg (((av (c.en i)).drop j).take n)):=by
 obtain ⟨sb,e,h1,h2⟩:=h.sl;have hb:aO sv=sb:=by rw [e];rfl
 have ho:cm 21 sv i=i*21:=by rw [e];simp [cm]
 have hb2:(i+1)*21<=c.sl.length*21:=kc _ hi;have hl:=xY zn c.sl;rw [hb,ho,wE (xc h2) (by omega)];have hm:=q3k (L:=c.sl.flatMap av) (E:=av (c.en i)) (p:=i*21) (size:=21) (zn _) (by omega) (λ r hr=>Cg zn c.sl (wA hi) hr);have hA:((c.sl.flatMap av).take (i*21)).length=i*21:=by rw [jy];omega
 have e1:(c.sl.flatMap av).drop (i*21+j)=(av (c.en i)).drop j++(c.sl.flatMap av).drop (i*21+21):=by
  conv=>lhs;rw [hm]
  rw [vy,hA,j5 (by omega),zy,yd,kw (by rw [zn];omega)]
 rw [e1,j7 (by rw [j6,zn];omega)]
theorem cF.ldD (h:cF H b sv c) {i:Nat} (hi:i<c.sl.length):Op.ao 8 [.ptr (aO sv) (cm 21 sv i+4)] H=some (.agg (cK (c.en i).d)):=by
 rw [h.cells hi (by decide)];have:((av (c.en i)).drop 4).take 8=cK (c.en i).d:=by
  show ((cK (c.en i).d++(cK (c.en i).o ++ [AV.int .i64 (c.en i).u]))).take 8=_;rw [List.take_left' (iu _)]
 rw [this]
theorem cF.ldO (h:cF H b sv c) {i:Nat} (hi:i<c.sl.length):Op.ao 8 [.ptr (aO sv) (cm 21 sv i+12)] H=some (.agg (cK (c.en i).o)):=by
 rw [h.cells hi (by decide)];have:((av (c.en i)).drop 12).take 8=cK (c.en i).o:=by
  have e:(av (c.en i)).drop 12=(cK (c.en i).d++(cK (c.en i).o ++ [AV.int .i64 (c.en i).u])).drop 8:=rfl;rw [e,List.drop_left' (iu _),List.take_left' (iu _)]
 rw [this]
def xL (c:Ca) (sv:AV) (line st:Int):AV:=match c.fP line st with
 | none=>.tuple [.nilp,.int .i64 20]
 | some i=>.tuple [eA sv i,.int .i64 0]
theorem D2 (hc:cF H b sv c) (hci:CI lines c) (line st:Int):jm M wq [.ptr b 0,.int .i64 line,.int .i64 st] H λ v H'=>v=xL c sv line st/\Fr Em H H':=by
 refine q0y ?_;obtain ⟨w0,w2,w10,w12,w20⟩:=q0z M ⟨none,wq⟩;simp only [↓qg,xb,reduceIte,reduceEqDiff,w0,w2,yh,w10];refine C3.q (K7 (M:=M) (line:=line) hc hci) λ v H1 ⟨hv,f1⟩=>?_;rw [hv];unfold ou xL fP;cases hp:c.pos line with
 | none =>
  simp only [↓qg,xb,reduceIte,reduceEqDiff,w12,IQ];exact f1
 | some i =>
  obtain ⟨-,hi,-⟩:=hci.aW hp;have l1:Op.aa [.ptr (aO sv) (cm 21 sv i+1)] H1=some (.int .i64 (c.en i).st):=(hc.em f1).ld hi (by decide)
  by_cases h0:st=0
  ·subst h0;simp only [↓qg,xb,reduceIte,reduceEqDiff,w12,yh,w20];exact f1
  by_cases h1:(c.en i).st=st
  ·simp only [↓qg,xb,reduceIte,reduceEqDiff,w12,yh,h0,qh,l1,xf h1,w20];exact f1
  ·simp only [↓qg,xb,reduceIte,reduceEqDiff,w12,yh,h0,qh,l1,h1];exact f1
abbrev CaQ (H:AHeap) (b:Nat) (sv:AV) (c':Ca) (r:AV):AV->AHeap->Prop:=λ v H'=>v=r/\cF H' b sv c'/\Fr (iG b sv) H H'
theorem nY {H1 H2:AHeap} (f:Fr (On (aO sv)) H1 H2):Fr (iG b sv) H1 H2:=f.mono λ _ _ q=>.inr q
theorem frB {H1 H2:AHeap} (f:Fr (On b) H1 H2):Fr (iG b sv) H1 H2:=f.mono λ _ _ q=>.inl q
theorem lM {H1 H2:AHeap} (f:Fr Em H1 H2):Fr (iG b sv) H1 H2:=f.mono λ _ _ q=>q.elim
theorem od {H1 H2 H3:AHeap} (f:Fr (iG b sv) H1 H2) (g:Fr (iG b sv) H2 H3):Fr (iG b sv) H1 H3:=f.trans g λ _ q=>.inl q
theorem MY (hc:cF H b sv c) (hu:c.us+1<=1000000) {i:Nat} (hi:i<c.sl.length):jm M AF [.ptr b 0,eA sv i] H λ _ H'=>cF H' b sv (c.use i)/\Fr (iG b sv) H H':=by
 refine qyy ?_;have l3:Op.aa [.ptr b 3] H=some (.int .i64 c.us):=hc.I7 3;have:=hc.us;have w1:aV .i64 (c.us+1)=c.us+1:=yw (by omega) (by omega);obtain ⟨H1,s1,h1,f1⟩:=hc.stU (u:=c.us+1) (by omega);have l3':Op.aa [.ptr b 3] H1=some (.int .i64 (c.us+1)):=h1.I7 3;obtain ⟨H2,s2,h2,f2⟩:=h1.bU hi (j:=20) (by decide) (u:=.int .i64 (c.us+1)) rfl (e:={ c.en i with u:=c.us+1 }) (by
  show av { c.en i with u:=c.us+1 } = (av (c.en i)).set 20 _;obtain ⟨line,st,r,w,⟨d,hd⟩,⟨o,ho⟩,u⟩:=c.en i
  match d,hd,o,ho with
  | [d0,d1,d2,d3,d4,d5,d6,d7],_,[o0,o1,o2,o3,o4,o5,o6,o7],_=>rfl)
 simp only [↓qg,xb,reduceIte,reduceEqDiff,qyz,qh,l3,w1,s1,l3',s2];exact ⟨h2,od (frB f1) (nY f2)⟩
def fE (c:Ca) (line:Int):AV:=match c.find line with
 | none=>.tuple [.agg (av .zero),.bool false]
 | some e=>.tuple [.agg (av e),.bool true]
theorem GH (hc:cF H b sv c) (hci:CI lines c) (line:Int):jm M vr [.ptr b 0,.int .i64 line] H λ v H'=>v=fE c line/\Fr Em H H':=by
 refine qww ?_;obtain ⟨w0,w4,w12⟩:=qwx M ⟨none,vr⟩;obtain ⟨H1,e1⟩:∃ X,X=H.alloc (OR (av .zero) qu):=⟨_,rfl⟩
 have f1:Fr Em H H1:=by rw [e1];exact (Fr.refl H).alloc _
 have n1:H1.next=H.next+1:=by rw [e1,xl]
 have g1:H1.get H.next=some (OR (av .zero) qu):=by rw [e1,qz]
 simp only [↓qg,xb,reduceIte,reduceEqDiff,w0,eZ,<-e1];refine C3.q (K7 (M:=M) (line:=line) (hc.em f1) hci) λ v H2 ⟨hv,f2⟩=>?_;rw [hv];have g2:H2.get H.next=some (OR (av .zero) qu):=by rw [f2.ae _ (by omega) id];exact g1
 have f12:Fr Em H H2:=f1.trans f2 λ _ q=>q.elim;unfold ou fE Ca.find;cases hp:c.pos line with
 | none =>
  have st:=gY g2 (zn _) (zn .zero) (mU _);have ld:=fH (xe H2 H.next (OR (av .zero) qu)) (zn _);simp only [↓qg,xb,reduceIte,reduceEqDiff,w4,IQ,eZ,xP,st,ld];exact ⟨rfl,f12.set (.inr (qi _)) _⟩
 | some i =>
  obtain ⟨-,hi,-⟩:=hci.aW hp;have le:=(hc.em f12).Kk hi;have st:=gY g2 (zn _) (zn (c.en i)) (mU _);have ld:=fH (xe H2 H.next (OR (av (c.en i)) qu)) (zn _);simp only [↓qg,xb,reduceIte,reduceEqDiff,w4,yh,w12,qh,le,st,ld];exact ⟨rfl,f12.set (.inr (qi _)) _⟩
end
end Go.Am
