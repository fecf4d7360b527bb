/- BuKd: BmC BmD BmE. -/
import Derived.Test.YtiibohocdbaekaaAmMBuKc
import Derived.Test.YtiibohocdbaekaaAmMBuKb
import Derived.Test.YtiibohocdbaekaaAmMCodeK
set_option linter.unusedVariables false
set_option linter.unusedSimpArgs false
set_option linter.unusedSectionVars false
set_option maxRecDepth 100000
open Nat (reduceEqDiff)
namespace Go.Am
open Go.Proofs Ca
open Lang (ints)
variable {M:aL} [MK M]
def lK (b:Bu) (line:Int) (i:Nat):List En:=(b.ns.take i).filterMap λ n=>n.c.find line
def rf (b:Bu) (line:Int):List (List AV):=(lK b line b.ns.length).map λ e=>[.agg (aq e)]
theorem uI {b:Bu} {line:Int} {i:Nat} {n:No} (hn:b.ns[i]? = some n):lK b line (i+1)=lK b line i++(match n.c.find line with|none=>[] | some e=>[e]):=by
 unfold lK;rw [yT,hn,List.filterMap_append];congr 1;show List.filterMap _ [n]=_;rw [List.filterMap_cons,List.filterMap_nil];cases n.c.find line<;>rfl
theorem yB (b:Bu) (line:Int) {i:Nat} (hi:i<=b.ns.length):∃ r,lK b line b.ns.length=lK b line i++r:=by
 refine ⟨(b.ns.drop i).filterMap λ n=>n.c.find line,?_⟩;unfold lK;rw [zh (qh _),<-List.filterMap_append,kn]
theorem GQ {b:Bu} {line:Int} {i:Nat} {n:No} {e:En} (hn:b.ns[i]? = some n) (he:n.c.find line=some e):(rf b line)[(lK b line i).length]? = some [.agg (aq e)]:=by
 have hl:=(qj.1 hn).1;obtain ⟨r,hr⟩:=yB b line (i:=i+1) (by omega);unfold rf;rw [hr,uI hn,he,xj];show Option.map _ ((lK b line i ++ [e]++r)[(lK b line i).length]?)=_;rw [zi,jh (qh _),Nat.sub_self];rfl
section
variable {Hb H0:AHeap} {B p q:Nat} {s:Bs} {b:Bu} {own:Nat->Nat} {line:Int}
def hdO (Hb:AHeap) (B:Nat) (s:Bs) (p q:Nat) (z:Nat):Prop:=z<Hb.next\/z=p\/z=q\/gE B s z
theorem tN (h:cR Hb H0 B s b own) (hb:BB b) (hp:H0.get p=some (OR [.ptr B 0] FB)) (hq:H0.get q=some (OR [.int .i64 line] cV)) (hpl:p<H0.next) (hql:q<H0.next) (hbl:Hb.next<=H0.next) :
 ny M yv [] [.ptr p 0,.ptr q 0] (hdO Hb B s p q) (λ _=>False) H0 (rf b line):=by
 intro Y R S W0 H1 hnx hN hR0 hW0 loc locS step;obtain ⟨p1,p2,p3⟩:=hN p (.inl (.inr (.inl rfl)));obtain ⟨q1,q2,q3⟩:=hN q (.inl (.inr (.inr (.inl rfl))));have hN4:=hb.N4;have kp:∀ {Hx:AHeap},Fr W0 H1 Hx->cR Hb Hx B s b own:=λ {Hx} f=>by
  have f0:Fr (λ z=>Hb.next<=z /\ ¬ gE B s z) H0 Hx:=by
   refine ⟨xu hnx f.next,λ z hz hw=>?_⟩;have hk:hdO Hb B s p q z:=by
    by_cases w1:z<Hb.next
    ·exact .inl w1
    ·by_cases w2:gE B s z
     ·exact .inr (.inr (.inr w2))
     ·exact absurd ⟨by omega,w2⟩ hw
   obtain ⟨-,k2,k3⟩:=hN z (.inl hk);rw [f.ae z (by omega) k3,k2]
  exact h.fr f0 λ z w=>w
 suffices hs:jx M yv [.fn (.yield Y) [] [],.ptr p 0,.ptr q 0] H1 (JQ R S W0 (λ _=>False) H1 (rf b line).length) by
  obtain ⟨v,H',hc,W',q1,q2,q3⟩:=hs.elim;exact ⟨v,H',W',hc,q1,q2,q3⟩
 refine qs8 ?_;obtain ⟨w0,w4,w10,w21,w16⟩:=qs9 M ⟨none,yv⟩;have lp:∀ {Hx:AHeap},Fr W0 H1 Hx->Op.aa [.ptr p 0] Hx=some (.ptr B 0):=λ f=>by rw [ze (xb (by rw [f.ae _ (by omega) p3,p2];exact hp))];rfl
 have lq:∀ {Hx:AHeap},Fr W0 H1 Hx->Op.aa [.ptr q 0] Hx=some (.int .i64 line):=λ f=>by rw [ze (xb (by rw [f.ae _ (by omega) q3,q2];exact hq))];rfl
 have r0:=Fr.refl (W:=W0) H1;have h1:=kp r0;have hln:=h1.nv.sl.len;rw [zg,h1.al] at hln;have hll:(rf b line).length=(lK b line b.ns.length).length:=zg _;simp only [↓qi,xd,reduceIte,reduceEqDiff,w0,lp r0,qg,h1.l1,hln];refine bu.intro (λ n E Hx=>∃ (i:Nat) (V:Nat->Prop),E=[(13,.int .i64 (i:Int)),(12,.int .i64 ((b.ns.length:Nat):Int)),(11,s.nv),(0,.fn (.yield Y) [] []),(1,.ptr p 0),(2,.ptr q 0)]/\n=b.ns.length-i/\i<=b.ns.length/\JR R W0 H1 Hx (lK b line i).length V) ?_ ?_
 ·exact ⟨_,_,⟨0,W0,rfl,rfl,zq _,⟨hR0,λ b hb=>⟨hW0 b hb,.inl hb⟩,Fr.refl _⟩⟩,by simp only [↓qi,xd,reduceIte,reduceEqDiff]⟩
 rintro n E Hx ⟨i,V,rfl,rfl,hi,hI⟩
 by_cases c1:(i:Int)<((b.ns.length:Nat):Int)
 ·obtain ⟨nd,hn⟩:∃ n,b.ns[i]? = some n:=⟨_,qz (by omega)⟩
  have hx:=kp hI.fr;obtain ⟨A,hA,nr⟩:=hx.cu hn;have hxx:(s.ad.map Na.r)[i]? = some A.r:=by rw [xj,hA];rfl
  have ix:=hx.nv.sl.idx hxx (z:=(i:Int)) rfl .i64;have ld:=hx.nv.sl.mh MM hxx (by decide);have ld:Op.aa [.ptr (aN s.nv) (cr 1 s.nv i)] Hx=some (.ptr A.r 0):=ld;obtain ⟨ni,-,-⟩:=hb.no _ nd hn;have wj:aW .i64 ((i:Int)+1)=((i+1:Nat):Int):=by rw [vl (by omega) (by omega)];omega
  simp only [↓qi,xd,reduceIte,reduceEqDiff,w4,c1,w10,ix,ld,lq hI.fr];refine C3.q (q60 (M:=M) nr ni.ci line) λ v H3 ⟨hv,f3⟩=>?_;rw [hv];have f03:Fr W0 H1 H3:=hI.fr.trans f3 λ _ w=>w.elim;obtain ⟨H4,e4⟩:∃ X,X=H3.alloc (OR (aq .zero) qt):=⟨_,rfl⟩
  have f4:Fr Em H3 H4:=by rw [e4];exact (Fr.refl H3).alloc _
  have g4:H4.get H3.next=some (OR (aq .zero) qt):=by rw [e4,qy]
  unfold iC;cases hf:nd.c.find line with
  | none =>
   have st:=fG g4 (zt _) (zt .zero) (mQ .zero);have hs:=uI (line:=line) hn;rw [hf] at hs;simp only [zb] at hs;obtain ⟨H5,e5⟩:∃ X,X=H4.set H3.next (OR (aq .zero) qt):=⟨_,rfl⟩
   rw [<-e5] at st;have f5:Fr Em H3 H5:=by rw [e5];exact f4.set (.inr (qh _)) _
   have fx5:Fr Em Hx H5:=f3.trans f5 λ _ w=>w.elim;simp only [↓qi,xd,reduceIte,reduceEqDiff,qr,eZ,<-e4,st,w16];simp only [↓qi,xd,reduceIte,reduceEqDiff,w21,wj];refine ⟨_,_,⟨i+1,V,rfl,rfl,by omega,⟨?_,λ z hz=>⟨qp (hI.hV z hz).1 fx5.next,(hI.hV z hz).2⟩,hI.fr.trans fx5 λ _ w=>w.elim⟩⟩,by simp only [↓qi,xd,reduceIte,reduceEqDiff],by omega⟩;rw [hs];exact loc _ V Hx H5 hI.hR (λ z hz=>fx5.ae z (hI.hV z hz).1 id) fx5.next
  | some e =>
   have st:=fG g4 (zt _) (zt e) (mQ e);have hs:=uI (line:=line) hn;rw [hf] at hs;obtain ⟨H5,e5⟩:∃ X,X=H4.set H3.next (OR (aq e) qt):=⟨_,rfl⟩
   rw [<-e5] at st;have g5:H5.get H3.next=some (OR (aq e) qt):=by rw [e5,xe]
   have f5:Fr Em H3 H5:=by rw [e5];exact f4.set (.inr (qh _)) _
   have fx5:Fr Em Hx H5:=f3.trans f5 λ _ w=>w.elim;have ld5:=fm g5 (zt e);obtain ⟨bb,H6,W2,hr,hf6,hW2,ht,hs6⟩:=step _ [.agg (aq e)] (GQ hn hf) V H5 (loc _ V Hx H5 hI.hR (λ z hz=>fx5.ae z (hI.hV z hz).1 id) fx5.next) (λ z hz=>⟨qp (hI.hV z hz).1 fx5.next,(hI.hV z hz).2⟩) ((hI.fr.trans fx5 λ _ w=>w.elim).mono λ _ _ w=>.inl w);have fr6:Fr W0 H1 H6:=(hI.fr.trans fx5 λ _ w=>w.elim).trans hf6 λ z w=>(hI.hV z w).2;have hV2:∀ z,W2 z->z<H6.next/\(W0 z\/H1.next<=z):=λ z w=>⟨(hW2 z w).1,(hW2 z w).2.elim (λ w=>(hI.hV z w).2) λ w=>.inr (xu (xu hI.fr.next fx5.next) w)⟩
   simp only [↓qi,xd,reduceIte,reduceEqDiff,qr,eZ,<-e4,st,w16,ld5];refine C3.Aa hr ?_;cases bb with
   | true =>
    simp only [↓qi,xd,reduceIte,reduceEqDiff];simp only [↓qi,xd,reduceIte,reduceEqDiff,w21,wj];exact ⟨_,_,⟨i+1,W2,rfl,rfl,by omega,⟨by rw [hs,qx];exact ht rfl,hV2,fr6⟩⟩,by simp only [↓qi,xd,reduceIte,reduceEqDiff],by omega⟩
   | false =>
    simp only [↓qi,xd,reduceIte,reduceEqDiff];exact ⟨W2,fr6.mono λ _ _ w=>.inl w,hV2,.inr (hs6 rfl)⟩
 ·have hiw:i=b.ns.length:=by omega
  simp only [↓qi,xd,reduceIte,reduceEqDiff,w4,c1];exact ⟨V,hI.fr.mono λ _ _ w=>.inl w,hI.hV,.inl (by rw [hll,<-hiw];exact hI.hR)⟩
end
end Go.Am
namespace Go.Am
open Go.Proofs Ca
open Lang (ints)
variable {M:aL} [MK M]
theorem zJ {b:Bu} {V:Int->L8} (hI:BuI b V) {j:Nat} {w:L8} (hj:j<b.l.length) (hw:b.m[j]? = some w) (hm:∀ m ∈ b.fl,m.line=(j:Int)->m.k ≠ 3/\m.k ≠ 5) (hs:∀ (c:Nat) n,b.ns[c]? = some n->n.st j ≠ 2):w=V j:=by
 obtain ⟨x,w',-,hw',he⟩:=hI.entry (l:=(j:Int)) (by omega) (by omega);rw [zl,hw] at hw';injection hw' with hw';subst hw'
 refine he.dw ?_
 by_cases q:x.ow = -1
 ·exact .inl q
 ·right;obtain ⟨o1,o2⟩:=he.xi.ow;have lc:=he.lc x.ow (by omega) o2;have ow:=lc.ow;rw [i6 rfl] at ow;obtain ⟨n,hn,-⟩:=hI.core (c:=x.ow) (by omega) o2;have e1:cC (b.s j x.ow) 2=0:=by
   have:=hs _ n hn;have hh:=(BuI.cu hn (j:Int)).1;rw [show ((x.ow.toNat:Nat):Int)=x.ow by omega] at hh;rw [hh];exact mi this
  have a3:(qs b.fl x.ow j).a3=0:=Jy λ m hmm q=>(hm m hmm q.2.2).1 q.1;have a5:(qs b.fl x.ow j).a5=0:=Jy λ m hmm q=>(hm m hmm q.2.2).2 q.1;omega
section
variable {Hb H:AHeap} {B:Nat} {s:Bs} {b:Bu} {own:Nat->Nat} {V:Int->L8}
theorem q6c {H:AHeap} (B:Nat) (line:Int):jx M FE [.ptr B 0,.int .i64 line] H λ v H'=>v=.fn (.func yv) [] [.ptr H.next 0,.ptr (H.next+1) 0]/\H'=(H.alloc (OR [.ptr B 0] FB)).alloc (OR [.int .i64 line] cV):=by
 refine qxk ?_;obtain ⟨H1,e1⟩:∃ X,X=H.alloc (OR [.ptr B 0] FB):=⟨_,rfl⟩
 have n1:H1.next=H.next+1:=by rw [e1,xp]
 have ca:AV.cells (.ptr B 0)=[.ptr B 0]:=rfl;have cb:AV.cells (.int .i64 line)=[.int .i64 line]:=rfl;have mk:Op.bZ yv 0 [.ptr H.next 0,.ptr (H.next+1) 0]=some (.fn (.func yv) [] [.ptr H.next 0,.ptr (H.next+1) 0]):=rfl;simp only [↓qi,xd,reduceIte,reduceEqDiff,qxl,ca,cb,<-e1,n1,mk];rfl
structure CoI (b:Bu) (V:Int->L8) (j:Nat) (w:L8) (t i:Nat) (W:Nat->Prop) (Hx:AHeap):Prop where
 vt:W t
 ex:∃ x:L8,Hx.get t=some (OR (bS x) zf)/\(x=V j\/x=w/\(∀ m ∈ b.fl,m.line=(j:Int)->m.k ≠ 3/\m.k ≠ 5) /\ ∀ e ∈ (lK b j b.ns.length).take i,e.st ≠ 2)
 lt:t<Hx.next
theorem zP {b:Bu} {line:Int} {e:En} (h:e ∈ lK b line b.ns.length):∃ (c:Nat) (n:No),b.ns[c]? = some n/\n.c.find line=some e:=by
 unfold lK at h;rw [zh (qh _)] at h;obtain ⟨n,hn,he⟩:=List.mem_filterMap.1 h;obtain ⟨c,hc⟩:=HH.1 hn;exact ⟨c,n,hc,he⟩
theorem GG {H:AHeap} {t T:Nat} {e:En} (h:H.get t=some (OR (aq e) T)):Op.ao 8 [.ptr t 4] H=some (.agg (bS e.d))/\Op.ao 8 [.ptr t 12] H=some (.agg (bS e.o)):=by
 have hl:=zt e;have e1:aq e=[.int .i64 e.line,.int .i64 e.st,.bool e.r,.bool e.w]++(bS e.d++(bS e.o ++ [.int .i64 e.u])):=rfl;constructor
 ·rw [qJ (xb h) (by omega),e1,List.drop_left' (by rfl),List.take_left' (ku _)]
 ·rw [qJ (xb h) (by omega),e1,<-zi,List.drop_left' (by rw [qx,ku];rfl),List.take_left' (ku _)]
theorem qy6 (h:cR Hb H B s b own) (hb:BB b) (hI:BuI b V) (hbl:Hb.next<=H.next) {a:Nat} (ha:a<8*b.l.length) (hl:b.l.length<=64):jx M ym [.ptr B 0,.int .i64 (a:Int)] H λ v H'=>v=.tuple [.int .u64 ((V ((a / 8:Nat):Int)).get (a % 8)),.int .i64 0]/\Fr Em H H':=by
 refine qpz ?_;obtain ⟨w0,wa,wb,w2,wb7,w3,w18,w22,w24,w47,w29,w49,w35,w54,w46⟩:=qjb M ⟨none,ym⟩;have hj:a / 8<b.l.length:=by omega
 obtain ⟨wd,hwd⟩:∃ x,b.m[a / 8]? = some x:=⟨_,qz (by rw [hI.ml];exact hj)⟩
 have q0:¬ (a:Int)<0:=by omega
 have wm:aW .i64 (((b.l.length:Nat):Int)*8)=((b.l.length*8:Nat):Int):=by rw [vl (by omega) (by omega)];omega
 have q1:¬ ((b.l.length*8:Nat):Int)<=(a:Int):=by omega
 have qu:=ra (a:=a) (by omega);have re:=DQ (a:=a) (by omega);have pn:Op.eq .ptr false [.ptr B 0,.nilp] H=some (.bool false):=rfl;simp only [↓qi,xd,reduceIte,reduceEqDiff,w0,w2,w3,pn,q0,qg,h.l3,wm,q1,BM,w18,qu,re,h.l0];refine C3.q (q8l (M:=M) h hwd) λ v H1 ⟨hv,f1⟩=>?_;rw [hv];obtain ⟨H2,e2⟩:∃ X,X=H1.alloc (OR (bS .zero) zf):=⟨_,rfl⟩
 have f2:Fr Em H1 H2:=by rw [e2];exact (Fr.refl H1).alloc _
 have g2:H2.get H1.next=some (OR (bS .zero) zf):=by rw [e2,qy]
 have st2:=fG g2 (ku _) (ku wd) (nN wd);obtain ⟨H3,e3⟩:∃ X,X=H2.set H1.next (OR (bS wd) zf):=⟨_,rfl⟩
 rw [<-e3] at st2;have g3:H3.get H1.next=some (OR (bS wd) zf):=by rw [e3,xe]
 have n3:H3.next=H1.next+1:=by rw [e3,e2];rfl
 have f3:Fr Em H1 H3:=by rw [e3];exact f2.set (.inr (qh _)) _
 have f03:=f1.trans f3 λ _ q=>q.elim;have n1:=f1.next
 generalize ht:H1.next=t at *
 -- behind the messages
 have rest:∀ (Hx:AHeap) (x:L8) (E:Env) (Q:aI),Fr Em H Hx->Hx.get t=some (OR (bS x) zf)->t<Hx.next->(x=V ((a / 8:Nat):Int)\/x=wd /\ ∀ m ∈ b.fl,m.line=((a / 8:Nat):Int)->m.k ≠ 3/\m.k ≠ 5) ->
  lk E 0=some (.ptr B 0)->lk E 6=some (.int .i64 ((a / 8:Nat):Int))->lk E 7=some (.int .i64 ((a % 8:Nat):Int))->lk E 8=some (.ptr t 0) ->
  W M ⟨none,ym⟩ (xx 49) true (mF (xx 3).2 (aK M [.tmp 4,.tmp 5] (kY λ v H'=>v=.tuple [.int .u64 ((V ((a / 8:Nat):Int)).get (a % 8)),.int .i64 0]/\Fr Em H H'))) E [] Hx:=by
  intro Hx x E Q fx gx hlt hx e0 e6 e7 e8;have hbx:=h.em fx;simp only [↓qi,xd,reduceIte,reduceEqDiff,w49,e0,e6];refine C3.q (q6c (M:=M) B ((a / 8:Nat):Int)) λ v H5 ⟨hv,hh⟩=>?_;rw [hv];obtain ⟨H4,e4⟩:∃ X,X=Hx.alloc (OR [.ptr B 0] FB):=⟨_,rfl⟩
  rw [<-e4] at hh;have f4:Fr Em Hx H4:=by rw [e4];exact (Fr.refl Hx).alloc _
  have n4:H4.next=Hx.next+1:=by rw [e4,xp]
  have f5:Fr Em H4 H5:=by rw [hh];exact (Fr.refl H4).alloc _
  have n5:H5.next=H4.next+1:=by rw [hh,xp]
  have gp:H5.get Hx.next=some (OR [.ptr B 0] FB):=by rw [f5.ae _ (by omega) id,e4,qy]
  have gq:H5.get (Hx.next+1)=some (OR [.int .i64 ((a / 8:Nat):Int)] cV):=by rw [<-n4,hh,qy]
  have fx5:Fr Em Hx H5:=f4.trans f5 λ _ q=>q.elim;have h5:=hbx.em fx5;have nx:=fx.next
  have gt5:H5.get t=some (OR (bS x) zf):=by rw [fx5.ae _ hlt id];exact gx
  have hbw:∀ z,gE B s z->z<H.next:=λ z q=>h.low q
  refine eK.iter (fn:=EV) (lp:=CF) (pa:=qid 0) (pb:=Iq 0) qpb qhs.1 qhs.2 (by decide) ⟨rfl,p7 CF.assign⟩ ⟨rfl,p7 CF.body⟩
   (tN (M:=M) (line:=((a / 8:Nat):Int)) h5 hb gp gq (by omega) (by omega) (by omega)) (λ i W Hy=>CoI b V (a / 8) wd t i W Hy) (λ _ _ _=>False) (λ z=>z=t) (qh _) ?_ ?_ ?_ ?_ ?_ ?_ ?_ ?_
  ·rintro z ((q|q|q|q) | q)
   ·exact ⟨by omega,rfl,by omega⟩
   ·exact ⟨by omega,rfl,by omega⟩
   ·exact ⟨by omega,rfl,by omega⟩
   ·exact ⟨by have:=hbw z q;omega,rfl,by have:=hbw z q;omega⟩
   ·exact q.elim
  ·exact λ z hz=>by omega
  ·refine ⟨rfl,⟨x,gt5,?_⟩,by omega⟩;rcases hx with q|⟨q1,q2⟩
   ·exact .inl q
   ·exact .inr ⟨q1,q2,λ e he=>by simp at he⟩
  ·exact λ i W Ha Hb' hP hs hn=>⟨hP.vt,by obtain ⟨y,g,c⟩:=hP.ex;exact ⟨y,by rw [hs _ hP.vt];exact g,c⟩,qp hP.lt hn⟩
  ·exact λ e W Ha Hb' hP _ _=>hP
  ·intro L2 i lr lb xv hxv hL2 W H6 hP hW hf6 hnL hL6 hgL;have hxv:((lK b ((a / 8:Nat):Int) b.ns.length).map λ e=>[AV.agg (aq e)])[i]? = some xv:=hxv;rw [xj,xh] at hxv;obtain ⟨e,he,rfl⟩:=hxv;obtain ⟨c,n,hn,hfe⟩:=zP (ja he);have ni:=(hI.nw c n hn).ni;have hst:=(ni.ci.jZ hfe).1;have hvw:n.vw ((a / 8:Nat):Int)=e.vw:=aZ hfe;refine ⟨_,rfl,?_⟩;obtain ⟨-,wa,wb,-,wb7,-⟩:=qjb M ⟨some L2,ym⟩;obtain ⟨H7,e7'⟩:∃ X,X=H6.alloc (OR (aq .zero) qt):=⟨_,rfl⟩
   have f7:Fr Em H6 H7:=by rw [e7'];exact (Fr.refl H6).alloc _
   have g7:H7.get H6.next=some (OR (aq .zero) qt):=by rw [e7',qy]
   have st7:=fG g7 (zt _) (zt e) (mQ e);obtain ⟨H8,e8'⟩:∃ X,X=H7.set H6.next (OR (aq e) qt):=⟨_,rfl⟩
   rw [<-e8'] at st7;have f8:Fr Em H6 H8:=by rw [e8'];exact f7.set (.inr (qh _)) _
   have g8:H8.get H6.next=some (OR (aq e) qt):=by rw [e8',xe]
   have n8:H8.next=H6.next+1:=by rw [e8',e7'];rfl
   simp only [↓qi,xd,reduceIte,reduceEqDiff,wa,eZ,<-e7',st7,Fu];refine ⟨by rw [f8.ae _ hL6 id];exact hgL,?_⟩;obtain ⟨y,gy,hy⟩:=hP.ex;have hLt:L2 ≠ t:=λ q=>hnL (by rw [q];exact hP.vt);have htl:=hP.lt;obtain ⟨H9,e9⟩:∃ X,X=H8.set L2 lb:=⟨_,rfl⟩
   rw [<-e9];have f9:Fr (On L2) H8 H9:=by rw [e9];exact (Fr.refl H8).set (W:=On L2) (.inl rfl) _
   have n9:H9.next=H8.next:=by rw [e9];rfl
   have gL9:H9.get L2=some lb:=by rw [e9];exact xe ..
   have g9:H9.get H6.next=some (OR (aq e) qt):=by rw [f9.ae _ (by omega) (λ (q:H6.next=L2)=>by omega)];exact g8
   have gt9:H9.get t=some (OR (bS y) zf):=by rw [f9.ae _ (by omega) (λ (q:t=L2)=>hLt q.symm),f8.ae _ htl id];exact gy
   have F9:Fr (λ z=>W z\/z=L2) H6 H9:=(f8.mono λ z _ q=>q.elim).trans f9 λ z q=>.inl (.inr q);have l1:Op.aa [.ptr H6.next 1] H9=some (.int .i64 e.st):=ze (xb g9) 1;have l3:Op.aa [.ptr H6.next 3] H9=some (.bool e.w):=ze (xb g9) 3;obtain ⟨lD,lO⟩:=GG g9;have tk:(lK b ((a / 8:Nat):Int) b.ns.length).take (i+1)=(lK b ((a / 8:Nat):Int) b.ns.length).take i ++ [e]:=by rw [yT,he];rfl
   have hV9:∀ z,W z->z<H9.next/\(W z\/H6.next<=z):=λ z hz=>⟨by have:=(hW z hz).1;omega,.inl hz⟩
   by_cases s2:e.st=2
   ·have hb':(n.vw ((a / 8:Nat):Int)).base=V ((a / 8:Nat):Int):=hI.bs c n hn _ (by show (n.vw ((a / 8:Nat):Int)).st ≠ 0;rw [hvw];exact hst);rw [hvw] at hb';have stD:=fG gt9 (ku _) (ku e.d) (nN e.d);obtain ⟨H10,e10⟩:∃ X,X=H9.set t (OR (bS e.d) zf):=⟨_,rfl⟩
    rw [<-e10] at stD;have f10:Fr (On t) H9 H10:=by rw [e10];exact (Fr.refl H9).set (W:=On t) (.inl rfl) _
    have n10:H10.next=H9.next:=by rw [e10];rfl
    have g10:H10.get t=some (OR (bS e.d) zf):=by rw [e10,xe]
    have gL10:H10.get L2=some lb:=by rw [f10.ae _ (by omega) hLt];exact gL9
    have F10:Fr (λ z=>W z\/z=L2) H6 H10:=F9.trans f10 λ z (q:z=t)=>.inl (.inl (by rw [q];exact hP.vt));have hV10:∀ z,W z->z<H10.next/\(W z\/H6.next<=z):=λ z hz=>⟨by have:=(hW z hz).1;omega,.inl hz⟩
    have h6t:H6.next ≠ t:=by omega
    have g610:H10.get H6.next=some (OR (aq e) qt):=by rw [f10.ae _ (by omega) h6t];exact g9
    have l3':Op.aa [.ptr H6.next 3] H10=some (.bool e.w):=ze (xb g610) 3;obtain ⟨-,lO'⟩:=GG g610;cases hw:e.w with
    | false =>
     rw [hw] at l3';simp only [↓qi,xd,reduceIte,reduceEqDiff,wb,l1,xf s2,wb7,lD,stD,l3',e8];exact ⟨rfl,gL10,W,hV10,F10,.inl ⟨rfl,hP.vt,⟨e.d,g10,.inl (by rw [<-hb'];unfold Vw.base En.vw;rw [hw];rfl)⟩,by omega⟩⟩
    | true =>
     rw [hw] at l3';have stO:=fG g10 (ku _) (ku e.o) (nN e.o);simp only [↓qi,xd,reduceIte,reduceEqDiff,wb,l1,xf s2,wb7,lD,stD,l3',lO',stO,e8];exact ⟨rfl,by rw [vk (ve hLt)];exact gL10,W,hV10,F10.set (.inl (.inl hP.vt)) _,.inl ⟨rfl,hP.vt,⟨e.o,xe ..,.inl (by rw [<-hb'];unfold Vw.base En.vw;rw [hw];rfl)⟩,by show t<H10.next;omega⟩⟩
   ·simp only [↓qi,xd,reduceIte,reduceEqDiff,wb,l1,s2];refine ⟨rfl,gL9,W,hV9,F9,.inl ⟨rfl,hP.vt,⟨y,gt9,?_⟩,by omega⟩⟩;rcases hy with q|⟨q1',q2,q3⟩
    ·exact .inl q
    ·refine .inr ⟨q1',q2,λ e' he'=>?_⟩;rw [tk] at he';rcases xy.1 he' with w|w
     ·exact q3 e' w
     ·rw [xn.1 w];exact s2
  ·intro d W Hd hd1 hd2 hgd hfd hWd hP;obtain ⟨y,gy,hy⟩:=hP.ex;have ey:y=V ((a / 8:Nat):Int):=by
    rcases hy with q|⟨q1,q2,q3⟩
    ·exact q
    ·rw [q1];refine zJ hI hj hwd q2 λ c n hn hs=>?_;obtain ⟨k,-,hf,-,-,hst,-⟩:=No.aZ (hI.nw c n hn).ni (l:=((a / 8:Nat):Int)) (by rw [hs];decide);have hmem:n.c.en k ∈ lK b ((a / 8:Nat):Int) b.ns.length:=by
      unfold lK;rw [zh (qh _)];exact List.mem_filterMap.2 ⟨n,ja hn,hf⟩
     have hln:(rf b ((a / 8:Nat):Int)).length=(lK b ((a / 8:Nat):Int) b.ns.length).length:=zg _;rw [zh (by rw [hln];exact qh _)] at q3;exact q3 _ hmem (by rw [hst];exact hs)
   have hdt:d ≠ t:=λ q=>by have:=(hWd _ hP.vt).2.2;omega
   have h8:a % 8<8:=ry _ (by decide);have ixd:Op.aT 8 1 [.ptr t 0,.int .i64 ((a % 8:Nat):Int)]=some (.ptr t (a % 8)):=by rw [Nu rfl h8,yd,Dm]
   have ldd:Op.aa [.ptr t (a % 8)] Hd=some (.int .u64 (y.get (a % 8))):=by
    rw [ze (xb gy)];show (bS y)[a % 8]? = _;unfold bS L8.get;rw [xj];obtain ⟨u,hu⟩:∃ u,y.l[a % 8]? = some u:=⟨_,qz (by rw [y.h];exact h8)⟩
    rw [hu];rfl
   simp only [↓qi,xd,reduceIte,reduceEqDiff,e7,e8,w54,ixd,ldd,pW,AZ];refine ⟨hgd,by rw [ey],?_⟩;exact ((fx.trans fx5 λ _ q=>q.elim).trans (W':=λ x=>x=t\/False) hfd λ z q=>q.elim (λ q=>.inr (by omega)) False.elim).set (.inr (by omega)) _
  ·exact λ e d W Hd _ _ _ _ _ _ hS=>hS.elim
 have h3:=h.em f03;have hfl:b.fl.length<=900000:=hb.fl;have hln:=h3.fl.len za;simp only [↓qi,xd,reduceIte,reduceEqDiff,qr,lZ,<-e2,ht,st2,w22,w24,qg,h3.l2,hln];refine bu.intro (λ m E Hx=>∃ i:Nat,m=b.fl.length-i/\i<=b.fl.length/\E=[(46,.int .i64 (i:Int)),(45,.int .i64 ((b.fl.length:Nat):Int)),(44,s.fv),(8,.ptr t 0),(7,.int .i64 ((a % 8:Nat):Int)),(6,.int .i64 ((a / 8:Nat):Int)),(0,.ptr B 0),(1,.int .i64 (a:Int))]/\Fr Em H3 Hx /\ ∀ m ∈ b.fl.take i,m.line=((a / 8:Nat):Int)->m.k ≠ 3/\m.k ≠ 5) ?_ ?_
 ·exact ⟨_,_,⟨0,rfl,zq _,rfl,Fr.refl _,λ m hm=>by simp at hm⟩,by simp only [↓qi,xd,reduceIte,reduceEqDiff]⟩
 rintro m E Hx ⟨i,rfl,hi,rfl,fx,hno⟩;have gx:Hx.get t=some (OR (bS wd) zf):=by rw [fx.ae _ (by omega) id];exact g3
 have nx:=fx.next
 by_cases q:(i:Int)<((b.fl.length:Nat):Int)
 ·obtain ⟨mm,hmm⟩:∃ m,b.fl[i]? = some m:=⟨_,qz (by omega)⟩
  have hf:=(h3.em fx).fl.sl za;have ix:=hf.idx hmm (z:=(i:Int)) rfl .i64;have ld:=hf.ao za (by decide) hmm;have wi:aW .i64 ((i:Int)+1)=((i+1:Nat):Int):=by rw [vl (by omega) (by omega)];omega
  obtain ⟨H4,e4⟩:∃ X,X=Hx.alloc (OR (ai ⟨0,0,0,.zero⟩) qo):=⟨_,rfl⟩
  have f4:Fr Em Hx H4:=by rw [e4];exact (Fr.refl Hx).alloc _
  have g4:H4.get Hx.next=some (OR (ai ⟨0,0,0,.zero⟩) qo):=by rw [e4,qy]
  have st4:=fG g4 (za _) (za mm) (kM mm);obtain ⟨H5,e5⟩:∃ X,X=H4.set Hx.next (OR (ai mm) qo):=⟨_,rfl⟩
  rw [<-e5] at st4;have f5:Fr Em Hx H5:=by rw [e5];exact f4.set (.inr (qh _)) _
  have g5:H5.get Hx.next=some (OR (ai mm) qo):=by rw [e5,xe]
  have n5:=f5.next
  have l0:Op.aa [.ptr Hx.next 0] H5=some (.int .i64 mm.k):=ze (xb g5) 0;have l2:Op.aa [.ptr Hx.next 2] H5=some (.int .i64 mm.line):=ze (xb g5) 2;have l8:Op.ao 8 [.ptr Hx.next 3] H5=some (.agg (bS mm.d)):=by
   rw [qJ (xb g5) (by rw [za];decide),show ai mm=[.int .i64 mm.k,.int .i64 mm.core,.int .i64 mm.line]++(bS mm.d ++ []) by rw [zb];rfl,List.drop_left' (by rfl),List.take_left' (ku _)]
  have gt5:H5.get t=some (OR (bS wd) zf):=by rw [f5.ae _ (by omega) id];exact gx
  have st8:=fG gt5 (ku _) (ku mm.d) (nN mm.d);have fx5:=fx.trans f5 λ _ q=>q.elim;have tk:b.fl.take (i+1)=b.fl.take i ++ [mm]:=by rw [yT,hmm];rfl
  have on:(mm.line=((a / 8:Nat):Int)->mm.k ≠ 3/\mm.k ≠ 5) -> ∀ m ∈ b.fl.take (i+1),m.line=((a / 8:Nat):Int)->m.k ≠ 3/\m.k ≠ 5:=λ hq m hm=>by
   rw [tk] at hm;rcases xy.1 hm with w|w
   ·exact hno m w
   ·rw [xn.1 w];exact hq
  have found:(mm.line=((a / 8:Nat):Int)/\(mm.k=3\/mm.k=5))->mm.d=V ((a / 8:Nat):Int):=λ⟨hq,hk⟩=>by
   obtain ⟨x,w',-,-,he⟩:=hI.entry (l:=((a / 8:Nat):Int)) (by omega) (by omega);exact he.dm mm (ja hmm) hq (hk.elim .inl λ q=>.inr (.inl q))
  have F8:Fr Em H (H5.set t (OR (bS mm.d) zf)):=(f03.trans fx5 λ _ q=>q.elim).set (.inr (by omega)) _
  by_cases ql:mm.line=((a / 8:Nat):Int)
  ·by_cases k3:mm.k=3
   ·simp only [↓qi,xd,reduceIte,reduceEqDiff,w29,q,w35,ix,ld,mZ,<-e4,st4,l2,xf ql,l0,xf k3,l8,st8,w47];refine rest _ mm.d _ (λ _ _ _ _=>True) F8 (xe ..) (by show t<H5.next;omega) (.inl (found ⟨ql,.inl k3⟩)) ?_ ?_ ?_ ?_<;>rfl
   ·by_cases k5:mm.k=5
    ·simp only [↓qi,xd,reduceIte,reduceEqDiff,w29,q,w35,ix,ld,mZ,<-e4,st4,l2,xf ql,l0,k3,xf k5,l8,st8,w47];refine rest _ mm.d _ (λ _ _ _ _=>True) F8 (xe ..) (by show t<H5.next;omega) (.inl (found ⟨ql,.inr k5⟩)) ?_ ?_ ?_ ?_<;>rfl
    ·simp only [↓qi,xd,reduceIte,reduceEqDiff,w29,q,w35,ix,ld,mZ,<-e4,st4,l2,xf ql,l0,k3,k5];simp only [↓qi,xd,reduceIte,reduceEqDiff,w46,wi];exact ⟨_,_,⟨i+1,rfl,by omega,rfl,fx5,on λ _=>⟨k3,k5⟩⟩,by simp only [↓qi,xd,reduceIte,reduceEqDiff],by omega⟩
  ·simp only [↓qi,xd,reduceIte,reduceEqDiff,w29,q,w35,ix,ld,mZ,<-e4,st4,l2,ql];simp only [↓qi,xd,reduceIte,reduceEqDiff,w46,wi];exact ⟨_,_,⟨i+1,rfl,by omega,rfl,fx5,on λ w=>absurd w ql⟩,by simp only [↓qi,xd,reduceIte,reduceEqDiff],by omega⟩
 ·have e:i=b.fl.length:=by omega
  rw [e,zh (qh _)] at hno;simp only [↓qi,xd,reduceIte,reduceEqDiff,w29,q,w47];refine rest Hx wd _ (λ _ _ _ _=>True) (f03.trans fx λ _ q=>q.elim) gx (by omega) (.inr ⟨rfl,hno⟩) ?_ ?_ ?_ ?_<;>rfl
end
end Go.Am
namespace Go.Am
open Go.Proofs Ca
open Lang (ints)
variable {M:aL} [MK M]
theorem Dw {l c s w:Int} (h:gW l c s w):GV (di l c s w) (ie l) λ _=>.zero:=by
 refine ⟨λ a a0 a1=>?_,λ k n hn hl=>?_⟩
 ·have e1:(ie l).at' a=0:=by
   show ((List.replicate (8*l.toNat) (0:Int))[a.toNat]?).getD 0=0;rw [Gg];split<;>rfl
  have e2:∀ i,i<8->L8.zero.get i=0:=λ i hi=>by
   rcases (show i=0\/i=1\/i=2\/i=3\/i=4\/i=5\/i=6\/i=7 by omega) with rfl|rfl|rfl|rfl|rfl|rfl|rfl|rfl<;>rfl
  rw [e1,e2 _ (ry _ (by decide))]
 ·obtain ⟨-,rfl⟩:=DV hn;cases hl
theorem qy5 {H:AHeap} {l c s w:Int} {xv:AV} {xs:List Bt} (hal:∀ H1,Fr Em H H1->jx M qpo [] H1 λ v H'=>v=.bool true/\H'=H1) (hx:eJ fA 5 H xv xs):jx M Gm [.agg (cB l c s w),xv] H λ v _=>v=.bool true:=by
 refine qry ?_;obtain ⟨w0,w4,w6,w14,w60,w19,w25,w59,w29,w37,w41,w47,w58⟩:=qrz M ⟨none,Gm⟩;obtain ⟨H1,e1⟩:∃ X,X=H.alloc (OR (cB l c s w) vx):=⟨_,rfl⟩
 have f1:Fr Em H H1:=by rw [e1];exact (Fr.refl H).alloc _
 have n1:H1.next=H.next+1:=by rw [e1,xp]
 have g1:H1.get H.next=some (OR (cB l c s w) vx):=by rw [e1,qy]
 have ld4:Op.ao 4 [.ptr H.next 0] H1=some (.agg (cB l c s w)):=fm g1 rfl;have hx1:=hx.em f1;simp only [↓qi,xd,reduceIte,reduceEqDiff,w0,x9,<-e1];refine C3.q (hal H1 f1) λ v H2 ⟨hv,hh⟩=>?_;rw [hv,hh];simp only [↓qi,xd,reduceIte,reduceEqDiff,w4,ld4];refine C3.q (q6a (M:=M) l c s w hx1) λ v H3 hv=>?_;rcases yX hv with ⟨_,hv⟩|⟨⟨hok,hn⟩,B,G,bs,own,gs,tg,hv,hz⟩
 ·rw [hv];simp only [↓qi,xd,reduceIte,reduceEqDiff,qr,w6]
 rw [hv];simp only [↓qi,xd,reduceIte,reduceEqDiff,qr,w6,w14];refine bu.intro (λ m E Hx=>∃ (i:Nat) (bs:Bs) (own tg:Nat->Nat) (gs:Gs) (b:Bu) (g:Gh) (V:Int->L8),E=[(9,.int .i64 (i:Int)),(7,.ptr G 0),(6,.ptr B 0),(5,.bool true),(2,.ptr H.next 0),(1,xv)]/\m=xs.length-i/\i<=xs.length/\r9 H1 Hx B G l c i bs own gs tg b g V/\GV b g V) ?_ ?_
 ·exact ⟨_,_,⟨0,_,_,_,_,_,_,_,rfl,rfl,zq _,hz,Dw hok⟩,by simp only [↓qi,xd,reduceIte,reduceEqDiff]⟩
 rintro m E Hx ⟨i,bs,own,tg,gs,b,g,V,rfl,rfl,hi,hI,hG⟩;have hxx:=hx1.em hI.fr
 by_cases q:(i:Int)<((xs.length:Nat):Int)
 ·obtain ⟨x,hxi⟩:∃ x,xs[i]? = some x:=⟨_,qz (by omega)⟩
  have ix:=hxx.idx hxi (z:=(i:Int)) rfl .i64;have ld:=hxx.ao q8r (by decide) hxi;have wi:aW .i64 ((i:Int)+1)=((i+1:Nat):Int):=by rw [vl (by omega) (by omega)];omega
  obtain ⟨gok,gv⟩:=xT hI.I hI.g hG x;simp only [↓qi,xd,reduceIte,reduceEqDiff,w19,hxx.len,q,w25,ix,ld];refine C3.q (hI.step (M:=M) (by omega) x) λ v H4 ⟨hv,bs4,own4,gs4,tg4,hJ⟩=>?_;rw [hv,gok];simp only [↓qi,xd,reduceIte,reduceEqDiff,w29,w37];refine bu.intro (λ m E Hy=>∃ (k:Nat),E=[(11,.int .i64 (k:Int)),(9,.int .i64 (i:Int)),(7,.ptr G 0),(6,.ptr B 0),(5,.bool true),(2,.ptr H.next 0),(1,xv)]/\m=48-k/\k<=48/\Fr Em H4 Hy) ?_ ?_
  ·exact ⟨_,_,⟨0,rfl,rfl,by omega,Fr.refl _⟩,by simp only [↓qi,xd,reduceIte,reduceEqDiff]⟩
  rintro m E Hy ⟨k,rfl,rfl,hk,fy⟩;have hK:=hJ.em fy;have hg:=hK.r.gh;have hwl:=(hg.w.sl Fy).len;have hgl:=hK.g.len;have hll:=hK.l;have l64:l<=64:=hok.1.1.2;have done:∀ (Hz:AHeap),Fr Em H4 Hz -> ∃ (n':Nat) (E':Env),(∃ (i:Nat) (bs:Bs) (own tg:Nat->Nat) (gs:Gs) (b:Bu) (g:Gh) (V:Int->L8),E'=[(9,.int .i64 (i:Int)),(7,.ptr G 0),(6,.ptr B 0),(5,.bool true),(2,.ptr H.next 0),(1,xv)]/\n'=xs.length-i/\i<=xs.length/\r9 H1 Hz B G l c i bs own gs tg b g V/\GV b g V)/\E'=[(9,.int .i64 ((i+1:Nat):Int)),(7,.ptr G 0),(6,.ptr B 0),(5,.bool true),(2,.ptr H.next 0),(1,xv)]/\n'<xs.length-i:=λ Hz fz=>⟨_,_,⟨i+1,_,_,_,_,_,_,_,rfl,rfl,by omega,hJ.em fz,gv⟩,rfl,by omega⟩
  by_cases qk:(k:Int)<(((g.lJ b x).w.length:Nat):Int)
  ·by_cases q48:(k:Int)<48
   ·have wk:aW .i64 ((k:Int)+1)=((k+1:Nat):Int):=by rw [vl (by omega) (by omega)];omega
    simp only [↓qi,xd,reduceIte,reduceEqDiff,w41,qg,hg.l0,hwl,qk,q48,w47];refine C3.q (qy6 (M:=M) hK.r.jO (hK.bb (by omega)) hK.I hK.fr.next (a:=k) (by omega) (by omega)) λ v H5 ⟨hv,f5⟩=>?_;rw [hv];have hK5:=hK.em f5;obtain ⟨y,hy⟩:∃ y,(g.lJ b x).w[k]? = some y:=⟨_,qz (by omega)⟩
    obtain ⟨p,p1,p2⟩:=hK5.r.gh.Ep (z:=(k:Int)) (by omega) (by rw [zl];exact hy);have ey:((if x.k=7 then V else fw b V x) ((k / 8:Nat):Int)).get (k % 8)=y:=by
     have:=gv.w (k:Int) (by omega) (by omega);unfold Gh.at' at this;rw [zl,hy] at this;exact this.symm
    simp only [↓qi,xd,reduceIte,reduceEqDiff,qr,qg,hK5.r.gh.l0,p1,p2,ey];simp only [↓qi,xd,reduceIte,reduceEqDiff,w58,wk];exact ⟨_,_,⟨k+1,rfl,rfl,by omega,fy.trans f5 λ _ q=>q.elim⟩,by simp only [↓qi,xd,reduceIte,reduceEqDiff],by omega⟩
   ·simp only [↓qi,xd,reduceIte,reduceEqDiff,w41,qg,hg.l0,hwl,qk,q48];simp only [↓qi,xd,reduceIte,reduceEqDiff,w59,wi];obtain ⟨n',E',h1,h2,h3⟩:=done Hy fy;exact ⟨n',E',h1,by rw [h2];simp only [↓qi,xd,reduceIte,reduceEqDiff],h3⟩
  ·simp only [↓qi,xd,reduceIte,reduceEqDiff,w41,qg,hg.l0,hwl,qk];simp only [↓qi,xd,reduceIte,reduceEqDiff,w59,wi];obtain ⟨n',E',h1,h2,h3⟩:=done Hy fy;exact ⟨n',E',h1,by rw [h2];simp only [↓qi,xd,reduceIte,reduceEqDiff],h3⟩
 ·simp only [↓qi,xd,reduceIte,reduceEqDiff,w19,hxx.len,q,w60]
end Go.Am
