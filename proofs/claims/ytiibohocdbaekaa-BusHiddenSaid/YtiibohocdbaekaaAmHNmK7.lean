/- NmK7: NhF NhG NhH. -/
import Derived.Test.YtiibohocdbaekaaAmHNmK6
set_option linter.unusedVariables false
set_option linter.unusedSimpArgs false
set_option linter.unusedSectionVars false
set_option maxRecDepth 100000
open Nat (reduceEqDiff)
namespace Go.Am
open Go.Proofs Ca
variable {M:aL} [MK M]
theorem JJ (p:Nat->Bool) (k:Nat):(List.range (k+1)).filter p=(List.range k).filter p++(if p k then [k] else []):=by
 rw [List.range_succ,List.filter_append];congr 1;cases h:p k<;>simp [h]
theorem q5a (p:Nat->Bool) {k:Nat}:∀ m:Nat,∃ X,(List.range (k+m)).filter p=(List.range k).filter p++X
 | 0=>⟨[],by simp⟩
 | m+1=>by
  obtain ⟨X,hX⟩:=q5a p m;rw [<-vi,JJ,hX];exact ⟨X++(if p (k+m) then [k+m] else []),by rw [zk]⟩
theorem q49 (p:Nat->Bool) {n k:Nat} (hk:k<n) (hp:p k=true):((List.range n).filter p)[((List.range k).filter p).length]? = some k:=by
 obtain ⟨m,rfl⟩:∃ m,n=k+1+m:=⟨n-(k+1),by omega⟩
 obtain ⟨X,hX⟩:=q5a p (k:=k+1) m;rw [hX,JJ,hp];simp
def eQ (c:Ca):List Nat:=(List.range c.sl.length).filter λ k=>(c.en k).st != 0
def fT (c:Ca) (sv:AV):List (List AV):=(eQ c).map λ k=>[eA sv k]
def HeI (b:Nat) (sv:AV) (c:Ca) (Hx:AHeap):Prop:=∃ c',cE Hx b sv c'/\c'.sl.length=c.sl.length /\ ∀ k,(c'.en k).st=(c.en k).st
theorem qyp {H0:AHeap} {p b:Nat} {sv:AV} {c:Ca} (hp:H0.get p=some (OR [.ptr b 0] vx)) (hpl:p<H0.next) (hl:c.sl.length<=40) :
 uj M ym [] [.ptr p 0] (λ x=>x=p) (λ _=>False) (HeI b sv c) H0 (fT c sv):=by
 intro Y R S W0 H1 hnx hN hR0 hW0 loc locS hI step;obtain ⟨p1,p2,p3⟩:=hN p (.inl rfl)
 suffices h:jr M ym [.fn (.yield Y) [] [],.ptr p 0] H1 (Og R S W0 (λ _=>False) H1 (fT c sv).length) by
  obtain ⟨v,H',hc,W',q1,q2,q3⟩:=h.elim;exact ⟨v,H',W',hc,q1,q2,q3⟩
 refine qrz ?_;obtain ⟨w0,w1,w7,w9,w13,w19,w34,w23,w29⟩:=qr0 M ⟨none,ym⟩;have lp:∀ {Hx:AHeap},Fr W0 H1 Hx->Op.aa [.ptr p 0] Hx=some (.ptr b 0):=λ f=>by rw [ze (xc (by rw [f.ae _ (by omega) p3,p2];exact hp))];rfl
 have r0:=Fr.refl (W:=W0) H1;obtain ⟨c1,h1,h1l,h1s⟩:=hI 0 W0 H1 hR0;have l2:Op.aa [.ptr b 2] H1=some sv:=h1.IJ 2;have ln:Op.bO [sv]=some (.int .i64 ((c.sl.length:Nat):Int)):=by rw [<-h1l];exact (h1.sl.sl zl).len
 simp only [↓qg,xe,reduceIte,reduceEqDiff,w0,w1,lp r0,yj,w7,w9,qf,l2,ln];refine bn.intro (λ n E Hx=>∃ (i:Nat) (V:Nat->Prop),E=[(11,.int .i64 (i:Int)),(10,.int .i64 ((c.sl.length:Nat):Int)),(0,.fn (.yield Y) [] []),(1,.ptr p 0)]/\n=c.sl.length-i/\i<=c.sl.length/\Nv R W0 H1 Hx ((List.range i).filter λ k=>(c.en k).st != 0).length V) ?_ ?_
 ·exact ⟨_,_,⟨0,W0,rfl,rfl,zp _,⟨hR0,λ b hb=>⟨hW0 b hb,.inl hb⟩,Fr.refl _⟩⟩,by simp only [↓qg,xe,reduceIte,reduceEqDiff]⟩
 rintro n E Hx ⟨i,V,rfl,rfl,hi,hx⟩;rcases js i c.sl.length with hlt|hge
 ·have q1:(i:Int)<((c.sl.length:Nat):Int):=by omega
  obtain ⟨c',h',hl',hs'⟩:=hI _ V Hx hx.hR;have l2':Op.aa [.ptr b 2] Hx=some sv:=h'.IJ 2;have hi':i<c'.sl.length:=by omega
  have ix:=h'.ix hi';have ls:Op.aa [.ptr (aN sv) (b9 21 sv i+1)] Hx=some (.int .i64 (c.en i).st):=by rw [<-hs' i];exact h'.ld hi' (k:=1) (by decide)
  have wj:aW .i64 ((i:Int)+1)=((i+1:Nat):Int):=by rw [vl (by omega) (by omega)];omega
  have hf:=JJ (λ k=>(c.en k).st != 0) i
  by_cases h0:(c.en i).st=0
  ·have hf':((List.range (i+1)).filter λ k=>(c.en k).st != 0).length=((List.range i).filter λ k=>(c.en k).st != 0).length:=by rw [hf];simp [h0]
   simp only [↓qg,xe,reduceIte,reduceEqDiff,w13,q1,w19,w23,lp hx.fr,qf,l2',ix,ls,xj h0,w34,wj];exact ⟨_,_,⟨i+1,V,rfl,rfl,by omega,by rw [hf'];exact hx⟩,by simp only [↓qg,xe,reduceIte,reduceEqDiff],by omega⟩
  ·have hf':((List.range (i+1)).filter λ k=>(c.en k).st != 0).length=((List.range i).filter λ k=>(c.en k).st != 0).length+1:=by rw [hf];simp [h0]
   have hg:(fT c sv)[((List.range i).filter λ k=>(c.en k).st != 0).length]? = some [eA sv i]:=by
    unfold fT eQ;rw [xt,q49 _ hlt (by simp [h0])];rfl
   obtain ⟨bb,H2,W2,hr,hf2,hW2,ht,hs⟩:=step _ _ hg V Hx hx.hR hx.hV (hx.fr.mono λ _ _ q=>.inl q);have fr2:Fr W0 H1 H2:=hx.fr.trans hf2 λ b q=>(hx.hV b q).2;have hV2:∀ b,W2 b->b<H2.next/\(W0 b\/H1.next<=b):=λ b q=>⟨(hW2 b q).1,(hW2 b q).2.elim (λ w=>(hx.hV b w).2) λ w=>.inr (xy hx.fr.next w)⟩
   simp only [↓qg,xe,reduceIte,reduceEqDiff,w13,q1,w19,w23,lp hx.fr,qf,l2',ix,ls,h0,w29];refine C3.CR hr ?_;cases bb with
   | true =>
    simp only [↓qg,xe,reduceIte,reduceEqDiff,w34,wj];exact ⟨_,_,⟨i+1,W2,rfl,rfl,by omega,⟨by rw [hf'];exact ht rfl,hV2,fr2⟩⟩,by simp only [↓qg,xe,reduceIte,reduceEqDiff],by omega⟩
   | false =>
    simp only [↓qg,xe,reduceIte,reduceEqDiff,tc];exact ⟨W2,fr2.mono λ _ _ q=>.inl q,hV2,.inr (hs rfl)⟩
 ·have q1:¬ (i:Int)<((c.sl.length:Nat):Int):=by omega
  have hiw:i=c.sl.length:=by omega
  simp only [↓qg,xe,reduceIte,reduceEqDiff,w13,q1,Ht];refine ⟨V,hx.fr.mono λ _ _ q=>.inl q,hx.hV,.inl ?_⟩;have e:(fT c sv).length=((List.range i).filter λ k=>(c.en k).st != 0).length:=by unfold fT eQ;rw [zm,hiw]
  rw [e];exact hx.hR
theorem q16 {H:AHeap} (b:Nat):jr M Dl [.ptr b 0] H λ v H'=>v=.fn (.func ym) [] [.ptr H.next 0]/\H'=H.alloc (OR [.ptr b 0] vx):=by
 refine qv9 ?_;have ca:AV.cells (.ptr b 0)=[.ptr b 0]:=rfl;have mk:Op.cw ym 0 [.ptr H.next 0]=some (.fn (.func ym) [] [.ptr H.next 0]):=rfl;simp only [↓qg,xe,reduceIte,reduceEqDiff,qwa,ca,mk];rfl
structure wJ (c:Ca) (g:En->En) (i:Nat) (c':Ca):Prop where
 dD:c'.dD=c.dD
 ways:c'.ways=c.ways
 us:c'.us=c.us
 len:c'.sl.length=c.sl.length
 en:∀ k,k<c.sl.length->c'.en k=if k ∈ (eQ c).take i then g (c.en k) else c.en k
theorem wJ.zero (c:Ca) (g:En->En):wJ c g 0 c:=⟨rfl,rfl,rfl,rfl,λ k hk=>by simp⟩
theorem q32 (c:Ca):(eQ c).Nodup:=List.Nodup.sublist (List.filter_sublist) List.nodup_range
theorem HN {c:Ca} {k:Nat}:k ∈ eQ c ↔ k<c.sl.length/\(c.en k).st ≠ 0:=by
 unfold eQ;rw [FC,List.mem_range];simp
theorem q7b {l:List Nat} (h:l.Nodup) {i k:Nat} (hk:l[i]? = some k):k ∉ l.take i:=by
 intro hm;obtain ⟨j,hj⟩:=C2 hm;rw [kt] at hj;split at hj
 ·rename_i hji;have h1:=qi.1 hj;have h2:=qi.1 hk;exact List.pairwise_iff_getElem.1 h j i h1.1 h2.1 hji (by rw [h1.2,h2.2])
 ·cases hj
theorem wJ.step {c c':Ca} {g:En->En} {i k:Nat} (h:wJ c g i c') (hk:(eQ c)[i]? = some k):c'.en k=c.en k/\wJ c g (i+1) (c'.set k (g (c.en k))):=by
 have hm:=HN.1 (jf hk);have hn:=q7b (q32 c) hk;have he:c'.en k=c.en k:=by rw [h.en k hm.1,qd hn]
 refine ⟨he,h.dD,h.ways,h.us,by show (c'.sl.set k _).length=_;rw [xd];exact h.len,λ j hj=>?_⟩;rw [oL (by rw [h.len];exact hm.1),F1,hk]
 by_cases q:k=j
 ·subst q;rw [qr rfl,qr (by simp)]
 ·rw [qd q,h.en j hj];have:(j ∈ (eQ c).take i++(some k).toList) ↔ j ∈ (eQ c).take i:=by simp [vd q]
  by_cases w:j ∈ (eQ c).take i
  ·rw [qr w,qr (this.2 w)]
  ·rw [qd w,qd λ z=>w (this.1 z)]
theorem wJ.done {c c':Ca} {g:En->En} (h:wJ c g (eQ c).length c') (hg:∀ e:En,e.st=0->g e=e):c' = { c with sl:=c.sl.map g }:=by
 have hsl:c'.sl=c.sl.map g:=by
  refine kx λ k=>?_;rcases js k c.sl.length with q|q
  ·rw [wK (by rw [h.len];exact q),xt,wK q,h.en k q,jb (qh _)]
   by_cases w:(c.en k).st=0
   ·rw [qd (λ z=>(HN.1 z).2 w)];show some (c.en k)=some (g (c.en k));rw [hg _ w]
   ·rw [qr (HN.2 ⟨q,w⟩)];rfl
  ·rw [zq (by rw [h.len];exact q),zq (by rw [zm];exact q)]
 obtain ⟨s,w,l,u⟩:=c';have h1:=h.dD;have h2:=h.ways;have h3:=h.us;simp only at h1 h2 h3 hsl;subst h1;subst h2;subst h3;subst hsl;rfl
structure D6 (c:Ca) (g:En->En) (b:Nat) (sv:AV) (i:Nat) (V:Nat->Prop) (Hx:AHeap):Prop where
 vb:V b
 vs:V (aN sv)
 ex:∃ c',cE Hx b sv c'/\wJ c g i c'
theorem cE.loc {Ha Hb:AHeap} {b:Nat} {sv:AV} {c:Ca} (h:cE Ha b sv c) (h1:Hb.get b=Ha.get b) (h2:Hb.get (aN sv)=Ha.get (aN sv)) (hn:Ha.next<=Hb.next):cE Hb b sv c :=
 ⟨by rw [h1];exact h.row,qt h.lt hn,by
  obtain ⟨sb,e1,e2,e3⟩:=h.sl;have e4:aN sv=sb:=by rw [e1];rfl
  rw [e4] at h2;exact ⟨sb,e1,qt e2 hn,by rw [h2];exact e3⟩,h.ne,h.s8,h.w4,h.us⟩
theorem D6.loc {c:Ca} {g:En->En} {b:Nat} {sv:AV} {i:Nat} {V:Nat->Prop} {Ha Hb:AHeap} (h:D6 c g b sv i V Ha) (hs:∀ x,V x->Hb.get x=Ha.get x) (hn:Ha.next<=Hb.next):D6 c g b sv i V Hb:=by
 obtain ⟨c',h1,h2⟩:=h.ex;exact ⟨h.vb,h.vs,c',h1.loc (hs _ h.vb) (hs _ h.vs) hn,h2⟩
theorem D6.hI {c:Ca} {g:En->En} (hg:∀ e:En,(g e).st=e.st) {b:Nat} {sv:AV} {i:Nat} {V:Nat->Prop} {Hx:AHeap} (h:D6 c g b sv i V Hx):HeI b sv c Hx:=by
 obtain ⟨c',h1,h2⟩:=h.ex;refine ⟨c',h1,h2.len,λ k=>?_⟩;rcases js k c.sl.length with q|q
 ·rw [h2.en k q];split
  ·exact hg _
  ·rfl
 ·rw [Kl q,Kl (by rw [h2.len];exact q)]
section
variable {H:AHeap} {b:Nat} {sv:AV} {c:Ca} {lines line:Int}
theorem qu9 (hc:cE H b sv c) (hl:c.sl.length<=40):jr M y9 [.ptr b 0] H λ _ H'=>cE H' b sv c.bt/\Fr (ir b sv) H H':=by
 refine qru ?_;obtain ⟨w0,wa,wb,w2,w10,w15⟩:=qko M ⟨none,y9⟩;simp only [↓qg,xe,reduceIte,reduceEqDiff,w0,w2,yj,w10];refine C3.q (q16 (M:=M) b) λ v H5 ⟨hv,hh⟩=>?_;obtain ⟨H1,e1⟩:∃ X,X=H.alloc (OR [.ptr b 0] vx):=⟨_,rfl⟩
 rw [<-e1] at hh;rw [hv,hh];have f1:Fr Em H H1:=by rw [e1];exact (Fr.refl H).alloc _
 have n1:H1.next=H.next+1:=by rw [e1,xn]
 have g1:H1.get H.next=some (OR [.ptr b 0] vx):=by rw [e1,qx]
 have hc1:=hc.em f1;have hlt:=hc.lt;have hsb:aN sv<H.next:=hc.sl.lt
 refine fh.A6 (fn:=CO) (lp:=Cg) (pa:=qjc 0) (pb:=qjd 0) qqe qim.1 qim.2 (by decide) ⟨rfl,sR Cg.assign⟩ ⟨rfl,sR Cg.body⟩
  (qyp (M:=M) (b:=b) (sv:=sv) (c:=c) g1 (by omega) hl) (λ i V Hx=>D6 c iM b sv i V Hx) (λ _ _ _=>False) (ir b sv) (qh _) ?_ ?_ ?_ ?_ ?_ ?_ ?_ ?_ ?_
 ·rintro x (q|q)
  ·exact ⟨by omega,rfl,λ w=>w.elim (λ w=>by omega) λ w=>by omega⟩
  ·exact q.elim
 ·exact λ x hx=>hx.elim (λ q=>by omega) λ q=>by omega
 ·exact ⟨.inl rfl,.inr rfl,c,hc1,wJ.zero c iM⟩
 ·exact λ i V Ha Hb h hs hn=>h.loc hs hn
 ·exact λ e V Ha Hb h _ _=>h
 ·exact λ i V Hx h=>h.hI JZ
 ·intro L2 i lr lb x hx hL2 V H6 hP hV hf6 hnL hL6 hgL;unfold fT at hx;rw [xt,xk] at hx;obtain ⟨k,hk,rfl⟩:=hx;refine ⟨_,rfl,?_⟩;obtain ⟨-,wa,wb,-⟩:=qko M ⟨some L2,y9⟩;simp only [↓qg,xe,reduceIte,reduceEqDiff,wa,G0];refine ⟨hgL,?_⟩;have fx:Fr (On L2) H6 (H6.set L2 lb):=(Fr.refl H6).set (W:=On L2) (.inl rfl) _;have gL:(H6.set L2 lb).get L2=some lb:=xf ..;have nL:(H6.set L2 lb).next=H6.next:=rfl
  have hP7:=hP.loc (Hb:=H6.set L2 lb) (λ y hy=>by rw [wh (λ q:L2=y=>hnL (by rw [q];exact hy))]) (qh _);generalize H6.set L2 lb=H7 at *;obtain ⟨c',h7,ht⟩:=hP7.ex;obtain ⟨hek,ht2⟩:=ht.step hk;have hm:=HN.1 (jf hk);have hk7:k<c'.sl.length:=by rw [ht.len];exact hm.1
  obtain ⟨H8,s8,h8,f8⟩:=h7.bU hk7 (j:=2) (by decide) (u:=.bool false) rfl (e:={ c'.en k with r:=false }) rfl;have hk8:k<(c'.set k { c'.en k with r:=false }).sl.length:=by show k<(c'.sl.set k _).length;rw [xd];exact hk7
  obtain ⟨H9,s9,h9,f9⟩:=h8.bU hk8 (j:=3) (by decide) (u:=.bool false) rfl (e:={ (c'.set k { c'.en k with r:=false }).en k with w:=false }) rfl;rw [BZ hk7,IQ] at h9;have hk9:k<(c'.set k { c'.en k with r:=false,w:=false }).sl.length:=by show k<(c'.sl.set k _).length;rw [xd];exact hk7
  obtain ⟨H10,s10,h10,f10⟩:=h9.JD hk9 (j:=12) (n:=8) (u:=.agg (bS .zero)) (by rw [xz];exact yh _) (by rw [xz];exact nY _) (by decide) (e:={ (c'.set k { c'.en k with r:=false,w:=false }).en k with o:=.zero }) (AS _ _);rw [BZ hk7,IQ] at h10;have ec:({ c'.en k with r:=false,w:=false,o:=.zero }:En)=iM (c.en k):=by rw [hek];unfold iM;rw [qd hm.2]
  have h10:cE H10 b sv (c'.set k (iM (c.en k))):=by rw [<-ec];exact h10
  have f710:Fr (On (aN sv)) H7 H10:=(f8.trans f9 λ _ q=>.inl q).trans f10 λ _ q=>.inl q;have hLs:L2 ≠ aN sv:=λ q=>hnL (by rw [q];exact hP.vs);have n710:=f710.next
  simp only [↓qg,xe,reduceIte,reduceEqDiff,wb,lZ,Aa,qf,s8,s9,s10];refine ⟨rfl,by rw [f710.ae L2 (by omega) (λ (q:L2=aN sv)=>hLs q)];exact gL,V,λ y hy=>⟨by have:=(hV y hy).1;omega,.inl hy⟩,(fx.mono λ y _ q=>.inr q).trans f710 λ y (q:y=aN sv)=>.inl (.inl (by rw [q];exact hP.vs)),.inl ⟨rfl,hP.vb,hP.vs,_,h10,ht2⟩⟩
 ·intro d V Hd hd1 hd2 hgd hfd hVd hP;obtain ⟨c',h1,h2⟩:=hP.ex;have el:(fT c sv).length=(eQ c).length:=by unfold fT;rw [zm]
  rw [el] at h2;have e:c'=c.bt:=h2.done λ e h=>by unfold iM;rw [qr h]
  rw [e] at h1;have hdb:d ≠ b:=by omega
  have hds:d ≠ aN sv:=by omega
  have fo:Fr (On d) Hd (Hd.set d (.deferred none)):=(Fr.refl Hd).set (W:=On d) (.inl rfl) _;have fW:Fr (ir b sv) H Hd:=(lH f1).trans hfd λ y q=>q.elim (λ w=>.inl w) False.elim;simp only [↓qg,xe,reduceIte,reduceEqDiff,w15,CD];exact ⟨hgd,h1.fr fo (λ (q:b=d)=>hdb q.symm) (λ (q:aN sv=d)=>hds q.symm),fW.set (.inr (by omega)) _⟩
 ·exact λ e d V Hd _ _ _ _ _ _ h=>h.elim
end
end Go.Am
namespace Go.Am
open Go.Proofs Ca
variable {M:aL} [MK M]
def gH (e:En):En:=if e.st ≠ 0/\e.w=true then { e with d:=e.o } else e
theorem xap (e:En):(gH e).st=e.st:=by unfold gH;split<;>rfl
theorem uH (e:En):iM (gH e)=back e:=by
 unfold iM back;rw [xap]
 by_cases h:e.st=0
 ·rw [qr h,qr h];unfold gH;rw [qd λ q=>q.1 h]
 ·rw [qd h,qd h];unfold gH
  by_cases hw:e.w=true
  ·rw [qr ⟨h,hw⟩,qr hw]
  ·rw [qd (λ q=>hw q.2),qd hw]
theorem q6p (c:Ca):Ca.bt { c with sl:=c.sl.map gH } = c.discard:=by
 unfold Ca.bt Ca.discard;simp only [ry];congr 1;exact List.map_congr_left λ e _=>uH e
section
variable {H:AHeap} {b:Nat} {sv:AV} {c:Ca} {lines line:Int}
theorem q1r (hc:cE H b sv c) (hl:c.sl.length<=40):jr M vj [.ptr b 0] H λ _ H'=>cE H' b sv c.discard/\Fr (ir b sv) H H':=by
 refine qqf ?_;obtain ⟨w0,wa,wb,w2,w10,w15⟩:=qjf M ⟨none,vj⟩;simp only [↓qg,xe,reduceIte,reduceEqDiff,w0,w2,yj,w10];refine C3.q (q16 (M:=M) b) λ v H5 ⟨hv,hh⟩=>?_;obtain ⟨H1,e1⟩:∃ X,X=H.alloc (OR [.ptr b 0] vx):=⟨_,rfl⟩
 rw [<-e1] at hh;rw [hv,hh];have f1:Fr Em H H1:=by rw [e1];exact (Fr.refl H).alloc _
 have n1:H1.next=H.next+1:=by rw [e1,xn]
 have g1:H1.get H.next=some (OR [.ptr b 0] vx):=by rw [e1,qx]
 have hc1:=hc.em f1;have hlt:=hc.lt;have hsb:aN sv<H.next:=hc.sl.lt
 refine fh.A6 (fn:=Cu) (lp:=Cv) (pa:=qin 0) (pb:=qio 0) qpj qhu.1 qhu.2 (by decide) ⟨rfl,sR Cv.assign⟩ ⟨rfl,sR Cv.body⟩
  (qyp (M:=M) (b:=b) (sv:=sv) (c:=c) g1 (by omega) hl) (λ i V Hx=>D6 c gH b sv i V Hx) (λ _ _ _=>False) (ir b sv) (qh _) ?_ ?_ ?_ ?_ ?_ ?_ ?_ ?_ ?_
 ·rintro x (q|q)
  ·exact ⟨by omega,rfl,λ w=>w.elim (λ w=>by omega) λ w=>by omega⟩
  ·exact q.elim
 ·exact λ x hx=>hx.elim (λ q=>by omega) λ q=>by omega
 ·exact ⟨.inl rfl,.inr rfl,c,hc1,wJ.zero c gH⟩
 ·exact λ i V Ha Hb h hs hn=>h.loc hs hn
 ·exact λ e V Ha Hb h _ _=>h
 ·exact λ i V Hx h=>h.hI xap
 ·intro L2 i lr lb x hx hL2 V H6 hP hV hf6 hnL hL6 hgL;unfold fT at hx;rw [xt,xk] at hx;obtain ⟨k,hk,rfl⟩:=hx;refine ⟨_,rfl,?_⟩;obtain ⟨-,wa,wb,-⟩:=qjf M ⟨some L2,vj⟩;simp only [↓qg,xe,reduceIte,reduceEqDiff,wa,G0];refine ⟨hgL,?_⟩;have fx:Fr (On L2) H6 (H6.set L2 lb):=(Fr.refl H6).set (W:=On L2) (.inl rfl) _;have gL:(H6.set L2 lb).get L2=some lb:=xf ..;have nL:(H6.set L2 lb).next=H6.next:=rfl
  have hP7:=hP.loc (Hb:=H6.set L2 lb) (λ y hy=>by rw [wh (λ q:L2=y=>hnL (by rw [q];exact hy))]) (qh _);generalize H6.set L2 lb=H7 at *;obtain ⟨c',h7,ht⟩:=hP7.ex;obtain ⟨hek,ht2⟩:=ht.step hk;have hm:=HN.1 (jf hk);have hk7:k<c'.sl.length:=by rw [ht.len];exact hm.1
  have hLs:L2 ≠ aN sv:=λ q=>hnL (by rw [q];exact hP.vs);have lw:Op.aa [.ptr (aN sv) (b9 21 sv k+3)] H7=some (.bool (c'.en k).w):=h7.ld hk7 (k:=3) (by decide);cases hw:(c'.en k).w with
  | true =>
   rw [hw] at lw;obtain ⟨H8,s8,h8,f8⟩:=h7.JD hk7 (j:=4) (n:=8) (u:=.agg (bS (c'.en k).o)) (by rw [xz];exact yh _) (by rw [xz];exact nY _) (by decide) (e:={ c'.en k with d:=(c'.en k).o }) (Bg _ _);have ec:({ c'.en k with d:=(c'.en k).o }:En)=gH (c.en k):=by
    have hw':(c.en k).w=true:=by rw [<-hek];exact hw
    rw [hek];unfold gH;rw [qr ⟨hm.2,hw'⟩]
   have h8:cE H8 b sv (c'.set k (gH (c.en k))):=by rw [<-ec];exact h8
   have n78:=f8.next
   simp only [↓qg,xe,reduceIte,reduceEqDiff,wb,qf,lw,h7.ldO hk7,s8];exact ⟨rfl,by rw [f8.ae L2 (by omega) (λ (q:L2=aN sv)=>hLs q)];exact gL,V,λ y hy=>⟨by have:=(hV y hy).1;omega,.inl hy⟩,(fx.mono λ y _ q=>.inr q).trans f8 λ y (q:y=aN sv)=>.inl (.inl (by rw [q];exact hP.vs)),.inl ⟨rfl,hP.vb,hP.vs,_,h8,ht2⟩⟩
  | false =>
   rw [hw] at lw;have ec:c'.set k (gH (c.en k))=c':=by
    have hu:gH (c.en k)=c'.en k:=by
     have hw':(c.en k).w=false:=by rw [<-hek];exact hw
     unfold gH;rw [qd (λ q=>by rw [hw'] at q;exact Bool.noConfusion q.2),hek]
    rw [hu];unfold Ca.set Ca.en;rw [qy hk7];simp
   rw [ec] at ht2;simp only [↓qg,xe,reduceIte,reduceEqDiff,wb,qf,lw];exact ⟨rfl,gL,V,λ y hy=>⟨by have:=(hV y hy).1;omega,.inl hy⟩,fx.mono λ y _ q=>.inr q,.inl ⟨rfl,hP.vb,hP.vs,_,h7,ht2⟩⟩
 ·intro d V Hd hd1 hd2 hgd hfd hVd hP;obtain ⟨c',h1,h2⟩:=hP.ex;have el:(fT c sv).length=(eQ c).length:=by unfold fT;rw [zm]
  rw [el] at h2;have e:c' = { c with sl:=c.sl.map gH }:=h2.done λ e h=>by unfold gH;rw [qd λ q=>q.1 h]
  have hdb:d ≠ b:=by omega
  have hds:d ≠ aN sv:=by omega
  have fW:Fr (ir b sv) H Hd:=(lH f1).trans hfd λ y q=>q.elim (λ w=>.inl w) False.elim;simp only [↓qg,xe,reduceIte,reduceEqDiff,w15];refine C3.q (qu9 (M:=M) h1 (by rw [h2.len];exact hl)) λ _ He ⟨h3,f3⟩=>?_;rw [e,q6p] at h3;have hge:He.get d=some (.deferred (some [])):=by rw [f3.ae d hd2 (λ q=>q.elim hdb hds)];exact hgd
  have fo:Fr (On d) He (He.set d (.deferred none)):=(Fr.refl He).set (W:=On d) (.inl rfl) _;simp only [↓qg,xe,reduceIte,reduceEqDiff,CD];exact ⟨hge,h3.fr fo (λ (q:b=d)=>hdb q.symm) (λ (q:aN sv=d)=>hds q.symm),(nZ fW f3).set (.inr (by omega)) _⟩
 ·exact λ e d V Hd _ _ _ _ _ _ h=>h.elim
end
end Go.Am
namespace Go.Am
open Go.Proofs Ca
variable {M:aL} [MK M]
def gU (s w:Nat):Ca:=⟨s,w,List.replicate (s*w) .zero,0⟩
theorem J7 (s w k:Nat):(gU s w).en k=.zero:=by
 unfold Ca.en gU;simp only [Gd];split<;>rfl
theorem uX (lines:Int) {s w:Nat} (hs:0<s) (hw:0<w):CI lines (gU s w) :=
 ⟨xx ..,hs,hw,λ i _ h=>by rw [J7] at h;exact absurd rfl h,λ i j _ _ h=>by rw [J7] at h;exact absurd rfl h⟩
theorem q4b (s w:Nat):(gU s w).plain:=λ i _ h=>by rw [J7] at h;exact absurd rfl h
theorem q5c:∀ n:Nat,(List.replicate n En.zero).flatMap aq=dh n (aq .zero)
 | 0=>rfl
 | n+1=>by rw [Fa,jm,q5c n];rfl
def lP (s w:Int):Prop:=1<=s/\s<=8/\1<=w/\w<=4
instance (s w:Int):Decidable (lP s w):=inferInstanceAs (Decidable (_/\_))
def NJ (H:AHeap) (s w:Int) (v:AV) (H':AHeap):Prop:=Fr Em H H'/\(¬ lP s w/\v=.tuple [.nilp,.int .i64 2]\/lP s w /\ ∃ b sv,v=.tuple [.ptr b 0,.int .i64 0]/\cE H' b sv (gU s.toNat w.toNat)/\H.next<=b/\H.next<=aN sv)
theorem q6z {H:AHeap} (s w:Int):jr M B9 [.int .i64 s,.int .i64 w] H (NJ H s w):=by
 refine sJ ?_;obtain ⟨w0,w2,w10⟩:=vW M ⟨none,B9⟩
 by_cases h1:s<1
 ·simp only [↓qg,xe,reduceIte,reduceEqDiff,w0,w2,h1];exact ⟨Fr.refl _,.inl ⟨λ q=>by have:=q.1;omega,rfl⟩⟩
 by_cases h2:8<s
 ·simp only [↓qg,xe,reduceIte,reduceEqDiff,w0,w2,h1,h2];exact ⟨Fr.refl _,.inl ⟨λ q=>by have:=q.2.1;omega,rfl⟩⟩
 by_cases h3:w<1
 ·simp only [↓qg,xe,reduceIte,reduceEqDiff,w0,w2,h1,h2,h3];exact ⟨Fr.refl _,.inl ⟨λ q=>by have:=q.2.2.1;omega,rfl⟩⟩
 by_cases h4:4<w
 ·simp only [↓qg,xe,reduceIte,reduceEqDiff,w0,w2,h1,h2,h3,h4];exact ⟨Fr.refl _,.inl ⟨λ q=>by have:=q.2.2.2;omega,rfl⟩⟩
 obtain ⟨a,rfl⟩:=kh (show 0<=s by omega);obtain ⟨d,rfl⟩:=kh (show 0<=w by omega);have had:a*d<=8*4:=Nat.mul_le_mul (by omega) (by omega);have wm:aW .i64 ((a:Int)*(d:Int))=((a*d:Nat):Int):=by rw [<-Int.natCast_mul];exact vl (by omega) (by omega)
 have mk:=I4 qp 160 (aq .zero) (a*d) .i64 .i64 (by omega) (by omega);rw [<-q5c] at mk;obtain ⟨H1,e1⟩:∃ X,X=H.alloc (OR ((List.replicate (a*d) En.zero).flatMap aq) qp):=⟨_,rfl⟩
 have f1:Fr Em H H1:=by rw [e1];exact (Fr.refl H).alloc _
 have n1:H1.next=H.next+1:=by rw [e1,xn]
 obtain ⟨sv,hsv⟩:∃ sv:AV,sv=.slice H.next 0 (a*d) (a*d):=⟨_,rfl⟩
 have hst:Op.sliceTo (a*d) (a*d) H.next=sv:=by rw [hsv];rfl
 have hsb:aN sv=H.next:=by rw [hsv];rfl
 have bd:Op.build [.int .i64 0,.int .i64 0,.nils,.int .i64 0] [(0,1),(1,1),(2,1)] [.int .i64 (a:Int),.int .i64 (d:Int),sv]=some (.agg (tu (gU a d) sv)):=by rw [hsv];rfl
 obtain ⟨H2,e2⟩:∃ X,X=H1.alloc (OR (tu (gU a d) sv) Hf):=⟨_,rfl⟩
 have f2:Fr Em H1 H2:=by rw [e2];exact (Fr.refl H1).alloc _
 have g2:H2.get H1.next=some (OR (tu (gU a d) sv) Hf):=by rw [e2,qx]
 simp only [↓qg,xe,reduceIte,reduceEqDiff,w0,w2,h1,h2,h3,h4,w10,wm,eZ,mk,hst,<-e1,bd,xz,<-e2];refine ⟨f1.trans f2 λ _ q=>q.elim,.inr ⟨⟨by omega,by omega,by omega,by omega⟩,_,sv,rfl,⟨g2,by rw [e2,xn];omega,⟨H.next,?_,?_,?_⟩,by omega,by show a<=8;omega,by show d<=4;omega,⟨Int.le_refl _,by show (0:Int)<=1000000;decide⟩⟩,by omega,by omega⟩⟩
 ·show sv=.slice H.next 0 (List.replicate (a*d) En.zero).length (List.replicate (a*d) En.zero).length
  rw [xx];exact hsv
 ·rw [e2,xn];omega
 ·rw [f2.ae _ (by omega) id,e1,qx];rfl
end Go.Am
