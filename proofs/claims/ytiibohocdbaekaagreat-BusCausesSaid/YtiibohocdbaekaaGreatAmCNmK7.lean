/- NmK7: NhF NhG NhH. -/
import Derived.Test.YtiibohocdbaekaaGreatAmCNmK6
set_option linter.unusedVariables false
set_option linter.unusedSimpArgs false
set_option linter.unusedSectionVars false
set_option maxRecDepth 100000
open Nat (reduceEqDiff)
namespace Go.Am
open Go.Proofs Ca
variable {M:aA} [MK M]
theorem LH (p:Nat->Bool) (k:Nat):(List.range (k+1)).filter p=(List.range k).filter p++(if p k then [k] else []):=by
 rw [List.range_succ,JR];congr 1;cases h:p k<;>simp [h]
theorem q1s (p:Nat->Bool) {k:Nat}:∀ m:Nat,∃ X,(List.range (k+m)).filter p=(List.range k).filter p++X
 | 0=>⟨[],by simp⟩
 | m+1=>by
  obtain ⟨X,hX⟩:=q1s p m;rw [<-kx,LH,hX];exact ⟨X++(if p (k+m) then [k+m] else []),by rw [zf]⟩
theorem q1r (p:Nat->Bool) {n k:Nat} (hk:k<n) (hp:p k=true):((List.range n).filter p)[((List.range k).filter p).length]? = some k:=by
 obtain ⟨m,rfl⟩:∃ m,n=k+1+m:=⟨n-(k+1),by omega⟩
 obtain ⟨X,hX⟩:=q1s p (k:=k+1) m;rw [hX,LH,hp];simp
def cL (c:Ca):List Nat:=(List.range c.sl.length).filter λ k=>(c.en k).st != 0
def eY (c:Ca) (sv:AV):List (List AV):=(cL c).map λ k=>[eA sv k]
def HeI (b:Nat) (sv:AV) (c:Ca) (Hx:AHeap):Prop:=∃ c',cD Hx b sv c'/\c'.sl.length=c.sl.length /\ ∀ k,(c'.en k).st=(c.en k).st
theorem OH {H0:AHeap} {p b:Nat} {sv:AV} {c:Ca} (hp:H0.get p=some (OR [.ptr b 0] yo)) (hpl:p<H0.next) (hl:c.sl.length<=40) :
 tR M EP [] [.ptr p 0] (λ x=>x=p) (λ _=>False) (HeI b sv c) H0 (eY c sv):=by
 intro Y R S W0 H1 hnx hN hR0 hW0 loc locS hI step;obtain ⟨p1,p2,p3⟩:=hN p (.inl rfl)
 suffices h:zq M EP [.fn (.yield Y) [] [],.ptr p 0] H1 (LF R S W0 (λ _=>False) H1 (eY c sv).length) by
  obtain ⟨v,H',hc,W',q1,q2,q3⟩:=h.elim;exact ⟨v,H',W',hc,q1,q2,q3⟩
 refine qoj ?_;obtain ⟨w0,w1,w7,w9,w13,w19,w34,w23,w29⟩:=qok M ⟨none,EP⟩;have lp:∀ {Hx:AHeap},Fr W0 H1 Hx->Op.ae [.ptr p 0] Hx=some (.ptr b 0):=λ f=>by rw [xp (qz (by rw [f.ah _ (by omega) p3,p2];exact hp))];rfl
 have r0:=Fr.refl (W:=W0) H1;obtain ⟨c1,h1,h1l,h1s⟩:=hI 0 W0 H1 hR0;have l2:Op.ae [.ptr b 2] H1=some sv:=h1.Ko 2;have ln:Op.dC [sv]=some (.int .i64 ((c.sl.length:Nat):Int)):=by rw [<-h1l];exact (h1.sl.sl zd).len
 simp only [↓qd,qp,aa,reduceIte,reduceEqDiff,w0,w1,lp r0,kv,w7,w9,qi,l2,ln];refine aR.intro (λ n E Hx=>∃ (i:Nat) (V:Nat->Prop),E=[(11,.int .i64 (i:Int)),(10,.int .i64 ((c.sl.length:Nat):Int)),(0,.fn (.yield Y) [] []),(1,.ptr p 0)]/\n=c.sl.length-i/\i<=c.sl.length/\KD R W0 H1 Hx ((List.range i).filter λ k=>(c.en k).st != 0).length V) ?_ ?_
 ·exact ⟨_,_,⟨0,W0,rfl,rfl,xx _,⟨hR0,λ b hb=>⟨hW0 b hb,.inl hb⟩,Fr.refl _⟩⟩,by simp only [↓qd,qp,aa,reduceIte,reduceEqDiff]⟩
 rintro n E Hx ⟨i,V,rfl,rfl,hi,hx⟩;rcases zt i c.sl.length with hlt|hge
 ·have q1:(i:Int)<((c.sl.length:Nat):Int):=by omega
  obtain ⟨c',h',hl',hs'⟩:=hI _ V Hx hx.hR;have l2':Op.ae [.ptr b 2] Hx=some sv:=h'.Ko 2;have hi':i<c'.sl.length:=by omega
  have ix:=h'.ix hi';have ls:Op.ae [.ptr (aF sv) (bI 21 sv i+1)] Hx=some (.int .i64 (c.en i).st):=by rw [<-hs' i];exact h'.ld hi' (k:=1) (by decide)
  have wj:ak .i64 ((i:Int)+1)=((i+1:Nat):Int):=by rw [xm (by omega) (by omega)];omega
  have hf:=LH (λ k=>(c.en k).st != 0) i
  by_cases h0:(c.en i).st=0
  ·have hf':((List.range (i+1)).filter λ k=>(c.en k).st != 0).length=((List.range i).filter λ k=>(c.en k).st != 0).length:=by rw [hf];simp [h0]
   simp only [↓qd,qp,aa,reduceIte,reduceEqDiff,w13,q1,w19,w23,lp hx.fr,qi,l2',ix,ls,xc h0,w34,wj];exact ⟨_,_,⟨i+1,V,rfl,rfl,by omega,by rw [hf'];exact hx⟩,by simp only [↓qd,qp,aa,reduceIte,reduceEqDiff],by omega⟩
  ·have hf':((List.range (i+1)).filter λ k=>(c.en k).st != 0).length=((List.range i).filter λ k=>(c.en k).st != 0).length+1:=by rw [hf];simp [h0]
   have hg:(eY c sv)[((List.range i).filter λ k=>(c.en k).st != 0).length]? = some [eA sv i]:=by
    unfold eY cL;rw [xg,q1r _ hlt (by simp [h0])];rfl
   obtain ⟨bb,H2,W2,hr,hf2,hW2,ht,hs⟩:=step _ _ hg V Hx hx.hR hx.hV (hx.fr.mono λ _ _ q=>.inl q);have sR:Fr W0 H1 H2:=hx.fr.trans hf2 λ b q=>(hx.hV b q).2;have hV2:∀ b,W2 b->b<H2.next/\(W0 b\/H1.next<=b):=λ b q=>⟨(hW2 b q).1,(hW2 b q).2.elim (λ w=>(hx.hV b w).2) λ w=>.inr (xj hx.fr.next w)⟩
   simp only [↓qd,qp,aa,reduceIte,reduceEqDiff,w13,q1,w19,w23,lp hx.fr,qi,l2',ix,ls,h0,w29];refine C3.B9 hr ?_;cases bb with
   | true =>
    simp only [↓qd,qp,aa,reduceIte,reduceEqDiff,w34,wj];exact ⟨_,_,⟨i+1,W2,rfl,rfl,by omega,⟨by rw [hf'];exact ht rfl,hV2,sR⟩⟩,by simp only [↓qd,qp,aa,reduceIte,reduceEqDiff],by omega⟩
   | false =>
    simp only [↓qd,qp,aa,reduceIte,reduceEqDiff,vL];exact ⟨W2,sR.mono λ _ _ q=>.inl q,hV2,.inr (hs rfl)⟩
 ·have q1:¬ (i:Int)<((c.sl.length:Nat):Int):=by omega
  have hiw:i=c.sl.length:=by omega
  simp only [↓qd,qp,aa,reduceIte,reduceEqDiff,w13,q1,JJ];refine ⟨V,hx.fr.mono λ _ _ q=>.inl q,hx.hV,.inl ?_⟩;have e:(eY c sv).length=((List.range i).filter λ k=>(c.en k).st != 0).length:=by unfold eY cL;rw [xu,hiw]
  rw [e];exact hx.hR
theorem Qa {H:AHeap} (b:Nat):zq M qkf [.ptr b 0] H λ v H'=>v=.fn (.func EP) [] [.ptr H.next 0]/\H'=H.alloc (OR [.ptr b 0] yo):=by
 refine qs1 ?_;have ca:AV.cells (.ptr b 0)=[.ptr b 0]:=rfl;have mk:Op.cA EP 0 [.ptr H.next 0]=some (.fn (.func EP) [] [.ptr H.next 0]):=rfl;simp only [↓qd,qp,aa,reduceIte,reduceEqDiff,qs2,ca,mk];rfl
structure Ak (c:Ca) (g:En->En) (i:Nat) (c':Ca):Prop where
 cW:c'.cW=c.cW
 ways:c'.ways=c.ways
 us:c'.us=c.us
 len:c'.sl.length=c.sl.length
 en:∀ k,k<c.sl.length->c'.en k=if k ∈ (cL c).take i then g (c.en k) else c.en k
theorem Ak.zero (c:Ca) (g:En->En):Ak c g 0 c:=⟨rfl,rfl,rfl,rfl,λ k hk=>by simp⟩
theorem q0h (c:Ca):(cL c).Nodup:=List.Nodup.sublist (List.filter_sublist) List.nodup_range
theorem GN {c:Ca} {k:Nat}:k ∈ cL c ↔ k<c.sl.length/\(c.en k).st ≠ 0:=by
 unfold cL;rw [va,FC];simp
theorem q31 {l:List Nat} (h:l.Nodup) {i k:Nat} (hk:l[i]? = some k):k ∉ l.take i:=by
 intro hm;obtain ⟨j,hj⟩:=ki hm;rw [kc] at hj;split at hj
 ·rename_i hji;have h1:=qe.1 hj;have h2:=qe.1 hk;exact List.pairwise_iff_getElem.1 h j i h1.1 h2.1 hji (by rw [h1.2,h2.2])
 ·cases hj
theorem Ak.step {c c':Ca} {g:En->En} {i k:Nat} (h:Ak c g i c') (hk:(cL c)[i]? = some k):c'.en k=c.en k/\Ak c g (i+1) (c'.set k (g (c.en k))):=by
 have hm:=GN.1 (zg hk);have hn:=q31 (q0h c) hk;have he:c'.en k=c.en k:=by rw [h.en k hm.1,qg hn]
 refine ⟨he,h.cW,h.ways,h.us,by show (c'.sl.set k _).length=_;rw [qv];exact h.len,λ j hj=>?_⟩;rw [qF (by rw [h.len];exact hm.1),yq,hk]
 by_cases q:k=j
 ·subst q;rw [ql rfl,ql (by simp)]
 ·rw [qg q,h.en j hj];have:(j ∈ (cL c).take i++(some k).toList) ↔ j ∈ (cL c).take i:=by simp [yt q]
  by_cases w:j ∈ (cL c).take i
  ·rw [ql w,ql (this.2 w)]
  ·rw [qg w,qg λ z=>w (this.1 z)]
theorem Ak.done {c c':Ca} {g:En->En} (h:Ak c g (cL c).length c') (hg:∀ e:En,e.st=0->g e=e):c' = { c with sl:=c.sl.map g }:=by
 have hsl:c'.sl=c.sl.map g:=by
  refine jp λ k=>?_;rcases zt k c.sl.length with q|q
  ·rw [rO (by rw [h.len];exact q),xg,rO q,h.en k q,zj (qf _)]
   by_cases w:(c.en k).st=0
   ·rw [qg (λ z=>(GN.1 z).2 w)];show some (c.en k)=some (g (c.en k));rw [hg _ w]
   ·rw [ql (GN.2 ⟨q,w⟩)];rfl
  ·rw [xz (by rw [h.len];exact q),xz (by rw [xu];exact q)]
 obtain ⟨s,w,l,u⟩:=c';have h1:=h.cW;have h2:=h.ways;have h3:=h.us;simp only at h1 h2 h3 hsl;subst h1;subst h2;subst h3;subst hsl;rfl
structure Ea (c:Ca) (g:En->En) (b:Nat) (sv:AV) (i:Nat) (V:Nat->Prop) (Hx:AHeap):Prop where
 vb:V b
 vs:V (aF sv)
 ex:∃ c',cD Hx b sv c'/\Ak c g i c'
theorem cD.loc {Ha Hb:AHeap} {b:Nat} {sv:AV} {c:Ca} (h:cD Ha b sv c) (h1:Hb.get b=Ha.get b) (h2:Hb.get (aF sv)=Ha.get (aF sv)) (hn:Ha.next<=Hb.next):cD Hb b sv c :=
 ⟨by rw [h1];exact h.row,qk h.lt hn,by
  obtain ⟨sb,e1,e2,e3⟩:=h.sl;have e4:aF sv=sb:=by rw [e1];rfl
  rw [e4] at h2;exact ⟨sb,e1,qk e2 hn,by rw [h2];exact e3⟩,h.ne,h.s8,h.w4,h.us⟩
theorem Ea.loc {c:Ca} {g:En->En} {b:Nat} {sv:AV} {i:Nat} {V:Nat->Prop} {Ha Hb:AHeap} (h:Ea c g b sv i V Ha) (hs:∀ x,V x->Hb.get x=Ha.get x) (hn:Ha.next<=Hb.next):Ea c g b sv i V Hb:=by
 obtain ⟨c',h1,h2⟩:=h.ex;exact ⟨h.vb,h.vs,c',h1.loc (hs _ h.vb) (hs _ h.vs) hn,h2⟩
theorem Ea.hI {c:Ca} {g:En->En} (hg:∀ e:En,(g e).st=e.st) {b:Nat} {sv:AV} {i:Nat} {V:Nat->Prop} {Hx:AHeap} (h:Ea c g b sv i V Hx):HeI b sv c Hx:=by
 obtain ⟨c',h1,h2⟩:=h.ex;refine ⟨c',h1,h2.len,λ k=>?_⟩;rcases zt k c.sl.length with q|q
 ·rw [h2.en k q];split
  ·exact hg _
  ·rfl
 ·rw [MI q,MI (by rw [h2.len];exact q)]
section
variable {H:AHeap} {b:Nat} {sv:AV} {c:Ca} {lines line:Int}
theorem qr6 (hc:cD H b sv c) (hl:c.sl.length<=40):zq M GO [.ptr b 0] H λ _ H'=>cD H' b sv c.bj/\Fr (jB b sv) H H':=by
 refine qog ?_;obtain ⟨w0,wa,wb,w2,w10,w15⟩:=qis M ⟨none,GO⟩;simp only [↓qd,qp,aa,reduceIte,reduceEqDiff,w0,w2,kv,w10];refine C3.q (Qa (M:=M) b) λ v H5 ⟨hv,hh⟩=>?_;obtain ⟨H1,e1⟩:∃ X,X=H.alloc (OR [.ptr b 0] yo):=⟨_,rfl⟩
 rw [<-e1] at hh;rw [hv,hh];have f1:Fr Em H H1:=by rw [e1];exact (Fr.refl H).alloc _
 have n1:H1.next=H.next+1:=by rw [e1,xd]
 have g1:H1.get H.next=some (OR [.ptr b 0] yo):=by rw [e1,qw]
 have hc1:=hc.em f1;have hlt:=hc.lt;have hsb:aF sv<H.next:=hc.sl.lt
 refine gN.ui (fn:=Kk) (lp:=IW) (pa:=Pp 0) (pb:=Me 0) qm5 qhe.1 qhe.2 (by decide) ql9 qma
  (OH (M:=M) (b:=b) (sv:=sv) (c:=c) g1 (by omega) hl) (λ i V Hx=>Ea c kH b sv i V Hx) (λ _ _ _=>False) (jB b sv) (qf _) ?_ ?_ ?_ ?_ ?_ ?_ ?_ ?_ ?_
 ·rintro x (q|q)
  ·exact ⟨by omega,rfl,λ w=>w.elim (λ w=>by omega) λ w=>by omega⟩
  ·exact q.elim
 ·exact λ x hx=>hx.elim (λ q=>by omega) λ q=>by omega
 ·exact ⟨.inl rfl,.inr rfl,c,hc1,Ak.zero c kH⟩
 ·exact λ i V Ha Hb h hs hn=>h.loc hs hn
 ·exact λ e V Ha Hb h _ _=>h
 ·exact λ i V Hx h=>h.hI KY
 ·intro L2 i lr lb x hx hL2 V H6 hP hV hf6 hnL hL6 hgL;unfold eY at hx;rw [xg,xe] at hx;obtain ⟨k,hk,rfl⟩:=hx;refine ⟨_,rfl,?_⟩;obtain ⟨-,wa,wb,-⟩:=qis M ⟨some L2,GO⟩;simp only [↓qd,qp,aa,reduceIte,reduceEqDiff,wa,EK];refine ⟨hgL,?_⟩;have fx:Fr (On L2) H6 (H6.set L2 lb):=(Fr.refl H6).set (W:=On L2) (.inl rfl) _;have gL:(H6.set L2 lb).get L2=some lb:=xb ..;have nL:(H6.set L2 lb).next=H6.next:=rfl
  have hP7:=hP.loc (Hb:=H6.set L2 lb) (λ y hy=>by rw [yb (λ q:L2=y=>hnL (by rw [q];exact hy))]) (qf _);generalize H6.set L2 lb=H7 at *;obtain ⟨c',h7,ht⟩:=hP7.ex;obtain ⟨hek,ht2⟩:=ht.step hk;have hm:=GN.1 (zg hk);have hk7:k<c'.sl.length:=by rw [ht.len];exact hm.1
  obtain ⟨H8,s8,h8,f8⟩:=h7.bS hk7 (j:=2) (by decide) (u:=.bool false) rfl (e:={ c'.en k with r:=false }) rfl;have hk8:k<(c'.set k { c'.en k with r:=false }).sl.length:=by show k<(c'.sl.set k _).length;rw [qv];exact hk7
  obtain ⟨H9,s9,h9,f9⟩:=h8.bS hk8 (j:=3) (by decide) (u:=.bool false) rfl (e:={ (c'.set k { c'.en k with r:=false }).en k with w:=false }) rfl;rw [Dw hk7,LP] at h9;have hk9:k<(c'.set k { c'.en k with r:=false,w:=false }).sl.length:=by show k<(c'.sl.set k _).length;rw [qv];exact hk7
  obtain ⟨H10,s10,h10,f10⟩:=h9.LJ hk9 (j:=12) (n:=8) (u:=.agg (cJ .zero)) (by rw [xk];exact vf _) (by rw [xk];exact tq _) (by decide) (e:={ (c'.set k { c'.en k with r:=false,w:=false }).en k with o:=.zero }) (Db _ _);rw [Dw hk7,LP] at h10;have ec:({ c'.en k with r:=false,w:=false,o:=.zero }:En)=kH (c.en k):=by rw [hek];unfold kH;rw [qg hm.2]
  have h10:cD H10 b sv (c'.set k (kH (c.en k))):=by rw [<-ec];exact h10
  have f710:Fr (On (aF sv)) H7 H10:=(f8.trans f9 λ _ q=>.inl q).trans f10 λ _ q=>.inl q;have hLs:L2 ≠ aF sv:=λ q=>hnL (by rw [q];exact hP.vs);have n710:=f710.next
  simp only [↓qd,qp,aa,reduceIte,reduceEqDiff,wb,lZ,Br,qi,s8,s9,s10];refine ⟨rfl,by rw [f710.ah L2 (by omega) (λ (q:L2=aF sv)=>hLs q)];exact gL,V,λ y hy=>⟨by have:=(hV y hy).1;omega,.inl hy⟩,(fx.mono λ y _ q=>.inr q).trans f710 λ y (q:y=aF sv)=>.inl (.inl (by rw [q];exact hP.vs)),.inl ⟨rfl,hP.vb,hP.vs,_,h10,ht2⟩⟩
 ·intro d V Hd hd1 hd2 hgd hfd hVd hP;obtain ⟨c',h1,h2⟩:=hP.ex;have el:(eY c sv).length=(cL c).length:=by unfold eY;rw [xu]
  rw [el] at h2;have e:c'=c.bj:=h2.done λ e h=>by unfold kH;rw [ql h]
  rw [e] at h1;have hdb:d ≠ b:=by omega
  have hds:d ≠ aF sv:=by omega
  have fo:Fr (On d) Hd (Hd.set d (.deferred none)):=(Fr.refl Hd).set (W:=On d) (.inl rfl) _;have fW:Fr (jB b sv) H Hd:=(ng f1).trans hfd λ y q=>q.elim (λ w=>.inl w) False.elim;simp only [↓qd,qp,aa,reduceIte,reduceEqDiff,w15,zX];exact ⟨hgd,h1.fr fo (λ (q:b=d)=>hdb q.symm) (λ (q:aF sv=d)=>hds q.symm),fW.set (.inr (by omega)) _⟩
 ·exact λ e d V Hd _ _ _ _ _ _ h=>h.elim
end
end Go.Am
namespace Go.Am
open Go.Proofs Ca
variable {M:aA} [MK M]
def iJ (e:En):En:=if e.st ≠ 0/\e.w=true then { e with d:=e.o } else e
theorem q7t (e:En):(iJ e).st=e.st:=by unfold iJ;split<;>rfl
theorem xG (e:En):kH (iJ e)=back e:=by
 unfold kH back;rw [q7t]
 by_cases h:e.st=0
 ·rw [ql h,ql h];unfold iJ;rw [qg λ q=>q.1 h]
 ·rw [qg h,qg h];unfold iJ
  by_cases hw:e.w=true
  ·rw [ql ⟨h,hw⟩,ql hw]
  ·rw [qg (λ q=>hw q.2),qg hw]
theorem q3g (c:Ca):Ca.bj { c with sl:=c.sl.map iJ } = c.discard:=by
 unfold Ca.bj Ca.discard;simp only [td];congr 1;exact List.map_congr_left λ e _=>xG e
section
variable {H:AHeap} {b:Nat} {sv:AV} {c:Ca} {lines line:Int}
theorem qx3 (hc:cD H b sv c) (hl:c.sl.length<=40):zq M Gd [.ptr b 0] H λ _ H'=>cD H' b sv c.discard/\Fr (jB b sv) H H':=by
 refine qm6 ?_;obtain ⟨w0,wa,wb,w2,w10,w15⟩:=qhw M ⟨none,Gd⟩;simp only [↓qd,qp,aa,reduceIte,reduceEqDiff,w0,w2,kv,w10];refine C3.q (Qa (M:=M) b) λ v H5 ⟨hv,hh⟩=>?_;obtain ⟨H1,e1⟩:∃ X,X=H.alloc (OR [.ptr b 0] yo):=⟨_,rfl⟩
 rw [<-e1] at hh;rw [hv,hh];have f1:Fr Em H H1:=by rw [e1];exact (Fr.refl H).alloc _
 have n1:H1.next=H.next+1:=by rw [e1,xd]
 have g1:H1.get H.next=some (OR [.ptr b 0] yo):=by rw [e1,qw]
 have hc1:=hc.em f1;have hlt:=hc.lt;have hsb:aF sv<H.next:=hc.sl.lt
 refine gN.ui (fn:=Lv) (lp:=IH) (pa:=MZ 0) (pb:=NO 0) qmb qgi.1 qgi.2 (by decide) qlm qln
  (OH (M:=M) (b:=b) (sv:=sv) (c:=c) g1 (by omega) hl) (λ i V Hx=>Ea c iJ b sv i V Hx) (λ _ _ _=>False) (jB b sv) (qf _) ?_ ?_ ?_ ?_ ?_ ?_ ?_ ?_ ?_
 ·rintro x (q|q)
  ·exact ⟨by omega,rfl,λ w=>w.elim (λ w=>by omega) λ w=>by omega⟩
  ·exact q.elim
 ·exact λ x hx=>hx.elim (λ q=>by omega) λ q=>by omega
 ·exact ⟨.inl rfl,.inr rfl,c,hc1,Ak.zero c iJ⟩
 ·exact λ i V Ha Hb h hs hn=>h.loc hs hn
 ·exact λ e V Ha Hb h _ _=>h
 ·exact λ i V Hx h=>h.hI q7t
 ·intro L2 i lr lb x hx hL2 V H6 hP hV hf6 hnL hL6 hgL;unfold eY at hx;rw [xg,xe] at hx;obtain ⟨k,hk,rfl⟩:=hx;refine ⟨_,rfl,?_⟩;obtain ⟨-,wa,wb,-⟩:=qhw M ⟨some L2,Gd⟩;simp only [↓qd,qp,aa,reduceIte,reduceEqDiff,wa,EK];refine ⟨hgL,?_⟩;have fx:Fr (On L2) H6 (H6.set L2 lb):=(Fr.refl H6).set (W:=On L2) (.inl rfl) _;have gL:(H6.set L2 lb).get L2=some lb:=xb ..;have nL:(H6.set L2 lb).next=H6.next:=rfl
  have hP7:=hP.loc (Hb:=H6.set L2 lb) (λ y hy=>by rw [yb (λ q:L2=y=>hnL (by rw [q];exact hy))]) (qf _);generalize H6.set L2 lb=H7 at *;obtain ⟨c',h7,ht⟩:=hP7.ex;obtain ⟨hek,ht2⟩:=ht.step hk;have hm:=GN.1 (zg hk);have hk7:k<c'.sl.length:=by rw [ht.len];exact hm.1
  have hLs:L2 ≠ aF sv:=λ q=>hnL (by rw [q];exact hP.vs);have lw:Op.ae [.ptr (aF sv) (bI 21 sv k+3)] H7=some (.bool (c'.en k).w):=h7.ld hk7 (k:=3) (by decide);cases hw:(c'.en k).w with
  | true =>
   rw [hw] at lw;obtain ⟨H8,s8,h8,f8⟩:=h7.LJ hk7 (j:=4) (n:=8) (u:=.agg (cJ (c'.en k).o)) (by rw [xk];exact vf _) (by rw [xk];exact tq _) (by decide) (e:={ c'.en k with d:=(c'.en k).o }) (CQ _ _);have ec:({ c'.en k with d:=(c'.en k).o }:En)=iJ (c.en k):=by
    have hw':(c.en k).w=true:=by rw [<-hek];exact hw
    rw [hek];unfold iJ;rw [ql ⟨hm.2,hw'⟩]
   have h8:cD H8 b sv (c'.set k (iJ (c.en k))):=by rw [<-ec];exact h8
   have n78:=f8.next
   simp only [↓qd,qp,aa,reduceIte,reduceEqDiff,wb,qi,lw,h7.ldO hk7,s8];exact ⟨rfl,by rw [f8.ah L2 (by omega) (λ (q:L2=aF sv)=>hLs q)];exact gL,V,λ y hy=>⟨by have:=(hV y hy).1;omega,.inl hy⟩,(fx.mono λ y _ q=>.inr q).trans f8 λ y (q:y=aF sv)=>.inl (.inl (by rw [q];exact hP.vs)),.inl ⟨rfl,hP.vb,hP.vs,_,h8,ht2⟩⟩
  | false =>
   rw [hw] at lw;have ec:c'.set k (iJ (c.en k))=c':=by
    have hu:iJ (c.en k)=c'.en k:=by
     have hw':(c.en k).w=false:=by rw [<-hek];exact hw
     unfold iJ;rw [qg (λ q=>by rw [hw'] at q;exact Bool.noConfusion q.2),hek]
    rw [hu];unfold Ca.set Ca.en;rw [qy hk7];simp
   rw [ec] at ht2;simp only [↓qd,qp,aa,reduceIte,reduceEqDiff,wb,qi,lw];exact ⟨rfl,gL,V,λ y hy=>⟨by have:=(hV y hy).1;omega,.inl hy⟩,fx.mono λ y _ q=>.inr q,.inl ⟨rfl,hP.vb,hP.vs,_,h7,ht2⟩⟩
 ·intro d V Hd hd1 hd2 hgd hfd hVd hP;obtain ⟨c',h1,h2⟩:=hP.ex;have el:(eY c sv).length=(cL c).length:=by unfold eY;rw [xu]
  rw [el] at h2;have e:c' = { c with sl:=c.sl.map iJ }:=h2.done λ e h=>by unfold iJ;rw [qg λ q=>q.1 h]
  have hdb:d ≠ b:=by omega
  have hds:d ≠ aF sv:=by omega
  have fW:Fr (jB b sv) H Hd:=(ng f1).trans hfd λ y q=>q.elim (λ w=>.inl w) False.elim;simp only [↓qd,qp,aa,reduceIte,reduceEqDiff,w15];refine C3.q (qr6 (M:=M) h1 (by rw [h2.len];exact hl)) λ _ He ⟨h3,f3⟩=>?_;rw [e,q3g] at h3;have hge:He.get d=some (.deferred (some [])):=by rw [f3.ah d hd2 (λ q=>q.elim hdb hds)];exact hgd
  have fo:Fr (On d) He (He.set d (.deferred none)):=(Fr.refl He).set (W:=On d) (.inl rfl) _;simp only [↓qd,qp,aa,reduceIte,reduceEqDiff,zX];exact ⟨hge,h3.fr fo (λ (q:b=d)=>hdb q.symm) (λ (q:aF sv=d)=>hds q.symm),(pJ fW f3).set (.inr (by omega)) _⟩
 ·exact λ e d V Hd _ _ _ _ _ _ h=>h.elim
structure Kj (c:Ca) (b:Nat) (sv:AV) (t:Nat) (i:Nat) (V:Nat->Prop) (Hx:AHeap):Prop where
 vb:V b
 vs:V (aF sv)
 vt:V t
 lt:t<Hx.next
 ca:cD Hx b sv c
 ls:∃ lv,Hx.get t=some (OR [lv] dM)/\cq ao qr 21 Hx lv (((cL c).take i).map c.en) /\ ∀ a,aI lv a->V a/\t<a
theorem Kj.loc {c:Ca} {b:Nat} {sv:AV} {t i:Nat} {V:Nat->Prop} {Ha Hb:AHeap} (h:Kj c b sv t i V Ha) (hs:∀ x,V x->Hb.get x=Ha.get x) (hn:Ha.next<=Hb.next):Kj c b sv t i V Hb:=by
 obtain ⟨lv,l1,l2,l3⟩:=h.ls;refine ⟨h.vb,h.vs,h.vt,qk h.lt hn,h.ca.loc (hs _ h.vb) (hs _ h.vs) hn,lv,by rw [hs _ h.vt];exact l1,?_,l3⟩;exact Own.fr l2 (⟨hn,λ b _ hw=>hs b (vg.1 hw)⟩:Fr (λ b=>¬ V b) Ha Hb) λ x hx w=>w (l3 x hx).1
def HT (H:AHeap) (c:Ca) (v:AV) (H':AHeap):Prop:=∃ ys,Dt H' v ys/\lH c ys/\Fr Em H H' /\ ∀ x,aI v x->H.next<=x
theorem uF (hc:cD H b sv c) (hl:c.sl.length<=40):zq M FL [.ptr b 0] H (HT H c):=by
 refine quc ?_;obtain ⟨w0,wa,wb,w4,w9⟩:=ql3 M ⟨none,FL⟩;obtain ⟨H1,e1⟩:∃ X,X=H.alloc (OR [.nils] dM):=⟨_,rfl⟩
 have f1:Fr Em H H1:=by rw [e1];exact (Fr.refl H).alloc _
 have n1:H1.next=H.next+1:=by rw [e1,xd]
 have g1:H1.get H.next=some (OR [.nils] dM):=by rw [e1,qw]
 simp only [↓qd,qp,aa,reduceIte,reduceEqDiff,w0,<-e1,w4];refine C3.q (Qa (M:=M) b) λ v H5 ⟨hv,hh⟩=>?_;obtain ⟨H2,e2⟩:∃ X,X=H1.alloc (OR [.ptr b 0] yo):=⟨_,rfl⟩
 rw [<-e2] at hh;rw [hv,hh];have f12:Fr Em H1 H2:=by rw [e2];exact (Fr.refl H1).alloc _
 have f2:Fr Em H H2:=f1.trans f12 λ _ q=>q.elim;have n2:H2.next=H.next+2:=by rw [e2,xd,n1]
 have g2:H2.get H1.next=some (OR [.ptr b 0] yo):=by rw [e2,qw]
 have g2t:H2.get H.next=some (OR [.nils] dM):=by rw [f12.ah _ (by omega) id];exact g1
 have hc2:=hc.em f2;have hlt:=hc.lt;have hsb:aF sv<H.next:=hc.sl.lt
 refine gN.ui (fn:=Kz) (lp:=Ih) (pa:=NJ 0) (pb:=OX 0) qso qjy.1 qjy.2 (by decide) qpu qpv
  (OH (M:=M) (b:=b) (sv:=sv) (c:=c) g2 (by omega) hl) (λ i V Hx=>Kj c b sv H.next i V Hx) (λ _ _ _=>False) (λ x=>jB b sv x\/x=H.next) (qf _) ?_ ?_ ?_ ?_ ?_ ?_ ?_ ?_ ?_
 ·rintro x (q|q)
  ·exact ⟨by omega,rfl,λ w=>w.elim (λ w=>w.elim (λ w=>by omega) λ w=>by omega) λ w=>by omega⟩
  ·exact q.elim
 ·exact λ x hx=>hx.elim (λ q=>q.elim (λ q=>by omega) λ q=>by omega) λ q=>by omega
 ·exact ⟨.inl (.inl rfl),.inl (.inr rfl),.inr rfl,by omega,hc2,.nils,g2t,Own.nil ..,λ x q=>(q.1 rfl).elim⟩
 ·exact λ i V Ha Hb h hs hn=>h.loc hs hn
 ·exact λ e V Ha Hb h _ _=>h
 ·exact λ i V Hx h=>⟨c,h.ca,rfl,λ _=>rfl⟩
 ·intro L2 i lr lb x hx hL2 V H6 hP hV hf6 hnL hL6 hgL;unfold eY at hx;rw [xg,xe] at hx;obtain ⟨k,hk,rfl⟩:=hx;refine ⟨_,rfl,?_⟩;obtain ⟨-,wa,wb,-⟩:=ql3 M ⟨some L2,FL⟩;simp only [↓qd,qp,aa,reduceIte,reduceEqDiff,wa,EK];refine ⟨hgL,?_⟩;have fx:Fr (On L2) H6 (H6.set L2 lb):=(Fr.refl H6).set (W:=On L2) (.inl rfl) _;have gL:(H6.set L2 lb).get L2=some lb:=xb ..;have nL:(H6.set L2 lb).next=H6.next:=rfl
  have hP7:=hP.loc (Hb:=H6.set L2 lb) (λ y hy=>by rw [yb (λ q:L2=y=>hnL (by rw [q];exact hy))]) (qf _);generalize H6.set L2 lb=H7 at *;obtain ⟨lv,l1,l2,l3⟩:=hP7.ls;have hm:=GN.1 (zg hk);have lq:Op.ae [.ptr H.next 0] H7=some lv:=xp (qz l1) 0;have iX:(((cL c).take i).map c.en).length<=40:=by
   rw [xu,ja];have:(cL c).length<=c.sl.length:=by
    have:=vh (λ k=>(c.en k).st != 0) (List.range c.sl.length);rw [jq] at this;exact this
   omega
  simp only [↓qd,qp,aa,reduceIte,reduceEqDiff,wb,lq,qi,hP7.ca.KS hm.1];refine gE (e:=qr) (size:=21) (bytes:=160) l2 (x:=.agg (ao (c.en k))) rfl (by rw [xk];exact zd _) (by rw [xk];exact oH _) (by decide) (by omega) (by omega) λ lv' H8 hlv' hf hfr=>?_;rw [xk] at hlv';have q8:H8.get H.next=some (OR [lv] dM):=by rw [hf.ah _ hP7.lt λ q=>by have:=(l3 _ q).2;omega];exact l1
  have o1:aT lv'=true:=by have:=Sl.one (Own.sl hlv');exact this
  have st:=tj q8 o1;obtain ⟨H9,e9⟩:∃ X,X=H8.set H.next (OR [lv'] dM):=⟨_,rfl⟩
  rw [<-e9] at st;have f9:Fr (On H.next) H8 H9:=by rw [e9];exact (Fr.refl H8).set (W:=On H.next) (.inl rfl) _
  simp only [↓qd,qp,aa,reduceIte,reduceEqDiff,st];have lo':∀ y,aI lv' y->H.next<y:=λ y q=>(hfr y q).elim (λ q=>(l3 y q).2) λ q=>by have:=hP.lt;omega
  have nf:=hf.next
  have nb:∀ y,y<H.next -> ¬ aI lv y:=λ y hy q=>by have:=(l3 y q).2;omega
  have n9:H9.next=H8.next:=by rw [e9];rfl
  have hca9:cD H9 b sv c:=(hP7.ca.fr hf (nb _ hlt) (nb _ hsb)).fr f9 (λ (q:b=H.next)=>by omega) (λ (q:aF sv=H.next)=>by omega);refine ⟨rfl,?_,λ y=>V y\/aI lv' y,?_,?_,.inl ⟨rfl,⟨.inl hP.vb,.inl hP.vs,.inl hP.vt,?_,hca9,lv',?_,?_,λ y q=>⟨.inr q,lo' y q⟩⟩⟩⟩
  ·rw [f9.ah L2 (by omega) (λ (q:L2=H.next)=>hnL (by rw [q];exact hP.vt)),hf.ah L2 (by omega) λ q=>hnL (l3 _ q).1];exact gL
  ·rintro y (q|q)
   ·exact ⟨by have:=(hV y q).1;omega,.inl q⟩
   ·refine ⟨by rw [n9];exact Own.lt hlv' y q,?_⟩;rcases hfr y q with w|w
    ·exact .inl (l3 y w).1
    ·exact .inr (by omega)
  ·have a1:Fr (λ b=>V b\/b=L2) H6 H7:=fx.mono λ x _ q=>.inr q;exact (a1.trans hf λ x hx=>.inl (.inl (l3 x hx).1)).trans f9 λ x hx=>.inl (.inl (by rw [show x=H.next from hx];exact hP.vt))
  ·have:=hP.lt;omega
  ·rw [e9,xb]
  ·have hx2:((cL c).take (i+1)).map c.en=((cL c).take i).map c.en ++ [c.en k]:=by rw [yq,hk];simp
   rw [hx2];have ow:cq ao qr 21 H8 lv' (((cL c).take i).map c.en ++ [c.en k]):=by
    unfold cq;rw [qx,jd,zx,IU,xt];exact hlv'
   exact Own.fr ow f9 λ x hx (q:x=H.next)=>by have:=lo' x hx;omega
 ·intro d V Hd hd1 hd2 hgd hfd hVd hP;obtain ⟨lv,l1,l2,l3⟩:=hP.ls;have el:(eY c sv).length=(cL c).length:=by unfold eY;rw [xu]
  rw [el,zj (qf _)] at l2;have lq:Op.ae [.ptr H.next 0] Hd=some lv:=xp (qz l1) 0;have hfe:(cL c).map c.en=c.sl.filter En.val:=by
   unfold cL;have:c.sl=(List.range c.sl.length).map c.en:=by
    refine jp λ k=>?_;rcases zt k c.sl.length with q|q
    ·rw [rO q,xg,ku q];rfl
    ·rw [xz q,xz (by rw [xu,jq];exact q)]
   conv=>rhs;rw [this]
   rw [List.filter_map];rfl
  have hlen:((cL c).map c.en).length<=40:=by
   rw [hfe];exact xj (vh ..) hl
  have hbn:=hP.ca.row;have hsn:Hd.get (aF sv)=H.get (aF sv):=by
   obtain ⟨s1,a1,a2,a3⟩:=hP.ca.sl;obtain ⟨s2,b1,b2,b3⟩:=hc.sl;have e1:aF sv=s1:=by rw [a1];rfl
   have e2:aF sv=s2:=by rw [b1];rfl
   rw [<-e1] at a3;rw [<-e2] at b3;rw [a3,b3]
  have hbe:Hd.get b=H.get b:=by rw [hbn,hc.row]
  have fE:Fr Em H Hd:=⟨xj f2.next hfd.next,λ y hy _=>by
   by_cases e1:y=b
   ·rw [e1];exact hbe
   ·by_cases e2:y=aF sv
    ·rw [e2];exact hsn
    ·rw [hfd.ah y (by omega) (λ q=>q.elim (λ q=>q.elim (λ q=>q.elim e1 e2) λ q=>by omega) id),f2.ah y hy id]⟩
  simp only [↓qd,qp,aa,reduceIte,reduceEqDiff,w9,lq];refine C3.q (qvr (M:=M) (xs:=(cL c).map c.en) l2 hlen) λ _ He ⟨ys,hy1,hy2,hy3,hy4⟩=>?_;have hne:∀ y,y<=H.next -> ¬ aI lv y:=λ y hy q=>by have:=(l3 y q).2;omega
  have ge:He.get H.next=some (OR [lv] dM):=by rw [hy2.ah _ hP.lt (hne _ (qf _))];exact l1
  have lqe:Op.ae [.ptr H.next 0] He=some lv:=xp (qz ge) 0;have hgde:He.get d=some (.deferred (some [])):=by rw [hy2.ah d hd2 (λ q=>(hVd d (l3 d q).1).2.2 rfl)];exact hgd
  have fo:Fr (On d) He (He.set d (.deferred none)):=(Fr.refl He).set (W:=On d) (.inl rfl) _;simp only [↓qd,qp,aa,reduceIte,reduceEqDiff,lqe,zX];refine ⟨hgde,ys,Own.fr hy1 fo (λ x hx (q:x=d)=>(hVd x (l3 x hx).1).2.2 q),⟨by rw [<-hfe];exact hy3,hy4⟩,?_,λ x hx=>by have:=(l3 x hx).2;omega⟩;exact (fE.trans hy2 λ x hx=>.inr (by have:=(l3 x hx).2;omega)).set (.inr (by omega)) _
 ·exact λ e d V Hd _ _ _ _ _ _ h=>h.elim
end
end Go.Am
namespace Go.Am
open Go.Proofs Ca
variable {M:aA} [MK M]
def iO (s w:Nat):Ca:=⟨s,w,List.replicate (s*w) .zero,0⟩
theorem KA (s w k:Nat):(iO s w).en k=.zero:=by
 unfold Ca.en iO;simp only [Jx];split<;>rfl
theorem wL (lines:Int) {s w:Nat} (hs:0<s) (hw:0<w):CI lines (iO s w) :=
 ⟨zb ..,hs,hw,λ i _ h=>by rw [KA] at h;exact absurd rfl h,λ i j _ _ h=>by rw [KA] at h;exact absurd rfl h⟩
theorem q0s (s w:Nat):(iO s w).plain:=λ i _ h=>by rw [KA] at h;exact absurd rfl h
theorem q1v:∀ n:Nat,(List.replicate n En.zero).flatMap ao=dG n (ao .zero)
 | 0=>rfl
 | n+1=>by rw [IK,zx,q1v n];rfl
def mF (s w:Int):Prop:=1<=s/\s<=8/\1<=w/\w<=4
instance (s w:Int):Decidable (mF s w):=inferInstanceAs (Decidable (_/\_))
def Qg (H:AHeap) (s w:Int) (v:AV) (H':AHeap):Prop:=Fr Em H H'/\(¬ mF s w/\v=.tuple [.nilp,.int .i64 2]\/mF s w /\ ∃ b sv,v=.tuple [.ptr b 0,.int .i64 0]/\cD H' b sv (iO s.toNat w.toNat)/\H.next<=b/\H.next<=aF sv)
theorem q3q {H:AHeap} (s w:Int):zq M PV [.int .i64 s,.int .i64 w] H (Qg H s w):=by
 refine uX ?_;obtain ⟨w0,w2,w10⟩:=yB M ⟨none,PV⟩
 by_cases h1:s<1
 ·simp only [↓qd,qp,aa,reduceIte,reduceEqDiff,w0,w2,h1];exact ⟨Fr.refl _,.inl ⟨λ q=>by have:=q.1;omega,rfl⟩⟩
 by_cases h2:8<s
 ·simp only [↓qd,qp,aa,reduceIte,reduceEqDiff,w0,w2,h1,h2];exact ⟨Fr.refl _,.inl ⟨λ q=>by have:=q.2.1;omega,rfl⟩⟩
 by_cases h3:w<1
 ·simp only [↓qd,qp,aa,reduceIte,reduceEqDiff,w0,w2,h1,h2,h3];exact ⟨Fr.refl _,.inl ⟨λ q=>by have:=q.2.2.1;omega,rfl⟩⟩
 by_cases h4:4<w
 ·simp only [↓qd,qp,aa,reduceIte,reduceEqDiff,w0,w2,h1,h2,h3,h4];exact ⟨Fr.refl _,.inl ⟨λ q=>by have:=q.2.2.2;omega,rfl⟩⟩
 obtain ⟨a,rfl⟩:=jb (show 0<=s by omega);obtain ⟨d,rfl⟩:=jb (show 0<=w by omega);have had:a*d<=8*4:=Nat.mul_le_mul (by omega) (by omega);have wm:ak .i64 ((a:Int)*(d:Int))=((a*d:Nat):Int):=by rw [<-Int.natCast_mul];exact xm (by omega) (by omega)
 have mk:=Ls qr 160 (ao .zero) (a*d) .i64 .i64 (by omega) (by omega);rw [<-q1v] at mk;obtain ⟨H1,e1⟩:∃ X,X=H.alloc (OR ((List.replicate (a*d) En.zero).flatMap ao) qr):=⟨_,rfl⟩
 have f1:Fr Em H H1:=by rw [e1];exact (Fr.refl H).alloc _
 have n1:H1.next=H.next+1:=by rw [e1,xd]
 obtain ⟨sv,hsv⟩:∃ sv:AV,sv=.slice H.next 0 (a*d) (a*d):=⟨_,rfl⟩
 have hst:Op.sliceTo (a*d) (a*d) H.next=sv:=by rw [hsv];rfl
 have hsb:aF sv=H.next:=by rw [hsv];rfl
 have bd:Op.build [.int .i64 0,.int .i64 0,.nils,.int .i64 0] [(0,1),(1,1),(2,1)] [.int .i64 (a:Int),.int .i64 (d:Int),sv]=some (.agg (vQ (iO a d) sv)):=by rw [hsv];rfl
 obtain ⟨H2,e2⟩:∃ X,X=H1.alloc (OR (vQ (iO a d) sv) J1):=⟨_,rfl⟩
 have f2:Fr Em H1 H2:=by rw [e2];exact (Fr.refl H1).alloc _
 have g2:H2.get H1.next=some (OR (vQ (iO a d) sv) J1):=by rw [e2,qw]
 simp only [↓qd,qp,aa,reduceIte,reduceEqDiff,w0,w2,h1,h2,h3,h4,w10,wm,eZ,mk,hst,<-e1,bd,xk,<-e2];refine ⟨f1.trans f2 λ _ q=>q.elim,.inr ⟨⟨by omega,by omega,by omega,by omega⟩,_,sv,rfl,⟨g2,by rw [e2,xd];omega,⟨H.next,?_,?_,?_⟩,by omega,by show a<=8;omega,by show d<=4;omega,⟨Int.le_refl _,by show (0:Int)<=1000000;decide⟩⟩,by omega,by omega⟩⟩
 ·show sv=.slice H.next 0 (List.replicate (a*d) En.zero).length (List.replicate (a*d) En.zero).length
  rw [zb];exact hsv
 ·rw [e2,xd];omega
 ·rw [f2.ah _ (by omega) id,e1,qw];rfl
end Go.Am
