/- NmK7: NhF NhG NhH. -/
import Derived.Test.YtiibohocdbaekaaAmRNmK6
set_option linter.unusedVariables false
set_option linter.unusedSimpArgs false
set_option linter.unusedSectionVars false
set_option maxRecDepth 100000
open Nat (reduceEqDiff)
namespace Go.Am
open Go.Proofs Ca
variable {M:aO} [MK M]
theorem JP (p:Nat->Bool) (k:Nat):(List.range (k+1)).filter p=(List.range k).filter p++(if p k then [k] else []):=by
 rw [List.range_succ,List.filter_append];congr 1;cases h:p k<;>simp [h]
theorem q4z (p:Nat->Bool) {k:Nat}:∀ m:Nat,∃ X,(List.range (k+m)).filter p=(List.range k).filter p++X
 | 0=>⟨[],by simp⟩
 | m+1=>by
  obtain ⟨X,hX⟩:=q4z p m;rw [<-vl,JP,hX];exact ⟨X++(if p (k+m) then [k+m] else []),by rw [zi]⟩
theorem q4y (p:Nat->Bool) {n k:Nat} (hk:k<n) (hp:p k=true):((List.range n).filter p)[((List.range k).filter p).length]? = some k:=by
 obtain ⟨m,rfl⟩:∃ m,n=k+1+m:=⟨n-(k+1),by omega⟩
 obtain ⟨X,hX⟩:=q4z p (k:=k+1) m;rw [hX,JP,hp];simp
def eY (c:Ca):List Nat:=(List.range c.sl.length).filter λ k=>(c.en k).st != 0
def fY (c:Ca) (sv:AV):List (List AV):=(eY c).map λ k=>[eA sv k]
def HeI (b:Nat) (sv:AV) (c:Ca) (Hx:AHeap):Prop:=∃ c',cK Hx b sv c'/\c'.sl.length=c.sl.length /\ ∀ k,(c'.en k).st=(c.en k).st
theorem qyb {H0:AHeap} {p b:Nat} {sv:AV} {c:Ca} (hp:H0.get p=some (OR [.ptr b 0] wc)) (hpl:p<H0.next) (hl:c.sl.length<=40) :
 tn M ym [] [.ptr p 0] (λ x=>x=p) (λ _=>False) (HeI b sv c) H0 (fY c sv):=by
 intro Y R S W0 H1 hnx hN hR0 hW0 loc locS hI step;obtain ⟨p1,p2,p3⟩:=hN p (.inl rfl)
 suffices h:jv M ym [.fn (.yield Y) [] [],.ptr p 0] H1 (Ma R S W0 (λ _=>False) H1 (fY c sv).length) by
  obtain ⟨v,H',hc,W',q1,q2,q3⟩:=h.elim;exact ⟨v,H',W',hc,q1,q2,q3⟩
 refine qrn ?_;obtain ⟨w0,w1,w7,w9,w13,w19,w34,w23,w29⟩:=qro M ⟨none,ym⟩;have lp:∀ {Hx:AHeap},Fr W0 H1 Hx->Op.aa [.ptr p 0] Hx=some (.ptr b 0):=λ f=>by rw [zf (xb (by rw [f.ae _ (by omega) p3,p2];exact hp))];rfl
 have r0:=Fr.refl (W:=W0) H1;obtain ⟨c1,h1,h1l,h1s⟩:=hI 0 W0 H1 hR0;have l2:Op.aa [.ptr b 2] H1=some sv:=h1.I0 2;have ln:Op.bB [sv]=some (.int .i64 ((c.sl.length:Nat):Int)):=by rw [<-h1l];exact (h1.sl.sl ja).len
 simp only [↓qh,xa,reduceIte,reduceEqDiff,w0,w1,lp r0,yk,w7,w9,qf,l2,ln];refine bG.intro (λ n E Hx=>∃ (i:Nat) (V:Nat->Prop),E=[(11,.int .i64 (i:Int)),(10,.int .i64 ((c.sl.length:Nat):Int)),(0,.fn (.yield Y) [] []),(1,.ptr p 0)]/\n=c.sl.length-i/\i<=c.sl.length/\Me R W0 H1 Hx ((List.range i).filter λ k=>(c.en k).st != 0).length V) ?_ ?_
 ·exact ⟨_,_,⟨0,W0,rfl,rfl,zl _,⟨hR0,λ b hb=>⟨hW0 b hb,.inl hb⟩,Fr.refl _⟩⟩,by simp only [↓qh,xa,reduceIte,reduceEqDiff]⟩
 rintro n E Hx ⟨i,V,rfl,rfl,hi,hx⟩;rcases jp i c.sl.length with hlt|hge
 ·have q1:(i:Int)<((c.sl.length:Nat):Int):=by omega
  obtain ⟨c',h',hl',hs'⟩:=hI _ V Hx hx.hR;have l2':Op.aa [.ptr b 2] Hx=some sv:=h'.I0 2;have hi':i<c'.sl.length:=by omega
  have ix:=h'.ix hi';have ls:Op.aa [.ptr (aM sv) (cu 21 sv i+1)] Hx=some (.int .i64 (c.en i).st):=by rw [<-hs' i];exact h'.ld hi' (k:=1) (by decide)
  have wj:aZ .i64 ((i:Int)+1)=((i+1:Nat):Int):=by rw [wx (by omega) (by omega)];omega
  have hf:=JP (λ k=>(c.en k).st != 0) i
  by_cases h0:(c.en i).st=0
  ·have hf':((List.range (i+1)).filter λ k=>(c.en k).st != 0).length=((List.range i).filter λ k=>(c.en k).st != 0).length:=by rw [hf];simp [h0]
   simp only [↓qh,xa,reduceIte,reduceEqDiff,w13,q1,w19,w23,lp hx.fr,qf,l2',ix,ls,xj h0,w34,wj];exact ⟨_,_,⟨i+1,V,rfl,rfl,by omega,by rw [hf'];exact hx⟩,by simp only [↓qh,xa,reduceIte,reduceEqDiff],by omega⟩
  ·have hf':((List.range (i+1)).filter λ k=>(c.en k).st != 0).length=((List.range i).filter λ k=>(c.en k).st != 0).length+1:=by rw [hf];simp [h0]
   have hg:(fY c sv)[((List.range i).filter λ k=>(c.en k).st != 0).length]? = some [eA sv i]:=by
    unfold fY eY;rw [xm,q4y _ hlt (by simp [h0])];rfl
   obtain ⟨bb,H2,W2,hr,hf2,hW2,ht,hs⟩:=step _ _ hg V Hx hx.hR hx.hV (hx.fr.mono λ _ _ q=>.inl q);have fr2:Fr W0 H1 H2:=hx.fr.trans hf2 λ b q=>(hx.hV b q).2;have hV2:∀ b,W2 b->b<H2.next/\(W0 b\/H1.next<=b):=λ b q=>⟨(hW2 b q).1,(hW2 b q).2.elim (λ w=>(hx.hV b w).2) λ w=>.inr (xt hx.fr.next w)⟩
   simp only [↓qh,xa,reduceIte,reduceEqDiff,w13,q1,w19,w23,lp hx.fr,qf,l2',ix,ls,h0,w29];refine C3.EN hr ?_;cases bb with
   | true =>
    simp only [↓qh,xa,reduceIte,reduceEqDiff,w34,wj];exact ⟨_,_,⟨i+1,W2,rfl,rfl,by omega,⟨by rw [hf'];exact ht rfl,hV2,fr2⟩⟩,by simp only [↓qh,xa,reduceIte,reduceEqDiff],by omega⟩
   | false =>
    simp only [↓qh,xa,reduceIte,reduceEqDiff,rX];exact ⟨W2,fr2.mono λ _ _ q=>.inl q,hV2,.inr (hs rfl)⟩
 ·have q1:¬ (i:Int)<((c.sl.length:Nat):Int):=by omega
  have hiw:i=c.sl.length:=by omega
  simp only [↓qh,xa,reduceIte,reduceEqDiff,w13,q1,G0];refine ⟨V,hx.fr.mono λ _ _ q=>.inl q,hx.hV,.inl ?_⟩;have e:(fY c sv).length=((List.range i).filter λ k=>(c.en k).st != 0).length:=by unfold fY eY;rw [zb,hiw]
  rw [e];exact hx.hR
theorem q1s {H:AHeap} (b:Nat):jv M Cz [.ptr b 0] H λ v H'=>v=.fn (.func ym) [] [.ptr H.next 0]/\H'=H.alloc (OR [.ptr b 0] wc):=by
 refine qvy ?_;have ca:AV.cells (.ptr b 0)=[.ptr b 0]:=rfl;have mk:Op.cB ym 0 [.ptr H.next 0]=some (.fn (.func ym) [] [.ptr H.next 0]):=rfl;simp only [↓qh,xa,reduceIte,reduceEqDiff,qvz,ca,mk];rfl
structure wO (c:Ca) (g:En->En) (i:Nat) (c':Ca):Prop where
 dk:c'.dk=c.dk
 ways:c'.ways=c.ways
 us:c'.us=c.us
 len:c'.sl.length=c.sl.length
 en:∀ k,k<c.sl.length->c'.en k=if k ∈ (eY c).take i then g (c.en k) else c.en k
theorem wO.zero (c:Ca) (g:En->En):wO c g 0 c:=⟨rfl,rfl,rfl,rfl,λ k hk=>by simp⟩
theorem q3m (c:Ca):(eY c).Nodup:=List.Nodup.sublist (List.filter_sublist) List.nodup_range
theorem HG {c:Ca} {k:Nat}:k ∈ eY c ↔ k<c.sl.length/\(c.en k).st ≠ 0:=by
 unfold eY;rw [FJ,List.mem_range];simp
theorem q61 {l:List Nat} (h:l.Nodup) {i k:Nat} (hk:l[i]? = some k):k ∉ l.take i:=by
 intro hm;obtain ⟨j,hj⟩:=wz hm;rw [ku] at hj;split at hj
 ·rename_i hji;have h1:=ql.1 hj;have h2:=ql.1 hk;exact List.pairwise_iff_getElem.1 h j i h1.1 h2.1 hji (by rw [h1.2,h2.2])
 ·cases hj
theorem wO.step {c c':Ca} {g:En->En} {i k:Nat} (h:wO c g i c') (hk:(eY c)[i]? = some k):c'.en k=c.en k/\wO c g (i+1) (c'.set k (g (c.en k))):=by
 have hm:=HG.1 (jf hk);have hn:=q61 (q3m c) hk;have he:c'.en k=c.en k:=by rw [h.en k hm.1,qd hn]
 refine ⟨he,h.dk,h.ways,h.us,by show (c'.sl.set k _).length=_;rw [qz];exact h.len,λ j hj=>?_⟩;rw [og (by rw [h.len];exact hm.1),FC,hk]
 by_cases q:k=j
 ·subst q;rw [qm rfl,qm (by simp)]
 ·rw [qd q,h.en j hj];have:(j ∈ (eY c).take i++(some k).toList) ↔ j ∈ (eY c).take i:=by simp [vp q]
  by_cases w:j ∈ (eY c).take i
  ·rw [qm w,qm (this.2 w)]
  ·rw [qd w,qd λ z=>w (this.1 z)]
theorem wO.done {c c':Ca} {g:En->En} (h:wO c g (eY c).length c') (hg:∀ e:En,e.st=0->g e=e):c' = { c with sl:=c.sl.map g }:=by
 have hsl:c'.sl=c.sl.map g:=by
  refine kx λ k=>?_;rcases jp k c.sl.length with q|q
  ·rw [wL (by rw [h.len];exact q),xm,wL q,h.en k q,zw (qg _)]
   by_cases w:(c.en k).st=0
   ·rw [qd (λ z=>(HG.1 z).2 w)];show some (c.en k)=some (g (c.en k));rw [hg _ w]
   ·rw [qm (HG.2 ⟨q,w⟩)];rfl
  ·rw [zm (by rw [h.len];exact q),zm (by rw [zb];exact q)]
 obtain ⟨s,w,l,u⟩:=c';have h1:=h.dk;have h2:=h.ways;have h3:=h.us;simp only at h1 h2 h3 hsl;subst h1;subst h2;subst h3;subst hsl;rfl
structure Ez (c:Ca) (g:En->En) (b:Nat) (sv:AV) (i:Nat) (V:Nat->Prop) (Hx:AHeap):Prop where
 vb:V b
 vs:V (aM sv)
 ex:∃ c',cK Hx b sv c'/\wO c g i c'
theorem cK.loc {Ha Hb:AHeap} {b:Nat} {sv:AV} {c:Ca} (h:cK Ha b sv c) (h1:Hb.get b=Ha.get b) (h2:Hb.get (aM sv)=Ha.get (aM sv)) (hn:Ha.next<=Hb.next):cK Hb b sv c :=
 ⟨by rw [h1];exact h.row,qn h.lt hn,by
  obtain ⟨sb,e1,e2,e3⟩:=h.sl;have e4:aM sv=sb:=by rw [e1];rfl
  rw [e4] at h2;exact ⟨sb,e1,qn e2 hn,by rw [h2];exact e3⟩,h.ne,h.s8,h.w4,h.us⟩
theorem Ez.loc {c:Ca} {g:En->En} {b:Nat} {sv:AV} {i:Nat} {V:Nat->Prop} {Ha Hb:AHeap} (h:Ez c g b sv i V Ha) (hs:∀ x,V x->Hb.get x=Ha.get x) (hn:Ha.next<=Hb.next):Ez c g b sv i V Hb:=by
 obtain ⟨c',h1,h2⟩:=h.ex;exact ⟨h.vb,h.vs,c',h1.loc (hs _ h.vb) (hs _ h.vs) hn,h2⟩
theorem Ez.hI {c:Ca} {g:En->En} (hg:∀ e:En,(g e).st=e.st) {b:Nat} {sv:AV} {i:Nat} {V:Nat->Prop} {Hx:AHeap} (h:Ez c g b sv i V Hx):HeI b sv c Hx:=by
 obtain ⟨c',h1,h2⟩:=h.ex;refine ⟨c',h1,h2.len,λ k=>?_⟩;rcases jp k c.sl.length with q|q
 ·rw [h2.en k q];split
  ·exact hg _
  ·rfl
 ·rw [N5 q,N5 (by rw [h2.len];exact q)]
section
variable {H:AHeap} {b:Nat} {sv:AV} {c:Ca} {lines line:Int}
theorem quu (hc:cK H b sv c) (hl:c.sl.length<=40):jv M y9 [.ptr b 0] H λ _ H'=>cK H' b sv c.bn/\Fr (iC b sv) H H':=by
 refine qri ?_;obtain ⟨w0,wa,wb,w2,w10,w15⟩:=qke M ⟨none,y9⟩;simp only [↓qh,xa,reduceIte,reduceEqDiff,w0,w2,yk,w10];refine C3.q (q1s (M:=M) b) λ v H5 ⟨hv,hh⟩=>?_;obtain ⟨H1,e1⟩:∃ X,X=H.alloc (OR [.ptr b 0] wc):=⟨_,rfl⟩
 rw [<-e1] at hh;rw [hv,hh];have f1:Fr Em H H1:=by rw [e1];exact (Fr.refl H).alloc _
 have n1:H1.next=H.next+1:=by rw [e1,xn]
 have g1:H1.get H.next=some (OR [.ptr b 0] wc):=by rw [e1,qx]
 have hc1:=hc.em f1;have hlt:=hc.lt;have hsb:aM sv<H.next:=hc.sl.lt
 refine fw.Bg (fn:=Dw) (lp:=EZ) (pa:=qi4 0) (pb:=qi5 0) qp1 qie.1 qie.2 (by decide) ⟨rfl,sD EZ.assign⟩ ⟨rfl,sD EZ.body⟩
  (qyb (M:=M) (b:=b) (sv:=sv) (c:=c) g1 (by omega) hl) (λ i V Hx=>Ez c iG b sv i V Hx) (λ _ _ _=>False) (iC b sv) (qg _) ?_ ?_ ?_ ?_ ?_ ?_ ?_ ?_ ?_
 ·rintro x (q|q)
  ·exact ⟨by omega,rfl,λ w=>w.elim (λ w=>by omega) λ w=>by omega⟩
  ·exact q.elim
 ·exact λ x hx=>hx.elim (λ q=>by omega) λ q=>by omega
 ·exact ⟨.inl rfl,.inr rfl,c,hc1,wO.zero c iG⟩
 ·exact λ i V Ha Hb h hs hn=>h.loc hs hn
 ·exact λ e V Ha Hb h _ _=>h
 ·exact λ i V Hx h=>h.hI I7
 ·intro L2 i lr lb x hx hL2 V H6 hP hV hf6 hnL hL6 hgL;unfold fY at hx;rw [xm,xf] at hx;obtain ⟨k,hk,rfl⟩:=hx;refine ⟨_,rfl,?_⟩;obtain ⟨-,wa,wb,-⟩:=qke M ⟨some L2,y9⟩;simp only [↓qh,xa,reduceIte,reduceEqDiff,wa,GS];refine ⟨hgL,?_⟩;have fx:Fr (On L2) H6 (H6.set L2 lb):=(Fr.refl H6).set (W:=On L2) (.inl rfl) _;have gL:(H6.set L2 lb).get L2=some lb:=xd ..;have nL:(H6.set L2 lb).next=H6.next:=rfl
  have hP7:=hP.loc (Hb:=H6.set L2 lb) (λ y hy=>by rw [wq (λ q:L2=y=>hnL (by rw [q];exact hy))]) (qg _);generalize H6.set L2 lb=H7 at *;obtain ⟨c',h7,ht⟩:=hP7.ex;obtain ⟨hek,ht2⟩:=ht.step hk;have hm:=HG.1 (jf hk);have hk7:k<c'.sl.length:=by rw [ht.len];exact hm.1
  obtain ⟨H8,s8,h8,f8⟩:=h7.b9 hk7 (j:=2) (by decide) (u:=.bool false) rfl (e:={ c'.en k with r:=false }) rfl;have hk8:k<(c'.set k { c'.en k with r:=false }).sl.length:=by show k<(c'.sl.set k _).length;rw [qz];exact hk7
  obtain ⟨H9,s9,h9,f9⟩:=h8.b9 hk8 (j:=3) (by decide) (u:=.bool false) rfl (e:={ (c'.set k { c'.en k with r:=false }).en k with w:=false }) rfl;rw [D9 hk7,Jb] at h9;have hk9:k<(c'.set k { c'.en k with r:=false,w:=false }).sl.length:=by show k<(c'.sl.set k _).length;rw [qz];exact hk7
  obtain ⟨H10,s10,h10,f10⟩:=h9.Kc hk9 (j:=12) (n:=8) (u:=.agg (cN .zero)) (by rw [xw];exact iu _) (by rw [xw];exact rn _) (by decide) (e:={ (c'.set k { c'.en k with r:=false,w:=false }).en k with o:=.zero }) (A7 _ _);rw [D9 hk7,Jb] at h10;have ec:({ c'.en k with r:=false,w:=false,o:=.zero }:En)=iG (c.en k):=by rw [hek];unfold iG;rw [qd hm.2]
  have h10:cK H10 b sv (c'.set k (iG (c.en k))):=by rw [<-ec];exact h10
  have f710:Fr (On (aM sv)) H7 H10:=(f8.trans f9 λ _ q=>.inl q).trans f10 λ _ q=>.inl q;have hLs:L2 ≠ aM sv:=λ q=>hnL (by rw [q];exact hP.vs);have n710:=f710.next
  simp only [↓qh,xa,reduceIte,reduceEqDiff,wb,lZ,xB,qf,s8,s9,s10];refine ⟨rfl,by rw [f710.ae L2 (by omega) (λ (q:L2=aM sv)=>hLs q)];exact gL,V,λ y hy=>⟨by have:=(hV y hy).1;omega,.inl hy⟩,(fx.mono λ y _ q=>.inr q).trans f710 λ y (q:y=aM sv)=>.inl (.inl (by rw [q];exact hP.vs)),.inl ⟨rfl,hP.vb,hP.vs,_,h10,ht2⟩⟩
 ·intro d V Hd hd1 hd2 hgd hfd hVd hP;obtain ⟨c',h1,h2⟩:=hP.ex;have el:(fY c sv).length=(eY c).length:=by unfold fY;rw [zb]
  rw [el] at h2;have e:c'=c.bn:=h2.done λ e h=>by unfold iG;rw [qm h]
  rw [e] at h1;have hdb:d ≠ b:=by omega
  have hds:d ≠ aM sv:=by omega
  have fo:Fr (On d) Hd (Hd.set d (.deferred none)):=(Fr.refl Hd).set (W:=On d) (.inl rfl) _;have fW:Fr (iC b sv) H Hd:=(lA f1).trans hfd λ y q=>q.elim (λ w=>.inl w) False.elim;simp only [↓qh,xa,reduceIte,reduceEqDiff,w15,DD];exact ⟨hgd,h1.fr fo (λ (q:b=d)=>hdb q.symm) (λ (q:aM sv=d)=>hds q.symm),fW.set (.inr (by omega)) _⟩
 ·exact λ e d V Hd _ _ _ _ _ _ h=>h.elim
end
end Go.Am
namespace Go.Am
open Go.Proofs Ca
variable {M:aO} [MK M]
def gU (e:En):En:=if e.st ≠ 0/\e.w=true then { e with d:=e.o } else e
theorem xai (e:En):(gU e).st=e.st:=by unfold gU;split<;>rfl
theorem vE (e:En):iG (gU e)=back e:=by
 unfold iG back;rw [xai]
 by_cases h:e.st=0
 ·rw [qm h,qm h];unfold gU;rw [qd λ q=>q.1 h]
 ·rw [qd h,qd h];unfold gU
  by_cases hw:e.w=true
  ·rw [qm ⟨h,hw⟩,qm hw]
  ·rw [qd (λ q=>hw q.2),qd hw]
theorem q6h (c:Ca):Ca.bn { c with sl:=c.sl.map gU } = c.discard:=by
 unfold Ca.bn Ca.discard;simp only [re];congr 1;exact List.map_congr_left λ e _=>vE e
section
variable {H:AHeap} {b:Nat} {sv:AV} {c:Ca} {lines line:Int}
theorem q1f (hc:cK H b sv c) (hl:c.sl.length<=40):jv M vm [.ptr b 0] H λ _ H'=>cK H' b sv c.discard/\Fr (iC b sv) H H':=by
 refine qp2 ?_;obtain ⟨w0,wa,wb,w2,w10,w15⟩:=qi7 M ⟨none,vm⟩;simp only [↓qh,xa,reduceIte,reduceEqDiff,w0,w2,yk,w10];refine C3.q (q1s (M:=M) b) λ v H5 ⟨hv,hh⟩=>?_;obtain ⟨H1,e1⟩:∃ X,X=H.alloc (OR [.ptr b 0] wc):=⟨_,rfl⟩
 rw [<-e1] at hh;rw [hv,hh];have f1:Fr Em H H1:=by rw [e1];exact (Fr.refl H).alloc _
 have n1:H1.next=H.next+1:=by rw [e1,xn]
 have g1:H1.get H.next=some (OR [.ptr b 0] wc):=by rw [e1,qx]
 have hc1:=hc.em f1;have hlt:=hc.lt;have hsb:aM sv<H.next:=hc.sl.lt
 refine fw.Bg (fn:=Dk) (lp:=Eb) (pa:=qif 0) (pb:=qig 0) qo5 qhm.1 qhm.2 (by decide) ⟨rfl,sD Eb.assign⟩ ⟨rfl,sD Eb.body⟩
  (qyb (M:=M) (b:=b) (sv:=sv) (c:=c) g1 (by omega) hl) (λ i V Hx=>Ez c gU b sv i V Hx) (λ _ _ _=>False) (iC b sv) (qg _) ?_ ?_ ?_ ?_ ?_ ?_ ?_ ?_ ?_
 ·rintro x (q|q)
  ·exact ⟨by omega,rfl,λ w=>w.elim (λ w=>by omega) λ w=>by omega⟩
  ·exact q.elim
 ·exact λ x hx=>hx.elim (λ q=>by omega) λ q=>by omega
 ·exact ⟨.inl rfl,.inr rfl,c,hc1,wO.zero c gU⟩
 ·exact λ i V Ha Hb h hs hn=>h.loc hs hn
 ·exact λ e V Ha Hb h _ _=>h
 ·exact λ i V Hx h=>h.hI xai
 ·intro L2 i lr lb x hx hL2 V H6 hP hV hf6 hnL hL6 hgL;unfold fY at hx;rw [xm,xf] at hx;obtain ⟨k,hk,rfl⟩:=hx;refine ⟨_,rfl,?_⟩;obtain ⟨-,wa,wb,-⟩:=qi7 M ⟨some L2,vm⟩;simp only [↓qh,xa,reduceIte,reduceEqDiff,wa,GS];refine ⟨hgL,?_⟩;have fx:Fr (On L2) H6 (H6.set L2 lb):=(Fr.refl H6).set (W:=On L2) (.inl rfl) _;have gL:(H6.set L2 lb).get L2=some lb:=xd ..;have nL:(H6.set L2 lb).next=H6.next:=rfl
  have hP7:=hP.loc (Hb:=H6.set L2 lb) (λ y hy=>by rw [wq (λ q:L2=y=>hnL (by rw [q];exact hy))]) (qg _);generalize H6.set L2 lb=H7 at *;obtain ⟨c',h7,ht⟩:=hP7.ex;obtain ⟨hek,ht2⟩:=ht.step hk;have hm:=HG.1 (jf hk);have hk7:k<c'.sl.length:=by rw [ht.len];exact hm.1
  have hLs:L2 ≠ aM sv:=λ q=>hnL (by rw [q];exact hP.vs);have lw:Op.aa [.ptr (aM sv) (cu 21 sv k+3)] H7=some (.bool (c'.en k).w):=h7.ld hk7 (k:=3) (by decide);cases hw:(c'.en k).w with
  | true =>
   rw [hw] at lw;obtain ⟨H8,s8,h8,f8⟩:=h7.Kc hk7 (j:=4) (n:=8) (u:=.agg (cN (c'.en k).o)) (by rw [xw];exact iu _) (by rw [xw];exact rn _) (by decide) (e:={ c'.en k with d:=(c'.en k).o }) (Bj _ _);have ec:({ c'.en k with d:=(c'.en k).o }:En)=gU (c.en k):=by
    have hw':(c.en k).w=true:=by rw [<-hek];exact hw
    rw [hek];unfold gU;rw [qm ⟨hm.2,hw'⟩]
   have h8:cK H8 b sv (c'.set k (gU (c.en k))):=by rw [<-ec];exact h8
   have n78:=f8.next
   simp only [↓qh,xa,reduceIte,reduceEqDiff,wb,qf,lw,h7.ldO hk7,s8];exact ⟨rfl,by rw [f8.ae L2 (by omega) (λ (q:L2=aM sv)=>hLs q)];exact gL,V,λ y hy=>⟨by have:=(hV y hy).1;omega,.inl hy⟩,(fx.mono λ y _ q=>.inr q).trans f8 λ y (q:y=aM sv)=>.inl (.inl (by rw [q];exact hP.vs)),.inl ⟨rfl,hP.vb,hP.vs,_,h8,ht2⟩⟩
  | false =>
   rw [hw] at lw;have ec:c'.set k (gU (c.en k))=c':=by
    have hu:gU (c.en k)=c'.en k:=by
     have hw':(c.en k).w=false:=by rw [<-hek];exact hw
     unfold gU;rw [qd (λ q=>by rw [hw'] at q;exact Bool.noConfusion q.2),hek]
    rw [hu];unfold Ca.set Ca.en;rw [qv hk7];simp
   rw [ec] at ht2;simp only [↓qh,xa,reduceIte,reduceEqDiff,wb,qf,lw];exact ⟨rfl,gL,V,λ y hy=>⟨by have:=(hV y hy).1;omega,.inl hy⟩,fx.mono λ y _ q=>.inr q,.inl ⟨rfl,hP.vb,hP.vs,_,h7,ht2⟩⟩
 ·intro d V Hd hd1 hd2 hgd hfd hVd hP;obtain ⟨c',h1,h2⟩:=hP.ex;have el:(fY c sv).length=(eY c).length:=by unfold fY;rw [zb]
  rw [el] at h2;have e:c' = { c with sl:=c.sl.map gU }:=h2.done λ e h=>by unfold gU;rw [qd λ q=>q.1 h]
  have hdb:d ≠ b:=by omega
  have hds:d ≠ aM sv:=by omega
  have fW:Fr (iC b sv) H Hd:=(lA f1).trans hfd λ y q=>q.elim (λ w=>.inl w) False.elim;simp only [↓qh,xa,reduceIte,reduceEqDiff,w15];refine C3.q (quu (M:=M) h1 (by rw [h2.len];exact hl)) λ _ He ⟨h3,f3⟩=>?_;rw [e,q6h] at h3;have hge:He.get d=some (.deferred (some [])):=by rw [f3.ae d hd2 (λ q=>q.elim hdb hds)];exact hgd
  have fo:Fr (On d) He (He.set d (.deferred none)):=(Fr.refl He).set (W:=On d) (.inl rfl) _;simp only [↓qh,xa,reduceIte,reduceEqDiff,DD];exact ⟨hge,h3.fr fo (λ (q:b=d)=>hdb q.symm) (λ (q:aM sv=d)=>hds q.symm),(nS fW f3).set (.inr (by omega)) _⟩
 ·exact λ e d V Hd _ _ _ _ _ _ h=>h.elim
end
end Go.Am
namespace Go.Am
open Go.Proofs Ca
variable {M:aO} [MK M]
def gZ (s w:Nat):Ca:=⟨s,w,List.replicate (s*w) .zero,0⟩
theorem I5 (s w k:Nat):(gZ s w).en k=.zero:=by
 unfold Ca.en gZ;simp only [HE];split<;>rfl
theorem uz (lines:Int) {s w:Nat} (hs:0<s) (hw:0<w):CI lines (gZ s w) :=
 ⟨za ..,hs,hw,λ i _ h=>by rw [I5] at h;exact absurd rfl h,λ i j _ _ h=>by rw [I5] at h;exact absurd rfl h⟩
theorem q3v (s w:Nat):(gZ s w).plain:=λ i _ h=>by rw [I5] at h;exact absurd rfl h
theorem q41:∀ n:Nat,(List.replicate n En.zero).flatMap aA=dq n (aA .zero)
 | 0=>rfl
 | n+1=>by rw [Ix,jt,q41 n];rfl
def mn (s w:Int):Prop:=1<=s/\s<=8/\1<=w/\w<=4
instance (s w:Int):Decidable (mn s w):=inferInstanceAs (Decidable (_/\_))
def KY (H:AHeap) (s w:Int) (v:AV) (H':AHeap):Prop:=Fr Em H H'/\(¬ mn s w/\v=.tuple [.nilp,.int .i64 2]\/mn s w /\ ∃ b sv,v=.tuple [.ptr b 0,.int .i64 0]/\cK H' b sv (gZ s.toNat w.toNat)/\H.next<=b/\H.next<=aM sv)
theorem q6r {H:AHeap} (s w:Int):jv M DO [.int .i64 s,.int .i64 w] H (KY H s w):=by
 refine vL ?_;obtain ⟨w0,w2,w10⟩:=vF M ⟨none,DO⟩
 by_cases h1:s<1
 ·simp only [↓qh,xa,reduceIte,reduceEqDiff,w0,w2,h1];exact ⟨Fr.refl _,.inl ⟨λ q=>by have:=q.1;omega,rfl⟩⟩
 by_cases h2:8<s
 ·simp only [↓qh,xa,reduceIte,reduceEqDiff,w0,w2,h1,h2];exact ⟨Fr.refl _,.inl ⟨λ q=>by have:=q.2.1;omega,rfl⟩⟩
 by_cases h3:w<1
 ·simp only [↓qh,xa,reduceIte,reduceEqDiff,w0,w2,h1,h2,h3];exact ⟨Fr.refl _,.inl ⟨λ q=>by have:=q.2.2.1;omega,rfl⟩⟩
 by_cases h4:4<w
 ·simp only [↓qh,xa,reduceIte,reduceEqDiff,w0,w2,h1,h2,h3,h4];exact ⟨Fr.refl _,.inl ⟨λ q=>by have:=q.2.2.2;omega,rfl⟩⟩
 obtain ⟨a,rfl⟩:=kj (show 0<=s by omega);obtain ⟨d,rfl⟩:=kj (show 0<=w by omega);have had:a*d<=8*4:=Nat.mul_le_mul (by omega) (by omega);have wm:aZ .i64 ((a:Int)*(d:Int))=((a*d:Nat):Int):=by rw [<-Int.natCast_mul];exact wx (by omega) (by omega)
 have mk:=J4 qt 160 (aA .zero) (a*d) .i64 .i64 (by omega) (by omega);rw [<-q41] at mk;obtain ⟨H1,e1⟩:∃ X,X=H.alloc (OR ((List.replicate (a*d) En.zero).flatMap aA) qt):=⟨_,rfl⟩
 have f1:Fr Em H H1:=by rw [e1];exact (Fr.refl H).alloc _
 have n1:H1.next=H.next+1:=by rw [e1,xn]
 obtain ⟨sv,hsv⟩:∃ sv:AV,sv=.slice H.next 0 (a*d) (a*d):=⟨_,rfl⟩
 have hst:Op.sliceTo (a*d) (a*d) H.next=sv:=by rw [hsv];rfl
 have hsb:aM sv=H.next:=by rw [hsv];rfl
 have bd:Op.build [.int .i64 0,.int .i64 0,.nils,.int .i64 0] [(0,1),(1,1),(2,1)] [.int .i64 (a:Int),.int .i64 (d:Int),sv]=some (.agg (tF (gZ a d) sv)):=by rw [hsv];rfl
 obtain ⟨H2,e2⟩:∃ X,X=H1.alloc (OR (tF (gZ a d) sv) Iu):=⟨_,rfl⟩
 have f2:Fr Em H1 H2:=by rw [e2];exact (Fr.refl H1).alloc _
 have g2:H2.get H1.next=some (OR (tF (gZ a d) sv) Iu):=by rw [e2,qx]
 simp only [↓qh,xa,reduceIte,reduceEqDiff,w0,w2,h1,h2,h3,h4,w10,wm,eZ,mk,hst,<-e1,bd,xw,<-e2];refine ⟨f1.trans f2 λ _ q=>q.elim,.inr ⟨⟨by omega,by omega,by omega,by omega⟩,_,sv,rfl,⟨g2,by rw [e2,xn];omega,⟨H.next,?_,?_,?_⟩,by omega,by show a<=8;omega,by show d<=4;omega,⟨Int.le_refl _,by show (0:Int)<=1000000;decide⟩⟩,by omega,by omega⟩⟩
 ·show sv=.slice H.next 0 (List.replicate (a*d) En.zero).length (List.replicate (a*d) En.zero).length
  rw [za];exact hsv
 ·rw [e2,xn];omega
 ·rw [f2.ae _ (by omega) id,e1,qx];rfl
end Go.Am
