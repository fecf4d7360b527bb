/- NmK7: NhF NhG NhH. -/
import Derived.Test.YtiibohocdbaekaaAmMNmK6
set_option linter.unusedVariables false
set_option linter.unusedSimpArgs false
set_option linter.unusedSectionVars false
set_option maxRecDepth 100000
open Nat (reduceEqDiff)
namespace Go.Am
open Go.Proofs Ca
variable {M:aL} [MK M]
theorem JZ (p:Nat->Bool) (k:Nat):(List.range (k+1)).filter p=(List.range k).filter p++(if p k then [k] else []):=by
 rw [List.range_succ,List.filter_append];congr 1;cases h:p k<;>simp [h]
theorem q4y (p:Nat->Bool) {k:Nat}:∀ m:Nat,∃ X,(List.range (k+m)).filter p=(List.range k).filter p++X
 | 0=>⟨[],by simp⟩
 | m+1=>by
  obtain ⟨X,hX⟩:=q4y p m;rw [<-vh,JZ,hX];exact ⟨X++(if p (k+m) then [k+m] else []),by rw [zi]⟩
theorem q4x (p:Nat->Bool) {n k:Nat} (hk:k<n) (hp:p k=true):((List.range n).filter p)[((List.range k).filter p).length]? = some k:=by
 obtain ⟨m,rfl⟩:∃ m,n=k+1+m:=⟨n-(k+1),by omega⟩
 obtain ⟨X,hX⟩:=q4y p (k:=k+1) m;rw [hX,JZ,hp];simp
def eR (c:Ca):List Nat:=(List.range c.sl.length).filter λ k=>(c.en k).st != 0
def fV (c:Ca) (sv:AV):List (List AV):=(eR c).map λ k=>[eA sv k]
def HeI (b:Nat) (sv:AV) (c:Ca) (Hx:AHeap):Prop:=∃ c',cG Hx b sv c'/\c'.sl.length=c.sl.length /\ ∀ k,(c'.en k).st=(c.en k).st
theorem qyn {H0:AHeap} {p b:Nat} {sv:AV} {c:Ca} (hp:H0.get p=some (OR [.ptr b 0] vy)) (hpl:p<H0.next) (hl:c.sl.length<=40) :
 rT M yk [] [.ptr p 0] (λ x=>x=p) (λ _=>False) (HeI b sv c) H0 (fV c sv):=by
 intro Y R S W0 H1 hnx hN hR0 hW0 loc locS hI step;obtain ⟨p1,p2,p3⟩:=hN p (.inl rfl)
 suffices h:jx M yk [.fn (.yield Y) [] [],.ptr p 0] H1 (JQ R S W0 (λ _=>False) H1 (fV c sv).length) by
  obtain ⟨v,H',hc,W',q1,q2,q3⟩:=h.elim;exact ⟨v,H',W',hc,q1,q2,q3⟩
 refine qru ?_;obtain ⟨w0,w1,w7,w9,w13,w19,w34,w23,w29⟩:=qrv M ⟨none,yk⟩;have lp:∀ {Hx:AHeap},Fr W0 H1 Hx->Op.aa [.ptr p 0] Hx=some (.ptr b 0):=λ f=>by rw [ze (xb (by rw [f.ae _ (by omega) p3,p2];exact hp))];rfl
 have r0:=Fr.refl (W:=W0) H1;obtain ⟨c1,h1,h1l,h1s⟩:=hI 0 W0 H1 hR0;have l2:Op.aa [.ptr b 2] H1=some sv:=h1.Jw 2;have ln:Op.bJ [sv]=some (.int .i64 ((c.sl.length:Nat):Int)):=by rw [<-h1l];exact (h1.sl.sl zt).len
 simp only [↓qi,xd,reduceIte,reduceEqDiff,w0,w1,lp r0,yh,w7,w9,qg,l2,ln];refine bu.intro (λ n E Hx=>∃ (i:Nat) (V:Nat->Prop),E=[(11,.int .i64 (i:Int)),(10,.int .i64 ((c.sl.length:Nat):Int)),(0,.fn (.yield Y) [] []),(1,.ptr p 0)]/\n=c.sl.length-i/\i<=c.sl.length/\JR R W0 H1 Hx ((List.range i).filter λ k=>(c.en k).st != 0).length V) ?_ ?_
 ·exact ⟨_,_,⟨0,W0,rfl,rfl,zq _,⟨hR0,λ b hb=>⟨hW0 b hb,.inl hb⟩,Fr.refl _⟩⟩,by simp only [↓qi,xd,reduceIte,reduceEqDiff]⟩
 rintro n E Hx ⟨i,V,rfl,rfl,hi,hx⟩;rcases jr i c.sl.length with hlt|hge
 ·have q1:(i:Int)<((c.sl.length:Nat):Int):=by omega
  obtain ⟨c',h',hl',hs'⟩:=hI _ V Hx hx.hR;have l2':Op.aa [.ptr b 2] Hx=some sv:=h'.Jw 2;have hi':i<c'.sl.length:=by omega
  have ix:=h'.ix hi';have ls:Op.aa [.ptr (aN sv) (cr 21 sv i+1)] Hx=some (.int .i64 (c.en i).st):=by rw [<-hs' i];exact h'.ld hi' (k:=1) (by decide)
  have wj:aW .i64 ((i:Int)+1)=((i+1:Nat):Int):=by rw [vl (by omega) (by omega)];omega
  have hf:=JZ (λ k=>(c.en k).st != 0) i
  by_cases h0:(c.en i).st=0
  ·have hf':((List.range (i+1)).filter λ k=>(c.en k).st != 0).length=((List.range i).filter λ k=>(c.en k).st != 0).length:=by rw [hf];simp [h0]
   simp only [↓qi,xd,reduceIte,reduceEqDiff,w13,q1,w19,w23,lp hx.fr,qg,l2',ix,ls,xf h0,w34,wj];exact ⟨_,_,⟨i+1,V,rfl,rfl,by omega,by rw [hf'];exact hx⟩,by simp only [↓qi,xd,reduceIte,reduceEqDiff],by omega⟩
  ·have hf':((List.range (i+1)).filter λ k=>(c.en k).st != 0).length=((List.range i).filter λ k=>(c.en k).st != 0).length+1:=by rw [hf];simp [h0]
   have hg:(fV c sv)[((List.range i).filter λ k=>(c.en k).st != 0).length]? = some [eA sv i]:=by
    unfold fV eR;rw [xj,q4x _ hlt (by simp [h0])];rfl
   obtain ⟨bb,H2,W2,hr,hf2,hW2,ht,hs⟩:=step _ _ hg V Hx hx.hR hx.hV (hx.fr.mono λ _ _ q=>.inl q);have fr2:Fr W0 H1 H2:=hx.fr.trans hf2 λ b q=>(hx.hV b q).2;have hV2:∀ b,W2 b->b<H2.next/\(W0 b\/H1.next<=b):=λ b q=>⟨(hW2 b q).1,(hW2 b q).2.elim (λ w=>(hx.hV b w).2) λ w=>.inr (xu hx.fr.next w)⟩
   simp only [↓qi,xd,reduceIte,reduceEqDiff,w13,q1,w19,w23,lp hx.fr,qg,l2',ix,ls,h0,w29];refine C3.Aa hr ?_;cases bb with
   | true =>
    simp only [↓qi,xd,reduceIte,reduceEqDiff,w34,wj];exact ⟨_,_,⟨i+1,W2,rfl,rfl,by omega,⟨by rw [hf'];exact ht rfl,hV2,fr2⟩⟩,by simp only [↓qi,xd,reduceIte,reduceEqDiff],by omega⟩
   | false =>
    simp only [↓qi,xd,reduceIte,reduceEqDiff,pW];exact ⟨W2,fr2.mono λ _ _ q=>.inl q,hV2,.inr (hs rfl)⟩
 ·have q1:¬ (i:Int)<((c.sl.length:Nat):Int):=by omega
  have hiw:i=c.sl.length:=by omega
  simp only [↓qi,xd,reduceIte,reduceEqDiff,w13,q1,BM];refine ⟨V,hx.fr.mono λ _ _ q=>.inl q,hx.hV,.inl ?_⟩;have e:(fV c sv).length=((List.range i).filter λ k=>(c.en k).st != 0).length:=by unfold fV eR;rw [zg,hiw]
  rw [e];exact hx.hR
theorem q1y {H:AHeap} (b:Nat):jx M Di [.ptr b 0] H λ v H'=>v=.fn (.func yk) [] [.ptr H.next 0]/\H'=H.alloc (OR [.ptr b 0] vy):=by
 refine qv9 ?_;have ca:AV.cells (.ptr b 0)=[.ptr b 0]:=rfl;have mk:Op.bZ yk 0 [.ptr H.next 0]=some (.fn (.func yk) [] [.ptr H.next 0]):=rfl;simp only [↓qi,xd,reduceIte,reduceEqDiff,qwa,ca,mk];rfl
structure wQ (c:Ca) (g:En->En) (i:Nat) (c':Ca):Prop where
 dy:c'.dy=c.dy
 ways:c'.ways=c.ways
 us:c'.us=c.us
 len:c'.sl.length=c.sl.length
 en:∀ k,k<c.sl.length->c'.en k=if k ∈ (eR c).take i then g (c.en k) else c.en k
theorem wQ.zero (c:Ca) (g:En->En):wQ c g 0 c:=⟨rfl,rfl,rfl,rfl,λ k hk=>by simp⟩
theorem q3s (c:Ca):(eR c).Nodup:=List.Nodup.sublist (List.filter_sublist) List.nodup_range
theorem IL {c:Ca} {k:Nat}:k ∈ eR c ↔ k<c.sl.length/\(c.en k).st ≠ 0:=by
 unfold eR;rw [Fj,List.mem_range];simp
theorem q64 {l:List Nat} (h:l.Nodup) {i k:Nat} (hk:l[i]? = some k):k ∉ l.take i:=by
 intro hm;obtain ⟨j,hj⟩:=DM hm;rw [kr] at hj;split at hj
 ·rename_i hji;have h1:=qj.1 hj;have h2:=qj.1 hk;exact List.pairwise_iff_getElem.1 h j i h1.1 h2.1 hji (by rw [h1.2,h2.2])
 ·cases hj
theorem wQ.step {c c':Ca} {g:En->En} {i k:Nat} (h:wQ c g i c') (hk:(eR c)[i]? = some k):c'.en k=c.en k/\wQ c g (i+1) (c'.set k (g (c.en k))):=by
 have hm:=IL.1 (ja hk);have hn:=q64 (q3s c) hk;have he:c'.en k=c.en k:=by rw [h.en k hm.1,qe hn]
 refine ⟨he,h.dy,h.ways,h.us,by show (c'.sl.set k _).length=_;rw [xc];exact h.len,λ j hj=>?_⟩;rw [o9 (by rw [h.len];exact hm.1),yT,hk]
 by_cases q:k=j
 ·subst q;rw [qm rfl,qm (by simp)]
 ·rw [qe q,h.en j hj];have:(j ∈ (eR c).take i++(some k).toList) ↔ j ∈ (eR c).take i:=by simp [ve q]
  by_cases w:j ∈ (eR c).take i
  ·rw [qm w,qm (this.2 w)]
  ·rw [qe w,qe λ z=>w (this.1 z)]
theorem wQ.done {c c':Ca} {g:En->En} (h:wQ c g (eR c).length c') (hg:∀ e:En,e.st=0->g e=e):c' = { c with sl:=c.sl.map g }:=by
 have hsl:c'.sl=c.sl.map g:=by
  refine ky λ k=>?_;rcases jr k c.sl.length with q|q
  ·rw [wI (by rw [h.len];exact q),xj,wI q,h.en k q,zh (qh _)]
   by_cases w:(c.en k).st=0
   ·rw [qe (λ z=>(IL.1 z).2 w)];show some (c.en k)=some (g (c.en k));rw [hg _ w]
   ·rw [qm (IL.2 ⟨q,w⟩)];rfl
  ·rw [zr (by rw [h.len];exact q),zr (by rw [zg];exact q)]
 obtain ⟨s,w,l,u⟩:=c';have h1:=h.dy;have h2:=h.ways;have h3:=h.us;simp only at h1 h2 h3 hsl;subst h1;subst h2;subst h3;subst hsl;rfl
structure D9 (c:Ca) (g:En->En) (b:Nat) (sv:AV) (i:Nat) (V:Nat->Prop) (Hx:AHeap):Prop where
 vb:V b
 vs:V (aN sv)
 ex:∃ c',cG Hx b sv c'/\wQ c g i c'
theorem cG.loc {Ha Hb:AHeap} {b:Nat} {sv:AV} {c:Ca} (h:cG Ha b sv c) (h1:Hb.get b=Ha.get b) (h2:Hb.get (aN sv)=Ha.get (aN sv)) (hn:Ha.next<=Hb.next):cG Hb b sv c :=
 ⟨by rw [h1];exact h.row,qp h.lt hn,by
  obtain ⟨sb,e1,e2,e3⟩:=h.sl;have e4:aN sv=sb:=by rw [e1];rfl
  rw [e4] at h2;exact ⟨sb,e1,qp e2 hn,by rw [h2];exact e3⟩,h.ne,h.s8,h.w4,h.us⟩
theorem D9.loc {c:Ca} {g:En->En} {b:Nat} {sv:AV} {i:Nat} {V:Nat->Prop} {Ha Hb:AHeap} (h:D9 c g b sv i V Ha) (hs:∀ x,V x->Hb.get x=Ha.get x) (hn:Ha.next<=Hb.next):D9 c g b sv i V Hb:=by
 obtain ⟨c',h1,h2⟩:=h.ex;exact ⟨h.vb,h.vs,c',h1.loc (hs _ h.vb) (hs _ h.vs) hn,h2⟩
theorem D9.hI {c:Ca} {g:En->En} (hg:∀ e:En,(g e).st=e.st) {b:Nat} {sv:AV} {i:Nat} {V:Nat->Prop} {Hx:AHeap} (h:D9 c g b sv i V Hx):HeI b sv c Hx:=by
 obtain ⟨c',h1,h2⟩:=h.ex;refine ⟨c',h1,h2.len,λ k=>?_⟩;rcases jr k c.sl.length with q|q
 ·rw [h2.en k q];split
  ·exact hg _
  ·rfl
 ·rw [MF q,MF (by rw [h2.len];exact q)]
section
variable {H:AHeap} {b:Nat} {sv:AV} {c:Ca} {lines line:Int}
theorem qu4 (hc:cG H b sv c) (hl:c.sl.length<=40):jx M va [.ptr b 0] H λ _ H'=>cG H' b sv c.bl/\Fr (iy b sv) H H':=by
 refine qrp ?_;obtain ⟨w0,wa,wb,w2,w10,w15⟩:=qkp M ⟨none,va⟩;simp only [↓qi,xd,reduceIte,reduceEqDiff,w0,w2,yh,w10];refine C3.q (q1y (M:=M) b) λ v H5 ⟨hv,hh⟩=>?_;obtain ⟨H1,e1⟩:∃ X,X=H.alloc (OR [.ptr b 0] vy):=⟨_,rfl⟩
 rw [<-e1] at hh;rw [hv,hh];have f1:Fr Em H H1:=by rw [e1];exact (Fr.refl H).alloc _
 have n1:H1.next=H.next+1:=by rw [e1,xp]
 have g1:H1.get H.next=some (OR [.ptr b 0] vy):=by rw [e1,qy]
 have hc1:=hc.em f1;have hlt:=hc.lt;have hsb:aN sv<H.next:=hc.sl.lt
 refine eK.Ba (fn:=Co) (lp:=CO) (pa:=qjd 0) (pb:=qje 0) qqa qim.1 qim.2 (by decide) ⟨rfl,p7 CO.assign⟩ ⟨rfl,p7 CO.body⟩
  (qyn (M:=M) (b:=b) (sv:=sv) (c:=c) g1 (by omega) hl) (λ i V Hx=>D9 c iP b sv i V Hx) (λ _ _ _=>False) (iy b sv) (qh _) ?_ ?_ ?_ ?_ ?_ ?_ ?_ ?_ ?_
 ·rintro x (q|q)
  ·exact ⟨by omega,rfl,λ w=>w.elim (λ w=>by omega) λ w=>by omega⟩
  ·exact q.elim
 ·exact λ x hx=>hx.elim (λ q=>by omega) λ q=>by omega
 ·exact ⟨.inl rfl,.inr rfl,c,hc1,wQ.zero c iP⟩
 ·exact λ i V Ha Hb h hs hn=>h.loc hs hn
 ·exact λ e V Ha Hb h _ _=>h
 ·exact λ i V Hx h=>h.hI I7
 ·intro L2 i lr lb x hx hL2 V H6 hP hV hf6 hnL hL6 hgL;unfold fV at hx;rw [xj,xh] at hx;obtain ⟨k,hk,rfl⟩:=hx;refine ⟨_,rfl,?_⟩;obtain ⟨-,wa,wb,-⟩:=qkp M ⟨some L2,va⟩;simp only [↓qi,xd,reduceIte,reduceEqDiff,wa,Fu];refine ⟨hgL,?_⟩;have fx:Fr (On L2) H6 (H6.set L2 lb):=(Fr.refl H6).set (W:=On L2) (.inl rfl) _;have gL:(H6.set L2 lb).get L2=some lb:=xe ..;have nL:(H6.set L2 lb).next=H6.next:=rfl
  have hP7:=hP.loc (Hb:=H6.set L2 lb) (λ y hy=>by rw [vk (λ q:L2=y=>hnL (by rw [q];exact hy))]) (qh _);generalize H6.set L2 lb=H7 at *;obtain ⟨c',h7,ht⟩:=hP7.ex;obtain ⟨hek,ht2⟩:=ht.step hk;have hm:=IL.1 (ja hk);have hk7:k<c'.sl.length:=by rw [ht.len];exact hm.1
  obtain ⟨H8,s8,h8,f8⟩:=h7.bV hk7 (j:=2) (by decide) (u:=.bool false) rfl (e:={ c'.en k with r:=false }) rfl;have hk8:k<(c'.set k { c'.en k with r:=false }).sl.length:=by show k<(c'.sl.set k _).length;rw [xc];exact hk7
  obtain ⟨H9,s9,h9,f9⟩:=h8.bV hk8 (j:=3) (by decide) (u:=.bool false) rfl (e:={ (c'.set k { c'.en k with r:=false }).en k with w:=false }) rfl;rw [Ew hk7,Jk] at h9;have hk9:k<(c'.set k { c'.en k with r:=false,w:=false }).sl.length:=by show k<(c'.sl.set k _).length;rw [xc];exact hk7
  obtain ⟨H10,s10,h10,f10⟩:=h9.Ka hk9 (j:=12) (n:=8) (u:=.agg (bS .zero)) (by rw [x9];exact ku _) (by rw [x9];exact nN _) (by decide) (e:={ (c'.set k { c'.en k with r:=false,w:=false }).en k with o:=.zero }) (AK _ _);rw [Ew hk7,Jk] at h10;have ec:({ c'.en k with r:=false,w:=false,o:=.zero }:En)=iP (c.en k):=by rw [hek];unfold iP;rw [qe hm.2]
  have h10:cG H10 b sv (c'.set k (iP (c.en k))):=by rw [<-ec];exact h10
  have f710:Fr (On (aN sv)) H7 H10:=(f8.trans f9 λ _ q=>.inl q).trans f10 λ _ q=>.inl q;have hLs:L2 ≠ aN sv:=λ q=>hnL (by rw [q];exact hP.vs);have n710:=f710.next
  simp only [↓qi,xd,reduceIte,reduceEqDiff,wb,lZ,zB,qg,s8,s9,s10];refine ⟨rfl,by rw [f710.ae L2 (by omega) (λ (q:L2=aN sv)=>hLs q)];exact gL,V,λ y hy=>⟨by have:=(hV y hy).1;omega,.inl hy⟩,(fx.mono λ y _ q=>.inr q).trans f710 λ y (q:y=aN sv)=>.inl (.inl (by rw [q];exact hP.vs)),.inl ⟨rfl,hP.vb,hP.vs,_,h10,ht2⟩⟩
 ·intro d V Hd hd1 hd2 hgd hfd hVd hP;obtain ⟨c',h1,h2⟩:=hP.ex;have el:(fV c sv).length=(eR c).length:=by unfold fV;rw [zg]
  rw [el] at h2;have e:c'=c.bl:=h2.done λ e h=>by unfold iP;rw [qm h]
  rw [e] at h1;have hdb:d ≠ b:=by omega
  have hds:d ≠ aN sv:=by omega
  have fo:Fr (On d) Hd (Hd.set d (.deferred none)):=(Fr.refl Hd).set (W:=On d) (.inl rfl) _;have fW:Fr (iy b sv) H Hd:=(lP f1).trans hfd λ y q=>q.elim (λ w=>.inl w) False.elim;simp only [↓qi,xd,reduceIte,reduceEqDiff,w15,AZ];exact ⟨hgd,h1.fr fo (λ (q:b=d)=>hdb q.symm) (λ (q:aN sv=d)=>hds q.symm),fW.set (.inr (by omega)) _⟩
 ·exact λ e d V Hd _ _ _ _ _ _ h=>h.elim
end
end Go.Am
namespace Go.Am
open Go.Proofs Ca
variable {M:aL} [MK M]
def gT (e:En):En:=if e.st ≠ 0/\e.w=true then { e with d:=e.o } else e
theorem xac (e:En):(gT e).st=e.st:=by unfold gT;split<;>rfl
theorem uH (e:En):iP (gT e)=back e:=by
 unfold iP back;rw [xac]
 by_cases h:e.st=0
 ·rw [qm h,qm h];unfold gT;rw [qe λ q=>q.1 h]
 ·rw [qe h,qe h];unfold gT
  by_cases hw:e.w=true
  ·rw [qm ⟨h,hw⟩,qm hw]
  ·rw [qe (λ q=>hw q.2),qe hw]
theorem q6j (c:Ca):Ca.bl { c with sl:=c.sl.map gT } = c.discard:=by
 unfold Ca.bl Ca.discard;simp only [rj];congr 1;exact List.map_congr_left λ e _=>uH e
section
variable {H:AHeap} {b:Nat} {sv:AV} {c:Ca} {lines line:Int}
theorem q1m (hc:cG H b sv c) (hl:c.sl.length<=40):jx M vi [.ptr b 0] H λ _ H'=>cG H' b sv c.discard/\Fr (iy b sv) H H':=by
 refine qqb ?_;obtain ⟨w0,wa,wb,w2,w10,w15⟩:=qjg M ⟨none,vi⟩;simp only [↓qi,xd,reduceIte,reduceEqDiff,w0,w2,yh,w10];refine C3.q (q1y (M:=M) b) λ v H5 ⟨hv,hh⟩=>?_;obtain ⟨H1,e1⟩:∃ X,X=H.alloc (OR [.ptr b 0] vy):=⟨_,rfl⟩
 rw [<-e1] at hh;rw [hv,hh];have f1:Fr Em H H1:=by rw [e1];exact (Fr.refl H).alloc _
 have n1:H1.next=H.next+1:=by rw [e1,xp]
 have g1:H1.get H.next=some (OR [.ptr b 0] vy):=by rw [e1,qy]
 have hc1:=hc.em f1;have hlt:=hc.lt;have hsb:aN sv<H.next:=hc.sl.lt
 refine eK.Ba (fn:=CB) (lp:=C5) (pa:=qin 0) (pb:=qio 0) qpf qht.1 qht.2 (by decide) ⟨rfl,p7 C5.assign⟩ ⟨rfl,p7 C5.body⟩
  (qyn (M:=M) (b:=b) (sv:=sv) (c:=c) g1 (by omega) hl) (λ i V Hx=>D9 c gT b sv i V Hx) (λ _ _ _=>False) (iy b sv) (qh _) ?_ ?_ ?_ ?_ ?_ ?_ ?_ ?_ ?_
 ·rintro x (q|q)
  ·exact ⟨by omega,rfl,λ w=>w.elim (λ w=>by omega) λ w=>by omega⟩
  ·exact q.elim
 ·exact λ x hx=>hx.elim (λ q=>by omega) λ q=>by omega
 ·exact ⟨.inl rfl,.inr rfl,c,hc1,wQ.zero c gT⟩
 ·exact λ i V Ha Hb h hs hn=>h.loc hs hn
 ·exact λ e V Ha Hb h _ _=>h
 ·exact λ i V Hx h=>h.hI xac
 ·intro L2 i lr lb x hx hL2 V H6 hP hV hf6 hnL hL6 hgL;unfold fV at hx;rw [xj,xh] at hx;obtain ⟨k,hk,rfl⟩:=hx;refine ⟨_,rfl,?_⟩;obtain ⟨-,wa,wb,-⟩:=qjg M ⟨some L2,vi⟩;simp only [↓qi,xd,reduceIte,reduceEqDiff,wa,Fu];refine ⟨hgL,?_⟩;have fx:Fr (On L2) H6 (H6.set L2 lb):=(Fr.refl H6).set (W:=On L2) (.inl rfl) _;have gL:(H6.set L2 lb).get L2=some lb:=xe ..;have nL:(H6.set L2 lb).next=H6.next:=rfl
  have hP7:=hP.loc (Hb:=H6.set L2 lb) (λ y hy=>by rw [vk (λ q:L2=y=>hnL (by rw [q];exact hy))]) (qh _);generalize H6.set L2 lb=H7 at *;obtain ⟨c',h7,ht⟩:=hP7.ex;obtain ⟨hek,ht2⟩:=ht.step hk;have hm:=IL.1 (ja hk);have hk7:k<c'.sl.length:=by rw [ht.len];exact hm.1
  have hLs:L2 ≠ aN sv:=λ q=>hnL (by rw [q];exact hP.vs);have lw:Op.aa [.ptr (aN sv) (cr 21 sv k+3)] H7=some (.bool (c'.en k).w):=h7.ld hk7 (k:=3) (by decide);cases hw:(c'.en k).w with
  | true =>
   rw [hw] at lw;obtain ⟨H8,s8,h8,f8⟩:=h7.Ka hk7 (j:=4) (n:=8) (u:=.agg (bS (c'.en k).o)) (by rw [x9];exact ku _) (by rw [x9];exact nN _) (by decide) (e:={ c'.en k with d:=(c'.en k).o }) (A1 _ _);have ec:({ c'.en k with d:=(c'.en k).o }:En)=gT (c.en k):=by
    have hw':(c.en k).w=true:=by rw [<-hek];exact hw
    rw [hek];unfold gT;rw [qm ⟨hm.2,hw'⟩]
   have h8:cG H8 b sv (c'.set k (gT (c.en k))):=by rw [<-ec];exact h8
   have n78:=f8.next
   simp only [↓qi,xd,reduceIte,reduceEqDiff,wb,qg,lw,h7.ldO hk7,s8];exact ⟨rfl,by rw [f8.ae L2 (by omega) (λ (q:L2=aN sv)=>hLs q)];exact gL,V,λ y hy=>⟨by have:=(hV y hy).1;omega,.inl hy⟩,(fx.mono λ y _ q=>.inr q).trans f8 λ y (q:y=aN sv)=>.inl (.inl (by rw [q];exact hP.vs)),.inl ⟨rfl,hP.vb,hP.vs,_,h8,ht2⟩⟩
  | false =>
   rw [hw] at lw;have ec:c'.set k (gT (c.en k))=c':=by
    have hu:gT (c.en k)=c'.en k:=by
     have hw':(c.en k).w=false:=by rw [<-hek];exact hw
     unfold gT;rw [qe (λ q=>by rw [hw'] at q;exact Bool.noConfusion q.2),hek]
    rw [hu];unfold Ca.set Ca.en;rw [qz hk7];simp
   rw [ec] at ht2;simp only [↓qi,xd,reduceIte,reduceEqDiff,wb,qg,lw];exact ⟨rfl,gL,V,λ y hy=>⟨by have:=(hV y hy).1;omega,.inl hy⟩,fx.mono λ y _ q=>.inr q,.inl ⟨rfl,hP.vb,hP.vs,_,h7,ht2⟩⟩
 ·intro d V Hd hd1 hd2 hgd hfd hVd hP;obtain ⟨c',h1,h2⟩:=hP.ex;have el:(fV c sv).length=(eR c).length:=by unfold fV;rw [zg]
  rw [el] at h2;have e:c' = { c with sl:=c.sl.map gT }:=h2.done λ e h=>by unfold gT;rw [qe λ q=>q.1 h]
  have hdb:d ≠ b:=by omega
  have hds:d ≠ aN sv:=by omega
  have fW:Fr (iy b sv) H Hd:=(lP f1).trans hfd λ y q=>q.elim (λ w=>.inl w) False.elim;simp only [↓qi,xd,reduceIte,reduceEqDiff,w15];refine C3.q (qu4 (M:=M) h1 (by rw [h2.len];exact hl)) λ _ He ⟨h3,f3⟩=>?_;rw [e,q6j] at h3;have hge:He.get d=some (.deferred (some [])):=by rw [f3.ae d hd2 (λ q=>q.elim hdb hds)];exact hgd
  have fo:Fr (On d) He (He.set d (.deferred none)):=(Fr.refl He).set (W:=On d) (.inl rfl) _;simp only [↓qi,xd,reduceIte,reduceEqDiff,AZ];exact ⟨hge,h3.fr fo (λ (q:b=d)=>hdb q.symm) (λ (q:aN sv=d)=>hds q.symm),(nY fW f3).set (.inr (by omega)) _⟩
 ·exact λ e d V Hd _ _ _ _ _ _ h=>h.elim
end
end Go.Am
namespace Go.Am
open Go.Proofs Ca
variable {M:aL} [MK M]
def ic (s w:Nat):Ca:=⟨s,w,List.replicate (s*w) .zero,0⟩
theorem JW (s w k:Nat):(ic s w).en k=.zero:=by
 unfold Ca.en ic;simp only [Gg];split<;>rfl
theorem vJ (lines:Int) {s w:Nat} (hs:0<s) (hw:0<w):CI lines (ic s w) :=
 ⟨zj ..,hs,hw,λ i _ h=>by rw [JW] at h;exact absurd rfl h,λ i j _ _ h=>by rw [JW] at h;exact absurd rfl h⟩
theorem q31 (s w:Nat):(ic s w).plain:=λ i _ h=>by rw [JW] at h;exact absurd rfl h
theorem q40:∀ n:Nat,(List.replicate n En.zero).flatMap aq=dh n (aq .zero)
 | 0=>rfl
 | n+1=>by rw [HI,ju,q40 n];rfl
def lV (s w:Int):Prop:=1<=s/\s<=8/\1<=w/\w<=4
instance (s w:Int):Decidable (lV s w):=inferInstanceAs (Decidable (_/\_))
def LL (H:AHeap) (s w:Int) (v:AV) (H':AHeap):Prop:=Fr Em H H'/\(¬ lV s w/\v=.tuple [.nilp,.int .i64 2]\/lV s w /\ ∃ b sv,v=.tuple [.ptr b 0,.int .i64 0]/\cG H' b sv (ic s.toNat w.toNat)/\H.next<=b/\H.next<=aN sv)
theorem q6t {H:AHeap} (s w:Int):jx M El [.int .i64 s,.int .i64 w] H (LL H s w):=by
 refine sO ?_;obtain ⟨w0,w2,w10⟩:=uF M ⟨none,El⟩
 by_cases h1:s<1
 ·simp only [↓qi,xd,reduceIte,reduceEqDiff,w0,w2,h1];exact ⟨Fr.refl _,.inl ⟨λ q=>by have:=q.1;omega,rfl⟩⟩
 by_cases h2:8<s
 ·simp only [↓qi,xd,reduceIte,reduceEqDiff,w0,w2,h1,h2];exact ⟨Fr.refl _,.inl ⟨λ q=>by have:=q.2.1;omega,rfl⟩⟩
 by_cases h3:w<1
 ·simp only [↓qi,xd,reduceIte,reduceEqDiff,w0,w2,h1,h2,h3];exact ⟨Fr.refl _,.inl ⟨λ q=>by have:=q.2.2.1;omega,rfl⟩⟩
 by_cases h4:4<w
 ·simp only [↓qi,xd,reduceIte,reduceEqDiff,w0,w2,h1,h2,h3,h4];exact ⟨Fr.refl _,.inl ⟨λ q=>by have:=q.2.2.2;omega,rfl⟩⟩
 obtain ⟨a,rfl⟩:=ke (show 0<=s by omega);obtain ⟨d,rfl⟩:=ke (show 0<=w by omega);have had:a*d<=8*4:=Nat.mul_le_mul (by omega) (by omega);have wm:aW .i64 ((a:Int)*(d:Int))=((a*d:Nat):Int):=by rw [<-Int.natCast_mul];exact vl (by omega) (by omega)
 have mk:=JS qt 160 (aq .zero) (a*d) .i64 .i64 (by omega) (by omega);rw [<-q40] at mk;obtain ⟨H1,e1⟩:∃ X,X=H.alloc (OR ((List.replicate (a*d) En.zero).flatMap aq) qt):=⟨_,rfl⟩
 have f1:Fr Em H H1:=by rw [e1];exact (Fr.refl H).alloc _
 have n1:H1.next=H.next+1:=by rw [e1,xp]
 obtain ⟨sv,hsv⟩:∃ sv:AV,sv=.slice H.next 0 (a*d) (a*d):=⟨_,rfl⟩
 have hst:Op.sliceTo (a*d) (a*d) H.next=sv:=by rw [hsv];rfl
 have hsb:aN sv=H.next:=by rw [hsv];rfl
 have bd:Op.build [.int .i64 0,.int .i64 0,.nils,.int .i64 0] [(0,1),(1,1),(2,1)] [.int .i64 (a:Int),.int .i64 (d:Int),sv]=some (.agg (tv (ic a d) sv)):=by rw [hsv];rfl
 obtain ⟨H2,e2⟩:∃ X,X=H1.alloc (OR (tv (ic a d) sv) GS):=⟨_,rfl⟩
 have f2:Fr Em H1 H2:=by rw [e2];exact (Fr.refl H1).alloc _
 have g2:H2.get H1.next=some (OR (tv (ic a d) sv) GS):=by rw [e2,qy]
 simp only [↓qi,xd,reduceIte,reduceEqDiff,w0,w2,h1,h2,h3,h4,w10,wm,eZ,mk,hst,<-e1,bd,x9,<-e2];refine ⟨f1.trans f2 λ _ q=>q.elim,.inr ⟨⟨by omega,by omega,by omega,by omega⟩,_,sv,rfl,⟨g2,by rw [e2,xp];omega,⟨H.next,?_,?_,?_⟩,by omega,by show a<=8;omega,by show d<=4;omega,⟨Int.le_refl _,by show (0:Int)<=1000000;decide⟩⟩,by omega,by omega⟩⟩
 ·show sv=.slice H.next 0 (List.replicate (a*d) En.zero).length (List.replicate (a*d) En.zero).length
  rw [zj];exact hsv
 ·rw [e2,xp];omega
 ·rw [f2.ae _ (by omega) id,e1,qy];rfl
end Go.Am
