/- NmQ7: NhF NhG NhH. -/
import Derived.Test.YtiibohocdbaekaaAmQNmQ6
set_option linter.unusedVariables false
set_option linter.unusedSimpArgs false
set_option linter.unusedSectionVars false
set_option maxRecDepth 100000
namespace Go.Am
open Go.Proofs Ca
variable {M:Mac} [MK M]
theorem qth (p:Nat->Bool) (k:Nat):(List.range (k+1)).filter p=(List.range k).filter p++(if p k then [k] else []):=by
 rw [List.range_succ,List.filter_append]
 congr 1
 cases h:p k<;>simp [h]
theorem q2m (p:Nat->Bool) {k:Nat}:∀ m:Nat,∃ X,(List.range (k+m)).filter p=(List.range k).filter p++X
 | 0=>⟨[],by simp⟩
 | m+1=>by
  obtain ⟨X,hX⟩:=q2m p m
  rw [<-yj,qth,hX]
  exact ⟨X++(if p (k+m) then [k+m] else []),by rw [zj]⟩
theorem filt_get (p:Nat->Bool) {n k:Nat} (hk:k<n) (hp:p k=true):((List.range n).filter p)[((List.range k).filter p).length]? = some k:=by
 obtain ⟨m,rfl⟩:∃ m,n=k+1+m:=⟨n-(k+1),by omega⟩
 obtain ⟨X,hX⟩:=q2m p (k:=k+1) m
 rw [hX,qth,hp]
 simp
def heldN (c:Ca):List Nat:=(List.range c.sl.length).filter fun k=>(c.en k).st != 0
def heldL (c:Ca) (sv:AV):List (List AV):=(heldN c).map fun k=>[eA sv k]
def HeI (b:Nat) (sv:AV) (c:Ca) (Hx:AHeap):Prop:=∃ c',CaR Hx b sv c'/\c'.sl.length=c.sl.length /\ ∀ k,(c'.en k).st=(c.en k).st
theorem qp6 {H0:AHeap} {p b:Nat} {sv:AV} {c:Ca} (hp:H0.get p=some (OR [.ptr b 0] yi)) (hpl:p<H0.next) (hl:c.sl.length<=40) :
 ITERI M yb [] [.ptr p 0] (fun x=>x=p) (fun _=>False) (HeI b sv c) H0 (heldL c sv):=by
 intro Y R S W0 H1 hnx hN hR0 hW0 loc locS hI step
 obtain ⟨p1,p2,p3⟩:=hN p (.inl rfl)
 suffices h:yf M yb [.fn (.yield Y) [] [],.ptr p 0] H1 (ItQ R S W0 (fun _=>False) H1 (heldL c sv).length) by
  obtain ⟨v,H',hc,W',q1,q2,q3⟩:=h.elim
  exact ⟨v,H',W',hc,q1,q2,q3⟩
 refine qqd ?_
 obtain ⟨w0,w1,w7,w9,w13,w19,w34,w23,w29⟩:=qqe M ⟨none,yb⟩
 have lp:∀ {Hx:AHeap},Fr W0 H1 Hx->Op.load1 [.ptr p 0] Hx=some (.ptr b 0):=fun f=>by rw [zw (xd (by rw [f.keep _ (by omega) p3,p2];exact hp))];rfl
 have r0:=Fr.refl (W:=W0) H1
 obtain ⟨c1,h1,h1l,h1s⟩:=hI 0 W0 H1 hR0
 have l2:Op.load1 [.ptr b 2] H1=some sv:=h1.ldb 2
 have ln:Op.lenSl [sv]=some (.int .i64 ((c.sl.length:Nat):Int)):=by rw [<-h1l];exact (h1.sl.sl x9).len
 simp only [↓qj,xh,reduceIte,Nat.reduceEqDiff,w0,w1,lp r0,qau,w7,w9,qn,l2,ln]
 refine LOOP3.intro (fun n E Hx=>∃ (i:Nat) (V:Nat->Prop),E=[(11,.int .i64 (i:Int)),(10,.int .i64 ((c.sl.length:Nat):Int)),(0,.fn (.yield Y) [] []),(1,.ptr p 0)]/\n=c.sl.length-i/\i<=c.sl.length/\LpI R W0 H1 Hx ((List.range i).filter fun k=>(c.en k).st != 0).length V) ?_ ?_
 ·exact ⟨_,_,⟨0,W0,rfl,rfl,zl _,⟨hR0,fun b hb=>⟨hW0 b hb,.inl hb⟩,Fr.refl _⟩⟩,by simp only [↓qj,xh,reduceIte,Nat.reduceEqDiff]⟩
 rintro n E Hx ⟨i,V,rfl,rfl,hi,hx⟩
 rcases z8 i c.sl.length with hlt|hge
 ·have q1:(i:Int)<((c.sl.length:Nat):Int):=by omega
  obtain ⟨c',h',hl',hs'⟩:=hI _ V Hx hx.hR
  have l2':Op.load1 [.ptr b 2] Hx=some sv:=h'.ldb 2
  have hi':i<c'.sl.length:=by omega
  have ix:=h'.ix hi'
  have ls:Op.load1 [.ptr (slB sv) (slO 21 sv i+1)] Hx=some (.int .i64 (c.en i).st):=by rw [<-hs' i];exact h'.ld hi' (k:=1) (by decide)
  have wj:wrapI .i64 ((i:Int)+1)=((i+1:Nat):Int):=by rw [xr (by omega) (by omega)];omega
  have hf:=qth (fun k=>(c.en k).st != 0) i
  by_cases h0:(c.en i).st=0
  ·have hf':((List.range (i+1)).filter fun k=>(c.en k).st != 0).length=((List.range i).filter fun k=>(c.en k).st != 0).length:=by rw [hf];simp [h0]
   simp only [↓qj,xh,reduceIte,Nat.reduceEqDiff,w13,q1,w19,w23,lp hx.fr,qn,l2',ix,ls,ja h0,w34,wj]
   exact ⟨_,_,⟨i+1,V,rfl,rfl,by omega,by rw [hf'];exact hx⟩,by simp only [↓qj,xh,reduceIte,Nat.reduceEqDiff],by omega⟩
  ·have hf':((List.range (i+1)).filter fun k=>(c.en k).st != 0).length=((List.range i).filter fun k=>(c.en k).st != 0).length+1:=by rw [hf];simp [h0]
   have hg:(heldL c sv)[((List.range i).filter fun k=>(c.en k).st != 0).length]? = some [eA sv i]:=by
    unfold heldL heldN
    rw [xf,filt_get _ hlt (by simp [h0])];rfl
   obtain ⟨bb,H2,W2,hr,hf2,hW2,ht,hs⟩:=step _ _ hg V Hx hx.hR hx.hV (hx.fr.mono fun _ _ q=>.inl q)
   have fr2:Fr W0 H1 H2:=hx.fr.trans hf2 fun b q=>(hx.hV b q).2
   have hV2:∀ b,W2 b->b<H2.next/\(W0 b\/H1.next<=b):=fun b q=>⟨(hW2 b q).1,(hW2 b q).2.elim (fun w=>(hx.hV b w).2) fun w=>.inr (zn hx.fr.next w)⟩
   simp only [↓qj,xh,reduceIte,Nat.reduceEqDiff,w13,q1,w19,w23,lp hx.fr,qn,l2',ix,ls,h0,w29]
   refine C3.yret hr ?_
   cases bb with
   | true =>
    simp only [↓qj,xh,reduceIte,Nat.reduceEqDiff,w34,wj]
    exact ⟨_,_,⟨i+1,W2,rfl,rfl,by omega,⟨by rw [hf'];exact ht rfl,hV2,fr2⟩⟩,by simp only [↓qj,xh,reduceIte,Nat.reduceEqDiff],by omega⟩
   | false =>
    simp only [↓qj,xh,reduceIte,Nat.reduceEqDiff,SCP_r]
    exact ⟨W2,fr2.mono fun _ _ q=>.inl q,hV2,.inr (hs rfl)⟩
 ·have q1:¬ (i:Int)<((c.sl.length:Nat):Int):=by omega
  have hiw:i=c.sl.length:=by omega
  simp only [↓qj,xh,reduceIte,Nat.reduceEqDiff,w13,q1,SCP_n]
  refine ⟨V,hx.fr.mono fun _ _ q=>.inl q,hx.hV,.inl ?_⟩
  have e:(heldL c sv).length=((List.range i).filter fun k=>(c.en k).st != 0).length:=by unfold heldL heldN;rw [zd,hiw]
  rw [e];exact hx.hR
theorem qto {H:AHeap} (b:Nat):yf M qb9 [.ptr b 0] H fun v H'=>v=.fn (.func yb) [] [.ptr H.next 0]/\H'=H.alloc (OR [.ptr b 0] yi):=by
 refine qt7 ?_
 have ca:AV.cells (.ptr b 0)=[.ptr b 0]:=rfl
 have mk:Op.mkFunc yb 0 [.ptr H.next 0]=some (.fn (.func yb) [] [.ptr H.next 0]):=rfl
 simp only [↓qj,xh,reduceIte,Nat.reduceEqDiff,qt8,ca,mk]
 rfl
structure TuC (c:Ca) (g:En->En) (i:Nat) (c':Ca):Prop where
 sets:c'.sets=c.sets
 ways:c'.ways=c.ways
 us:c'.us=c.us
 len:c'.sl.length=c.sl.length
 en:∀ k,k<c.sl.length->c'.en k=if k ∈ (heldN c).take i then g (c.en k) else c.en k
theorem TuC.zero (c:Ca) (g:En->En):TuC c g 0 c:=⟨rfl,rfl,rfl,rfl,fun k hk=>by simp⟩
theorem q1c (c:Ca):(heldN c).Nodup:=List.Nodup.sublist (List.filter_sublist) List.nodup_range
theorem qkk {c:Ca} {k:Nat}:k ∈ heldN c ↔ k<c.sl.length/\(c.en k).st ≠ 0:=by
 unfold heldN
 rw [List.mem_filter,List.mem_range];simp
theorem q4c {l:List Nat} (h:l.Nodup) {i k:Nat} (hk:l[i]? = some k):k ∉ l.take i:=by
 intro hm
 obtain ⟨j,hj⟩:=qbl hm
 rw [j6] at hj
 split at hj
 ·rename_i hji
  have h1:=qi.1 hj
  have h2:=qi.1 hk
  exact List.pairwise_iff_getElem.1 h j i h1.1 h2.1 hji (by rw [h1.2,h2.2])
 ·cases hj
theorem TuC.step {c c':Ca} {g:En->En} {i k:Nat} (h:TuC c g i c') (hk:(heldN c)[i]? = some k):c'.en k=c.en k/\TuC c g (i+1) (c'.set k (g (c.en k))):=by
 have hm:=qkk.1 (jf hk)
 have hn:=q4c (q1c c) hk
 have he:c'.en k=c.en k:=by rw [h.en k hm.1,qo hn]
 refine ⟨he,h.sets,h.ways,h.us,by show (c'.sl.set k _).length=_;rw [qt];exact h.len,fun j hj=>?_⟩
 rw [qg8 (by rw [h.len];exact hm.1),qd6,hk]
 by_cases q:k=j
 ·subst q;rw [xc rfl,xc (by simp)]
 ·rw [qo q,h.en j hj]
  have:(j ∈ (heldN c).take i++(some k).toList) ↔ j ∈ (heldN c).take i:=by simp [Ne.symm q]
  by_cases w:j ∈ (heldN c).take i
  ·rw [xc w,xc (this.2 w)]
  ·rw [qo w,qo fun z=>w (this.1 z)]
theorem TuC.done {c c':Ca} {g:En->En} (h:TuC c g (heldN c).length c') (hg:∀ e:En,e.st=0->g e=e):c' = { c with sl:=c.sl.map g }:=by
 have hsl:c'.sl=c.sl.map g:=by
  refine vz fun k=>?_
  rcases z8 k c.sl.length with q|q
  ·rw [qjn (by rw [h.len];exact q),xf,qjn q,h.en k q,zb (qe _)]
   by_cases w:(c.en k).st=0
   ·rw [qo (fun z=>(qkk.1 z).2 w)];show some (c.en k)=some (g (c.en k));rw [hg _ w]
   ·rw [xc (qkk.2 ⟨q,w⟩)];rfl
  ·rw [zr (by rw [h.len];exact q),zr (by rw [zd];exact q)]
 obtain ⟨s,w,l,u⟩:=c'
 have h1:=h.sets;have h2:=h.ways;have h3:=h.us
 simp only at h1 h2 h3 hsl
 subst h1;subst h2;subst h3;subst hsl;rfl
structure TuI (c:Ca) (g:En->En) (b:Nat) (sv:AV) (i:Nat) (V:Nat->Prop) (Hx:AHeap):Prop where
 vb:V b
 vs:V (slB sv)
 ex:∃ c',CaR Hx b sv c'/\TuC c g i c'
theorem CaR.loc {Ha Hb:AHeap} {b:Nat} {sv:AV} {c:Ca} (h:CaR Ha b sv c) (h1:Hb.get b=Ha.get b) (h2:Hb.get (slB sv)=Ha.get (slB sv)) (hn:Ha.next<=Hb.next):CaR Hb b sv c :=
 ⟨by rw [h1];exact h.row,ql h.lt hn,by
  obtain ⟨sb,e1,e2,e3⟩:=h.sl
  have e4:slB sv=sb:=by rw [e1];rfl
  rw [e4] at h2
  exact ⟨sb,e1,ql e2 hn,by rw [h2];exact e3⟩,h.ne,h.s8,h.w4,h.us⟩
theorem TuI.loc {c:Ca} {g:En->En} {b:Nat} {sv:AV} {i:Nat} {V:Nat->Prop} {Ha Hb:AHeap} (h:TuI c g b sv i V Ha) (hs:∀ x,V x->Hb.get x=Ha.get x) (hn:Ha.next<=Hb.next):TuI c g b sv i V Hb:=by
 obtain ⟨c',h1,h2⟩:=h.ex
 exact ⟨h.vb,h.vs,c',h1.loc (hs _ h.vb) (hs _ h.vs) hn,h2⟩
theorem TuI.hI {c:Ca} {g:En->En} (hg:∀ e:En,(g e).st=e.st) {b:Nat} {sv:AV} {i:Nat} {V:Nat->Prop} {Hx:AHeap} (h:TuI c g b sv i V Hx):HeI b sv c Hx:=by
 obtain ⟨c',h1,h2⟩:=h.ex
 refine ⟨c',h1,h2.len,fun k=>?_⟩
 rcases z8 k c.sl.length with q|q
 ·rw [h2.en k q];split
  ·exact hg _
  ·rfl
 ·rw [qo4 q,qo4 (by rw [h2.len];exact q)]
section
variable {H:AHeap} {b:Nat} {sv:AV} {c:Ca} {lines line:Int}
theorem qtb (hc:CaR H b sv c) (hl:c.sl.length<=40):yf M yq [.ptr b 0] H fun _ H'=>CaR H' b sv c.commit/\Fr (CaW b sv) H H':=by
 refine qp8 ?_
 obtain ⟨w0,wa,wb,w2,w10,w15⟩:=qkn M ⟨none,yq⟩
 simp only [↓qj,xh,reduceIte,Nat.reduceEqDiff,w0,w2,qau,w10]
 refine C3.q (qto (M:=M) b) fun v H5 ⟨hv,hh⟩=>?_
 obtain ⟨H1,e1⟩:∃ X,X=H.alloc (OR [.ptr b 0] yi):=⟨_,rfl⟩
 rw [<-e1] at hh
 rw [hv,hh]
 have f1:Fr Em H H1:=by rw [e1];exact (Fr.refl H).alloc _
 have n1:H1.next=H.next+1:=by rw [e1,za]
 have g1:H1.get H.next=some (OR [.ptr b 0] yi):=by rw [e1,xg]
 have hc1:=hc.em f1
 have hlt:=hc.lt
 have hsb:slB sv<H.next:=hc.sl.lt
 refine RNG3.iteri (fn:=qb1) (lp:=qbg) (pa:=qjp 0) (pb:=qjq 0) qo7 qiy.1 qiy.2 (by decide) ⟨rfl,qeb qbg.assign⟩ ⟨rfl,qeb qbg.body⟩
  (qp6 (M:=M) (b:=b) (sv:=sv) (c:=c) g1 (by omega) hl) (fun i V Hx=>TuI c clr b sv i V Hx) (fun _ _ _=>False) (CaW b sv) (qe _) ?_ ?_ ?_ ?_ ?_ ?_ ?_ ?_ ?_
 ·rintro x (q|q)
  ·exact ⟨by omega,rfl,fun w=>w.elim (fun w=>by omega) fun w=>by omega⟩
  ·exact q.elim
 ·exact fun x hx=>hx.elim (fun q=>by omega) fun q=>by omega
 ·exact ⟨.inl rfl,.inr rfl,c,hc1,TuC.zero c clr⟩
 ·exact fun i V Ha Hb h hs hn=>h.loc hs hn
 ·exact fun e V Ha Hb h _ _=>h
 ·exact fun i V Hx h=>h.hI q2e
 ·intro L2 i lr lb x hx hL2 V H6 hP hV hf6 hnL hL6 hgL
  unfold heldL at hx
  rw [xf,qv] at hx
  obtain ⟨k,hk,rfl⟩:=hx
  refine ⟨_,rfl,?_⟩
  obtain ⟨-,wa,wb,-⟩:=qkn M ⟨some L2,yq⟩
  simp only [↓qj,xh,reduceIte,Nat.reduceEqDiff,wa,qin]
  refine ⟨hgL,?_⟩
  have fx:Fr (On L2) H6 (H6.set L2 lb):=(Fr.refl H6).set (W:=On L2) (.inl rfl) _
  have gL:(H6.set L2 lb).get L2=some lb:=xj ..
  have nL:(H6.set L2 lb).next=H6.next:=rfl
  have hP7:=hP.loc (Hb:=H6.set L2 lb) (fun y hy=>by rw [qae (fun q:L2=y=>hnL (by rw [q];exact hy))]) (qe _)
  generalize H6.set L2 lb=H7 at *
  obtain ⟨c',h7,ht⟩:=hP7.ex
  obtain ⟨hek,ht2⟩:=ht.step hk
  have hm:=qkk.1 (jf hk)
  have hk7:k<c'.sl.length:=by rw [ht.len];exact hm.1
  obtain ⟨H8,s8,h8,f8⟩:=h7.st1 hk7 (j:=2) (by decide) (u:=.bool false) rfl (e:={ c'.en k with r:=false }) rfl
  have hk8:k<(c'.set k { c'.en k with r:=false }).sl.length:=by show k<(c'.sl.set k _).length;rw [qt];exact hk7
  obtain ⟨H9,s9,h9,f9⟩:=h8.st1 hk8 (j:=3) (by decide) (u:=.bool false) rfl (e:={ (c'.set k { c'.en k with r:=false }).en k with w:=false }) rfl
  rw [qlj hk7,qyo] at h9
  have hk9:k<(c'.set k { c'.en k with r:=false,w:=false }).sl.length:=by show k<(c'.sl.set k _).length;rw [qt];exact hk7
  obtain ⟨H10,s10,h10,f10⟩:=h9.stP hk9 (j:=12) (n:=8) (u:=.agg (enL .zero)) (by rw [xx];exact qez _) (by rw [xx];exact qmo _) (by decide) (e:={ (c'.set k { c'.en k with r:=false,w:=false }).en k with o:=.zero }) (enc_O _ _)
  rw [qlj hk7,qyo] at h10
  have ec:({ c'.en k with r:=false,w:=false,o:=.zero }:En)=clr (c.en k):=by rw [hek];unfold clr;rw [qo hm.2]
  have h10:CaR H10 b sv (c'.set k (clr (c.en k))):=by rw [<-ec];exact h10
  have f710:Fr (On (slB sv)) H7 H10:=(f8.trans f9 fun _ q=>.inl q).trans f10 fun _ q=>.inl q
  have hLs:L2 ≠ slB sv:=fun q=>hnL (by rw [q];exact hP.vs)
  have n710:=f710.next
  simp only [↓qj,xh,reduceIte,Nat.reduceEqDiff,wb,lZ,bd0,qn,s8,s9,s10]
  refine ⟨rfl,by rw [f710.keep L2 (by omega) (fun (q:L2=slB sv)=>hLs q)];exact gL,V,fun y hy=>⟨by have:=(hV y hy).1;omega,.inl hy⟩,(fx.mono fun y _ q=>.inr q).trans f710 fun y (q:y=slB sv)=>.inl (.inl (by rw [q];exact hP.vs)),.inl ⟨rfl,hP.vb,hP.vs,_,h10,ht2⟩⟩
 ·intro d V Hd hd1 hd2 hgd hfd hVd hP
  obtain ⟨c',h1,h2⟩:=hP.ex
  have el:(heldL c sv).length=(heldN c).length:=by unfold heldL;rw [zd]
  rw [el] at h2
  have e:c'=c.commit:=h2.done fun e h=>by unfold clr;rw [xc h]
  rw [e] at h1
  have hdb:d ≠ b:=by omega
  have hds:d ≠ slB sv:=by omega
  have fo:Fr (On d) Hd (Hd.set d (.deferred none)):=(Fr.refl Hd).set (W:=On d) (.inl rfl) _
  have fW:Fr (CaW b sv) H Hd:=(frE f1).trans hfd fun y q=>q.elim (fun w=>.inl w) False.elim
  simp only [↓qj,xh,reduceIte,Nat.reduceEqDiff,w15,qh1]
  exact ⟨hgd,h1.fr fo (fun (q:b=d)=>hdb q.symm) (fun (q:slB sv=d)=>hds q.symm),fW.set (.inr (by omega)) _⟩
 ·exact fun e d V Hd _ _ _ _ _ _ h=>h.elim
end
end Go.Am
namespace Go.Am
open Go.Proofs Ca
variable {M:Mac} [MK M]
def undo (e:En):En:=if e.st ≠ 0/\e.w=true then { e with d:=e.o } else e
theorem q6u (e:En):(undo e).st=e.st:=by unfold undo;split<;>rfl
theorem undo_clr (e:En):clr (undo e)=back e:=by
 unfold clr back
 rw [q6u]
 by_cases h:e.st=0
 ·rw [xc h,xc h];unfold undo;rw [qo fun q=>q.1 h]
 ·rw [qo h,qo h]
  unfold undo
  by_cases hw:e.w=true
  ·rw [xc ⟨h,hw⟩,xc hw]
  ·rw [qo (fun q=>hw q.2),qo hw]
theorem q3u (c:Ca):Ca.commit { c with sl:=c.sl.map undo } = c.discard:=by
 unfold Ca.commit Ca.discard
 simp only [yg]
 congr 1
 exact List.map_congr_left fun e _=>undo_clr e
section
variable {H:AHeap} {b:Nat} {sv:AV} {c:Ca} {lines line:Int}
theorem qy4 (hc:CaR H b sv c) (hl:c.sl.length<=40):yf M y8 [.ptr b 0] H fun _ H'=>CaR H' b sv c.discard/\Fr (CaW b sv) H H':=by
 refine qo8 ?_
 obtain ⟨w0,wa,wb,w2,w10,w15⟩:=qjs M ⟨none,y8⟩
 simp only [↓qj,xh,reduceIte,Nat.reduceEqDiff,w0,w2,qau,w10]
 refine C3.q (qto (M:=M) b) fun v H5 ⟨hv,hh⟩=>?_
 obtain ⟨H1,e1⟩:∃ X,X=H.alloc (OR [.ptr b 0] yi):=⟨_,rfl⟩
 rw [<-e1] at hh
 rw [hv,hh]
 have f1:Fr Em H H1:=by rw [e1];exact (Fr.refl H).alloc _
 have n1:H1.next=H.next+1:=by rw [e1,za]
 have g1:H1.get H.next=some (OR [.ptr b 0] yi):=by rw [e1,xg]
 have hc1:=hc.em f1
 have hlt:=hc.lt
 have hsb:slB sv<H.next:=hc.sl.lt
 refine RNG3.iteri (fn:=qbh) (lp:=qas) (pa:=qiz 0) (pb:=qi0 0) qoj qig.1 qig.2 (by decide) ⟨rfl,qeb qas.assign⟩ ⟨rfl,qeb qas.body⟩
  (qp6 (M:=M) (b:=b) (sv:=sv) (c:=c) g1 (by omega) hl) (fun i V Hx=>TuI c undo b sv i V Hx) (fun _ _ _=>False) (CaW b sv) (qe _) ?_ ?_ ?_ ?_ ?_ ?_ ?_ ?_ ?_
 ·rintro x (q|q)
  ·exact ⟨by omega,rfl,fun w=>w.elim (fun w=>by omega) fun w=>by omega⟩
  ·exact q.elim
 ·exact fun x hx=>hx.elim (fun q=>by omega) fun q=>by omega
 ·exact ⟨.inl rfl,.inr rfl,c,hc1,TuC.zero c undo⟩
 ·exact fun i V Ha Hb h hs hn=>h.loc hs hn
 ·exact fun e V Ha Hb h _ _=>h
 ·exact fun i V Hx h=>h.hI q6u
 ·intro L2 i lr lb x hx hL2 V H6 hP hV hf6 hnL hL6 hgL
  unfold heldL at hx
  rw [xf,qv] at hx
  obtain ⟨k,hk,rfl⟩:=hx
  refine ⟨_,rfl,?_⟩
  obtain ⟨-,wa,wb,-⟩:=qjs M ⟨some L2,y8⟩
  simp only [↓qj,xh,reduceIte,Nat.reduceEqDiff,wa,qin]
  refine ⟨hgL,?_⟩
  have fx:Fr (On L2) H6 (H6.set L2 lb):=(Fr.refl H6).set (W:=On L2) (.inl rfl) _
  have gL:(H6.set L2 lb).get L2=some lb:=xj ..
  have nL:(H6.set L2 lb).next=H6.next:=rfl
  have hP7:=hP.loc (Hb:=H6.set L2 lb) (fun y hy=>by rw [qae (fun q:L2=y=>hnL (by rw [q];exact hy))]) (qe _)
  generalize H6.set L2 lb=H7 at *
  obtain ⟨c',h7,ht⟩:=hP7.ex
  obtain ⟨hek,ht2⟩:=ht.step hk
  have hm:=qkk.1 (jf hk)
  have hk7:k<c'.sl.length:=by rw [ht.len];exact hm.1
  have hLs:L2 ≠ slB sv:=fun q=>hnL (by rw [q];exact hP.vs)
  have lw:Op.load1 [.ptr (slB sv) (slO 21 sv k+3)] H7=some (.bool (c'.en k).w):=h7.ld hk7 (k:=3) (by decide)
  cases hw:(c'.en k).w with
  | true =>
   rw [hw] at lw
   obtain ⟨H8,s8,h8,f8⟩:=h7.stP hk7 (j:=4) (n:=8) (u:=.agg (enL (c'.en k).o)) (by rw [xx];exact qez _) (by rw [xx];exact qmo _) (by decide) (e:={ c'.en k with d:=(c'.en k).o }) (enc_D _ _)
   have ec:({ c'.en k with d:=(c'.en k).o }:En)=undo (c.en k):=by
    have hw':(c.en k).w=true:=by rw [<-hek];exact hw
    rw [hek];unfold undo;rw [xc ⟨hm.2,hw'⟩]
   have h8:CaR H8 b sv (c'.set k (undo (c.en k))):=by rw [<-ec];exact h8
   have n78:=f8.next
   simp only [↓qj,xh,reduceIte,Nat.reduceEqDiff,wb,qn,lw,h7.ldO hk7,s8]
   exact ⟨rfl,by rw [f8.keep L2 (by omega) (fun (q:L2=slB sv)=>hLs q)];exact gL,V,fun y hy=>⟨by have:=(hV y hy).1;omega,.inl hy⟩,(fx.mono fun y _ q=>.inr q).trans f8 fun y (q:y=slB sv)=>.inl (.inl (by rw [q];exact hP.vs)),.inl ⟨rfl,hP.vb,hP.vs,_,h8,ht2⟩⟩
  | false =>
   rw [hw] at lw
   have ec:c'.set k (undo (c.en k))=c':=by
    have hu:undo (c.en k)=c'.en k:=by
     have hw':(c.en k).w=false:=by rw [<-hek];exact hw
     unfold undo;rw [qo (fun q=>by rw [hw'] at q;exact Bool.noConfusion q.2),hek]
    rw [hu]
    unfold Ca.set Ca.en
    rw [xu hk7]
    simp
   rw [ec] at ht2
   simp only [↓qj,xh,reduceIte,Nat.reduceEqDiff,wb,qn,lw]
   exact ⟨rfl,gL,V,fun y hy=>⟨by have:=(hV y hy).1;omega,.inl hy⟩,fx.mono fun y _ q=>.inr q,.inl ⟨rfl,hP.vb,hP.vs,_,h7,ht2⟩⟩
 ·intro d V Hd hd1 hd2 hgd hfd hVd hP
  obtain ⟨c',h1,h2⟩:=hP.ex
  have el:(heldL c sv).length=(heldN c).length:=by unfold heldL;rw [zd]
  rw [el] at h2
  have e:c' = { c with sl:=c.sl.map undo }:=h2.done fun e h=>by unfold undo;rw [qo fun q=>q.1 h]
  have hdb:d ≠ b:=by omega
  have hds:d ≠ slB sv:=by omega
  have fW:Fr (CaW b sv) H Hd:=(frE f1).trans hfd fun y q=>q.elim (fun w=>.inl w) False.elim
  simp only [↓qj,xh,reduceIte,Nat.reduceEqDiff,w15]
  refine C3.q (qtb (M:=M) h1 (by rw [h2.len];exact hl)) fun _ He ⟨h3,f3⟩=>?_
  rw [e,q3u] at h3
  have hge:He.get d=some (.deferred (some [])):=by rw [f3.keep d hd2 (fun q=>q.elim hdb hds)];exact hgd
  have fo:Fr (On d) He (He.set d (.deferred none)):=(Fr.refl He).set (W:=On d) (.inl rfl) _
  simp only [↓qj,xh,reduceIte,Nat.reduceEqDiff,qh1]
  exact ⟨hge,h3.fr fo (fun (q:b=d)=>hdb q.symm) (fun (q:slB sv=d)=>hds q.symm),(frT fW f3).set (.inr (by omega)) _⟩
 ·exact fun e d V Hd _ _ _ _ _ _ h=>h.elim
structure AlI (c:Ca) (b:Nat) (sv:AV) (t:Nat) (i:Nat) (V:Nat->Prop) (Hx:AHeap):Prop where
 vb:V b
 vs:V (slB sv)
 vt:V t
 lt:t<Hx.next
 ca:CaR Hx b sv c
 ls:∃ lv,Hx.get t=some (OR [lv] T__11)/\OwnT encE qk 21 Hx lv (((heldN c).take i).map c.en) /\ ∀ a,OnS lv a->V a/\t<a
theorem AlI.loc {c:Ca} {b:Nat} {sv:AV} {t i:Nat} {V:Nat->Prop} {Ha Hb:AHeap} (h:AlI c b sv t i V Ha) (hs:∀ x,V x->Hb.get x=Ha.get x) (hn:Ha.next<=Hb.next):AlI c b sv t i V Hb:=by
 obtain ⟨lv,l1,l2,l3⟩:=h.ls
 refine ⟨h.vb,h.vs,h.vt,ql h.lt hn,h.ca.loc (hs _ h.vb) (hs _ h.vs) hn,lv,by rw [hs _ h.vt];exact l1,?_,l3⟩
 exact Own.fr l2 (⟨hn,fun b _ hw=>hs b (Classical.not_not.1 hw)⟩:Fr (fun b=>¬ V b) Ha Hb) fun x hx w=>w (l3 x hx).1
def AllR (H:AHeap) (c:Ca) (v:AV) (H':AHeap):Prop:=∃ ys,Dt H' v ys/\AllOf c ys/\Fr Em H H' /\ ∀ x,OnS v x->H.next<=x
theorem all_spec (hc:CaR H b sv c) (hl:c.sl.length<=40):yf M qb5 [.ptr b 0] H (AllR H c):=by
 refine qvr ?_
 obtain ⟨w0,wa,wb,w4,w9⟩:=qn4 M ⟨none,qb5⟩
 obtain ⟨H1,e1⟩:∃ X,X=H.alloc (OR [.nils] T__11):=⟨_,rfl⟩
 have f1:Fr Em H H1:=by rw [e1];exact (Fr.refl H).alloc _
 have n1:H1.next=H.next+1:=by rw [e1,za]
 have g1:H1.get H.next=some (OR [.nils] T__11):=by rw [e1,xg]
 simp only [↓qj,xh,reduceIte,Nat.reduceEqDiff,w0,<-e1,w4]
 refine C3.q (qto (M:=M) b) fun v H5 ⟨hv,hh⟩=>?_
 obtain ⟨H2,e2⟩:∃ X,X=H1.alloc (OR [.ptr b 0] yi):=⟨_,rfl⟩
 rw [<-e2] at hh
 rw [hv,hh]
 have f12:Fr Em H1 H2:=by rw [e2];exact (Fr.refl H1).alloc _
 have f2:Fr Em H H2:=f1.trans f12 fun _ q=>q.elim
 have n2:H2.next=H.next+2:=by rw [e2,za,n1]
 have g2:H2.get H1.next=some (OR [.ptr b 0] yi):=by rw [e2,xg]
 have g2t:H2.get H.next=some (OR [.nils] T__11):=by rw [f12.keep _ (by omega) id];exact g1
 have hc2:=hc.em f2
 have hlt:=hc.lt
 have hsb:slB sv<H.next:=hc.sl.lt
 refine RNG3.iteri (fn:=qdu) (lp:=qc6) (pa:=qmv 0) (pb:=qmw 0) qtq qlv.1 qlv.2 (by decide) ⟨rfl,qeb qc6.assign⟩ ⟨rfl,qeb qc6.body⟩
  (qp6 (M:=M) (b:=b) (sv:=sv) (c:=c) g2 (by omega) hl) (fun i V Hx=>AlI c b sv H.next i V Hx) (fun _ _ _=>False) (fun x=>CaW b sv x\/x=H.next) (qe _) ?_ ?_ ?_ ?_ ?_ ?_ ?_ ?_ ?_
 ·rintro x (q|q)
  ·exact ⟨by omega,rfl,fun w=>w.elim (fun w=>w.elim (fun w=>by omega) fun w=>by omega) fun w=>by omega⟩
  ·exact q.elim
 ·exact fun x hx=>hx.elim (fun q=>q.elim (fun q=>by omega) fun q=>by omega) fun q=>by omega
 ·exact ⟨.inl (.inl rfl),.inl (.inr rfl),.inr rfl,by omega,hc2,.nils,g2t,Own.nil ..,fun x q=>(q.1 rfl).elim⟩
 ·exact fun i V Ha Hb h hs hn=>h.loc hs hn
 ·exact fun e V Ha Hb h _ _=>h
 ·exact fun i V Hx h=>⟨c,h.ca,rfl,fun _=>rfl⟩
 ·intro L2 i lr lb x hx hL2 V H6 hP hV hf6 hnL hL6 hgL
  unfold heldL at hx
  rw [xf,qv] at hx
  obtain ⟨k,hk,rfl⟩:=hx
  refine ⟨_,rfl,?_⟩
  obtain ⟨-,wa,wb,-⟩:=qn4 M ⟨some L2,qb5⟩
  simp only [↓qj,xh,reduceIte,Nat.reduceEqDiff,wa,qin]
  refine ⟨hgL,?_⟩
  have fx:Fr (On L2) H6 (H6.set L2 lb):=(Fr.refl H6).set (W:=On L2) (.inl rfl) _
  have gL:(H6.set L2 lb).get L2=some lb:=xj ..
  have nL:(H6.set L2 lb).next=H6.next:=rfl
  have hP7:=hP.loc (Hb:=H6.set L2 lb) (fun y hy=>by rw [qae (fun q:L2=y=>hnL (by rw [q];exact hy))]) (qe _)
  generalize H6.set L2 lb=H7 at *
  obtain ⟨lv,l1,l2,l3⟩:=hP7.ls
  have hm:=qkk.1 (jf hk)
  have lq:Op.load1 [.ptr H.next 0] H7=some lv:=zw (xd l1) 0
  have hit:(((heldN c).take i).map c.en).length<=40:=by
   rw [zd,zm]
   have:(heldN c).length<=c.sl.length:=by
    have:=List.length_filter_le (fun k=>(c.en k).st != 0) (List.range c.sl.length)
    rw [qcx] at this;exact this
   omega
  simp only [↓qj,xh,reduceIte,Nat.reduceEqDiff,wb,lq,qn,hP7.ca.ldE hm.1]
  refine append3 (e:=qk) (size:=21) (bytes:=160) l2 (x:=.agg (encE (c.en k))) rfl (by rw [xx];exact x9 _) (by rw [xx];exact qdp _) (by decide) (by omega) (by omega) fun lv' H8 hlv' hf hfr=>?_
  rw [xx] at hlv'
  have q8:H8.get H.next=some (OR [lv] T__11):=by rw [hf.keep _ hP7.lt fun q=>by have:=(l3 _ q).2;omega];exact l1
  have o1:oneCell lv'=true:=by have:=Sl.one (Own.sl hlv');exact this
  have st:=qee q8 o1
  obtain ⟨H9,e9⟩:∃ X,X=H8.set H.next (OR [lv'] T__11):=⟨_,rfl⟩
  rw [<-e9] at st
  have f9:Fr (On H.next) H8 H9:=by rw [e9];exact (Fr.refl H8).set (W:=On H.next) (.inl rfl) _
  simp only [↓qj,xh,reduceIte,Nat.reduceEqDiff,st]
  have lo':∀ y,OnS lv' y->H.next<y:=fun y q=>(hfr y q).elim (fun q=>(l3 y q).2) fun q=>by have:=hP.lt;omega
  have nf:=hf.next
  have nb:∀ y,y<H.next -> ¬ OnS lv y:=fun y hy q=>by have:=(l3 y q).2;omega
  have n9:H9.next=H8.next:=by rw [e9];rfl
  have hca9:CaR H9 b sv c:=(hP7.ca.fr hf (nb _ hlt) (nb _ hsb)).fr f9 (fun (q:b=H.next)=>by omega) (fun (q:slB sv=H.next)=>by omega)
  refine ⟨rfl,?_,fun y=>V y\/OnS lv' y,?_,?_,.inl ⟨rfl,⟨.inl hP.vb,.inl hP.vs,.inl hP.vt,?_,hca9,lv',?_,?_,fun y q=>⟨.inr q,lo' y q⟩⟩⟩⟩
  ·rw [f9.keep L2 (by omega) (fun (q:L2=H.next)=>hnL (by rw [q];exact hP.vt)),hf.keep L2 (by omega) fun q=>hnL (l3 _ q).1];exact gL
  ·rintro y (q|q)
   ·exact ⟨by have:=(hV y q).1;omega,.inl q⟩
   ·refine ⟨by rw [n9];exact Own.lt hlv' y q,?_⟩
    rcases hfr y q with w|w
    ·exact .inl (l3 y w).1
    ·exact .inr (by omega)
  ·have a1:Fr (fun b=>V b\/b=L2) H6 H7:=fx.mono fun x _ q=>.inr q
   exact (a1.trans hf fun x hx=>.inl (.inl (l3 x hx).1)).trans f9 fun x hx=>.inl (.inl (by rw [show x=H.next from hx];exact hP.vt))
  ·have:=hP.lt;omega
  ·rw [e9,xj]
  ·have hx2:((heldN c).take (i+1)).map c.en=((heldN c).take i).map c.en ++ [c.en k]:=by rw [qd6,hk];simp
   rw [hx2]
   have ow:OwnT encE qk 21 H8 lv' (((heldN c).take i).map c.en ++ [c.en k]):=by
    unfold OwnT
    rw [qu,qbv,j4,List.flatMap_nil,jb]
    exact hlv'
   exact Own.fr ow f9 fun x hx (q:x=H.next)=>by have:=lo' x hx;omega
 ·intro d V Hd hd1 hd2 hgd hfd hVd hP
  obtain ⟨lv,l1,l2,l3⟩:=hP.ls
  have el:(heldL c sv).length=(heldN c).length:=by unfold heldL;rw [zd]
  rw [el,zb (qe _)] at l2
  have lq:Op.load1 [.ptr H.next 0] Hd=some lv:=zw (xd l1) 0
  have hfe:(heldN c).map c.en=c.sl.filter En.val:=by
   unfold heldN
   have:c.sl=(List.range c.sl.length).map c.en:=by
    refine vz fun k=>?_
    rcases z8 k c.sl.length with q|q
    ·rw [qjn q,xf,vo q];rfl
    ·rw [zr q,zr (by rw [zd,qcx];exact q)]
   conv=>rhs;rw [this]
   rw [List.filter_map];rfl
  have hlen:((heldN c).map c.en).length<=40:=by
   rw [hfe];exact zn (List.length_filter_le ..) hl
  have hbn:=hP.ca.row
  have hsn:Hd.get (slB sv)=H.get (slB sv):=by
   obtain ⟨s1,a1,a2,a3⟩:=hP.ca.sl
   obtain ⟨s2,b1,b2,b3⟩:=hc.sl
   have e1:slB sv=s1:=by rw [a1];rfl
   have e2:slB sv=s2:=by rw [b1];rfl
   rw [<-e1] at a3;rw [<-e2] at b3
   rw [a3,b3]
  have hbe:Hd.get b=H.get b:=by rw [hbn,hc.row]
  have fE:Fr Em H Hd:=⟨zn f2.next hfd.next,fun y hy _=>by
   by_cases e1:y=b
   ·rw [e1];exact hbe
   ·by_cases e2:y=slB sv
    ·rw [e2];exact hsn
    ·rw [hfd.keep y (by omega) (fun q=>q.elim (fun q=>q.elim (fun q=>q.elim e1 e2) fun q=>by omega) id),f2.keep y hy id]⟩
  simp only [↓qj,xh,reduceIte,Nat.reduceEqDiff,w9,lq]
  refine C3.q (qw7 (M:=M) (xs:=(heldN c).map c.en) l2 hlen) fun _ He ⟨ys,hy1,hy2,hy3,hy4⟩=>?_
  have hne:∀ y,y<=H.next -> ¬ OnS lv y:=fun y hy q=>by have:=(l3 y q).2;omega
  have ge:He.get H.next=some (OR [lv] T__11):=by rw [hy2.keep _ hP.lt (hne _ (qe _))];exact l1
  have lqe:Op.load1 [.ptr H.next 0] He=some lv:=zw (xd ge) 0
  have hgde:He.get d=some (.deferred (some [])):=by rw [hy2.keep d hd2 (fun q=>(hVd d (l3 d q).1).2.2 rfl)];exact hgd
  have fo:Fr (On d) He (He.set d (.deferred none)):=(Fr.refl He).set (W:=On d) (.inl rfl) _
  simp only [↓qj,xh,reduceIte,Nat.reduceEqDiff,lqe,qh1]
  refine ⟨hgde,ys,Own.fr hy1 fo (fun x hx (q:x=d)=>(hVd x (l3 x hx).1).2.2 q),⟨by rw [<-hfe];exact hy3,hy4⟩,?_,fun x hx=>by have:=(l3 x hx).2;omega⟩
  exact (fE.trans hy2 fun x hx=>.inr (by have:=(l3 x hx).2;omega)).set (.inr (by omega)) _
 ·exact fun e d V Hd _ _ _ _ _ _ h=>h.elim
end
end Go.Am
namespace Go.Am
open Go.Proofs Ca
variable {M:Mac} [MK M]
def newCa (s w:Nat):Ca:=⟨s,w,List.replicate (s*w) .zero,0⟩
theorem qx3 (s w k:Nat):(newCa s w).en k=.zero:=by
 unfold Ca.en newCa
 simp only [List.getElem?_replicate]
 split<;>rfl
theorem newCa_ci (lines:Int) {s w:Nat} (hs:0<s) (hw:0<w):CI lines (newCa s w) :=
 ⟨qaw ..,hs,hw,fun i _ h=>by rw [qx3] at h;exact absurd rfl h,fun i j _ _ h=>by rw [qx3] at h;exact absurd rfl h⟩
theorem q1h (s w:Nat):(newCa s w).plain:=fun i _ h=>by rw [qx3] at h;exact absurd rfl h
theorem q2o:∀ n:Nat,(List.replicate n En.zero).flatMap encE=repl n (encE .zero)
 | 0=>rfl
 | n+1=>by rw [qc1,j4,q2o n];rfl
def newOk (s w:Int):Prop:=1<=s/\s<=8/\1<=w/\w<=4
instance (s w:Int):Decidable (newOk s w):=inferInstanceAs (Decidable (_/\_))
def NewR (H:AHeap) (s w:Int) (v:AV) (H':AHeap):Prop:=Fr Em H H'/\(¬ newOk s w/\v=.tuple [.nilp,.int .i64 2]\/newOk s w /\ ∃ b sv,v=.tuple [.ptr b 0,.int .i64 0]/\CaR H' b sv (newCa s.toNat w.toNat)/\H.next<=b/\H.next<=slB sv)
theorem q32 {H:AHeap} (s w:Int):yf M qk2 [.int .i64 s,.int .i64 w] H (NewR H s w):=by
 refine l1_New_s ?_
 obtain ⟨w0,w2,w10⟩:=l1_New_w M ⟨none,qk2⟩
 by_cases h1:s<1
 ·simp only [↓qj,xh,reduceIte,Nat.reduceEqDiff,w0,w2,h1];exact ⟨Fr.refl _,.inl ⟨fun q=>by have:=q.1;omega,rfl⟩⟩
 by_cases h2:8<s
 ·simp only [↓qj,xh,reduceIte,Nat.reduceEqDiff,w0,w2,h1,h2];exact ⟨Fr.refl _,.inl ⟨fun q=>by have:=q.2.1;omega,rfl⟩⟩
 by_cases h3:w<1
 ·simp only [↓qj,xh,reduceIte,Nat.reduceEqDiff,w0,w2,h1,h2,h3];exact ⟨Fr.refl _,.inl ⟨fun q=>by have:=q.2.2.1;omega,rfl⟩⟩
 by_cases h4:4<w
 ·simp only [↓qj,xh,reduceIte,Nat.reduceEqDiff,w0,w2,h1,h2,h3,h4];exact ⟨Fr.refl _,.inl ⟨fun q=>by have:=q.2.2.2;omega,rfl⟩⟩
 obtain ⟨a,rfl⟩:=ji (show 0<=s by omega)
 obtain ⟨d,rfl⟩:=ji (show 0<=w by omega)
 have had:a*d<=8*4:=Nat.mul_le_mul (by omega) (by omega)
 have wm:wrapI .i64 ((a:Int)*(d:Int))=((a*d:Nat):Int):=by rw [<-Int.natCast_mul];exact xr (by omega) (by omega)
 have mk:=q55 qk 160 (encE .zero) (a*d) .i64 .i64 (by omega) (by omega)
 rw [<-q2o] at mk
 obtain ⟨H1,e1⟩:∃ X,X=H.alloc (OR ((List.replicate (a*d) En.zero).flatMap encE) qk):=⟨_,rfl⟩
 have f1:Fr Em H H1:=by rw [e1];exact (Fr.refl H).alloc _
 have n1:H1.next=H.next+1:=by rw [e1,za]
 obtain ⟨sv,hsv⟩:∃ sv:AV,sv=.slice H.next 0 (a*d) (a*d):=⟨_,rfl⟩
 have hst:Op.sliceTo (a*d) (a*d) H.next=sv:=by rw [hsv];rfl
 have hsb:slB sv=H.next:=by rw [hsv];rfl
 have bd:Op.build [.int .i64 0,.int .i64 0,.nils,.int .i64 0] [(0,1),(1,1),(2,1)] [.int .i64 (a:Int),.int .i64 (d:Int),sv]=some (.agg (caC (newCa a d) sv)):=by rw [hsv];rfl
 obtain ⟨H2,e2⟩:∃ X,X=H1.alloc (OR (caC (newCa a d) sv) qkc):=⟨_,rfl⟩
 have f2:Fr Em H1 H2:=by rw [e2];exact (Fr.refl H1).alloc _
 have g2:H2.get H1.next=some (OR (caC (newCa a d) sv) qkc):=by rw [e2,xg]
 simp only [↓qj,xh,reduceIte,Nat.reduceEqDiff,w0,w2,h1,h2,h3,h4,w10,wm,eZ,mk,hst,<-e1,bd,xx,<-e2]
 refine ⟨f1.trans f2 fun _ q=>q.elim,.inr ⟨⟨by omega,by omega,by omega,by omega⟩,_,sv,rfl,⟨g2,by rw [e2,za];omega,⟨H.next,?_,?_,?_⟩,by omega,by show a<=8;omega,by show d<=4;omega,⟨Int.le_refl _,by show (0:Int)<=1000000;decide⟩⟩,by omega,by omega⟩⟩
 ·show sv=.slice H.next 0 (List.replicate (a*d) En.zero).length (List.replicate (a*d) En.zero).length
  rw [qaw];exact hsv
 ·rw [e2,za];omega
 ·rw [f2.keep _ (by omega) id,e1,xg];rfl
end Go.Am
