/- BuKa: GhC GhD GhE. -/
import Derived.Test.YtiibohocdbaekaaGreatAmCBuK9
set_option linter.unusedVariables false
set_option linter.unusedSimpArgs false
set_option linter.unusedSectionVars false
set_option maxRecDepth 100000
open Nat (reduceEqDiff)
namespace Go.Am
open Go.Proofs Ca
open Lang (ints)
variable {M:aA} [MK M]
structure kS (H0 H:AHeap) (B:Nat) (s:Bs) (b:Bu) (own:Nat->Nat) (G:Nat) (gs:Gs) (g:Gh) (tg:Nat->Nat):Prop where
 jL:dg H0 H B s b own
 gh:iG H0 H G gs g tg
 dj:∀ z,jF B s z -> ¬ uz G gs z
def ou (B:Nat) (s:Bs) (G:Nat) (gs:Gs) (z:Nat):Prop:=jF B s z\/uz G gs z
def jM (H0 H:AHeap) (B:Nat) (s:Bs) (G:Nat) (gs:Gs) (b':Bu) (g':Gh) (H':AHeap):Prop :=
 ∃ s' c7 gs' tg',kS H0 H' B s' b' c7 G gs' g' tg'/\(∀ z,ou B s' G gs' z->ou B s G gs z\/H.next<=z)/\Fr (ou B s G gs) H H'
section
variable {H0 H:AHeap} {B G:Nat} {s:Bs} {b:Bu} {own tg:Nat->Nat} {gs:Gs} {g:Gh}
theorem kS.low (h:kS H0 H B s b own G gs g tg) {z:Nat} (hz:ou B s G gs z):z<H.next:=hz.elim h.jL.low h.gh.low
theorem kS.fr {H':AHeap} {W:Nat->Prop} (h:kS H0 H B s b own G gs g tg) (f:Fr W H H') (hw:∀ z,W z->H0.next<=z /\ ¬ ou B s G gs z):kS H0 H' B s b own G gs g tg :=
 ⟨h.jL.fr f λ z q=>⟨(hw z q).1,λ w=>(hw z q).2 (.inl w)⟩,h.gh.fr f λ z q w=>(hw z q).2 (.inr w),h.dj⟩
theorem kS.em {H':AHeap} (h:kS H0 H B s b own G gs g tg) (f:Fr Em H H'):kS H0 H' B s b own G gs g tg:=h.fr f λ z q=>q.elim
theorem kS.same (h:kS H0 H B s b own G gs g tg) {H':AHeap} (f:Fr Em H H'):jM H0 H B s G gs b g H':=⟨s,own,gs,tg,h.em f,λ _ q=>.inl q,f.mono λ _ _ q=>q.elim⟩
theorem jM.then {H1 H2:AHeap} {s1:Bs} {gs1:Gs} {b':Bu} {g':Gh} (f1:Fr (ou B s G gs) H H1) (hs:∀ z,ou B s1 G gs1 z->ou B s G gs z\/H.next<=z) (h:jM H0 H1 B s1 G gs1 b' g' H2):jM H0 H B s G gs b' g' H2:=by
 obtain ⟨s2,o2,gs2,t2,h2,q2,f2⟩:=h;have:=f1.next
 exact ⟨s2,o2,gs2,t2,h2,λ z hz=>(q2 z hz).elim (hs z) λ w=>.inr (by omega),f1.trans f2 hs⟩
theorem jM.em {H1 H2:AHeap} {b':Bu} {g':Gh} (h:jM H0 H B s G gs b' g' H1) (f:Fr Em H1 H2):jM H0 H B s G gs b' g' H2:=by
 obtain ⟨s2,o2,gs2,t2,h2,q2,f2⟩:=h;exact ⟨s2,o2,gs2,t2,h2.em f,q2,f2.trans f λ _ q=>q.elim⟩
theorem kS.bp (h:kS H0 H B s b own G gs g tg) {b':Bu} {H':AHeap} (p:iB H0 H B s b' H'):jM H0 H B s G gs b' g H':=by
 obtain ⟨s',c7,h',q',f'⟩:=p;refine ⟨s',c7,gs,tg,⟨h',h.gh.fr f' h.dj,λ z hz w=>(q' z hz).elim (λ q=>h.dj z q w) λ q=>?_⟩,λ z hz=>hz.elim (λ q=>(q' z q).elim (λ q=>.inl (.inl q)) .inr) λ q=>.inl (.inr q),f'.mono λ z _ q=>.inl q⟩;have:=h.gh.low w;omega
theorem kS.gp (h:kS H0 H B s b own G gs g tg) {g':Gh} {H':AHeap} (p:Dc H0 H G gs g' H'):jM H0 H B s G gs b g' H':=by
 obtain ⟨gs',tg',h',q',f'⟩:=p;refine ⟨s,own,gs',tg',⟨h.jL.fr f' λ z q=>⟨h.gh.lo z q,λ w=>h.dj z w q⟩,h',λ z hz w=>(q' z w).elim (λ q=>h.dj z hz q) λ q=>?_⟩,λ z hz=>hz.elim (λ q=>.inl (.inl q)) λ q=>(q' z q).elim (λ q=>.inl (.inr q)) .inr,f'.mono λ z _ q=>.inr q⟩;have:=h.jL.low hz;omega
theorem rq (h:dg H0 H B s b own) (hb:BB b) (i:Nat):zq M Dm [.ptr B 0,.int .i64 (i:Int)] H λ v H'=>v=.bool (b.lv i)/\H'=H:=by
 unfold Bu.lv;cases hn:b.ns[i]? with
 | some n=>exact qxp h hb (c:=(i:Int)) (by omega) (by rw [x9];exact hn)
 | none=>exact q2u h hb (c:=(i:Int)) (λ q=>by have:=List.getElem?_eq_none_iff.1 hn;omega)
theorem qzi {L:Nat->Bool} {i:Nat} (h:¬ (g.live i=true/\L i=false)):g.tail L (i+1)=g.tail L i:=by
 unfold Gh.tail;congr 1
 ·funext j
  by_cases q:j=i
  ·subst q;rw [qg (λ w=>h w.2),qg (λ w=>h w.2)]
  ·by_cases w:j<i
   ·simp only [show j<i+1 from by omega,w]
   ·simp only [show ¬ j<i+1 from by omega,w]
 ·funext j
  by_cases q:j=i
  ·subst q;rw [ql (by omega),qg (by omega)];cases h1:g.live j with
   | false=>rfl
   | true=>cases h2:L j with
    | true=>rfl
    | false=>exact absurd ⟨h1,h2⟩ h
  ·by_cases w:j<i
   ·simp only [show j<i+1 from by omega,w]
   ·simp only [show ¬ j<i+1 from by omega,w]
theorem q7n {L:Nat->Bool} {i:Nat} (h:g.live i=true/\L i=false):g.tail L (i+1) = { g.tail L i with live:=im (g.tail L i).live i false,own:=im (g.tail L i).own i [] }:=by
 unfold Gh.tail;congr 1
 ·funext j
  by_cases q:j=i
  ·subst q;rw [ql ⟨by omega,h⟩,uC]
  ·rw [sE q]
   by_cases w:j<i
   ·simp only [show j<i+1 from by omega,w]
   ·simp only [show ¬ j<i+1 from by omega,w]
 ·funext j
  by_cases q:j=i
  ·subst q;rw [ql (by omega),uC,h.2,Bool.and_false]
  ·rw [sE q]
   by_cases w:j<i
   ·simp only [show j<i+1 from by omega,w]
   ·simp only [show ¬ j<i+1 from by omega,w]
theorem q7p {L:Nat->Bool}:g.tail L 0=g:=by unfold Gh.tail;simp
theorem tail_at {L:Nat->Bool} {i:Nat}:(g.tail L i).live i=g.live i:=by unfold Gh.tail;simp
theorem q7o {L:Nat->Bool} {i:Nat}:(g.tail L (i+1)).live i=(g.live i && L i):=by unfold Gh.tail;simp
theorem G9 (h:kS H0 H B s b own G gs g tg) (hb:BB b) (hl:∀ c,b.lv c=true->g.live c=true) {ok:Bool} {E:Env} (e0:lk E 0=some (.ptr G 0)) (e1:lk E 1=some (.ptr B 0)) (e7:lk E 7=some (.bool ok)) {Q:AV->AHeap->Prop}
 (hQ:∀ {H'},jM H0 H B s G gs b (g.tail b.lv 4) H'->Q (.bool ok) H'):W M ⟨none,zw⟩ (y8 104) true (c6 M [.tmp 6] (kO Q)) E [] H:=by
 obtain ⟨w0,w4,w104,w13,w29,w40,w127,w109,w18,w35,w45,w59,w66,w115,w24,w50,w71,w93,w126,w125,w78,w84,w87⟩:=OU M ⟨none,zw⟩;simp only [↓qd,qp,aa,reduceIte,reduceEqDiff,w104];refine aR.intro (λ k E Hx=>∃ i:Nat,k=4-i/\i<=4/\E=[(23,.int .i64 (i:Int)),(7,.bool ok),(0,.ptr G 0),(1,.ptr B 0)]/\jM H0 H B s G gs b (g.tail b.lv i) Hx) ?_ ?_
 ·exact ⟨_,_,⟨0,rfl,by omega,rfl,by rw [q7p];exact h.same (Fr.refl H)⟩,by simp only [↓qd,qp,aa,reduceIte,reduceEqDiff,e0,e1,e7]⟩
 rintro k E Hx ⟨i,rfl,hi,rfl,hp⟩
 by_cases q:(i:Int)<4
 ·obtain ⟨s',c7,gs',tg',hx,sub,fx⟩:=hp;have hi4:i<4:=by omega
  have ix1:=LR (G:=G) 1 hi4;have ix5:=LR (G:=G) 5 hi4;have l5:=hx.gh.lL hi4;rw [tail_at] at l5;have wi:ak .i64 ((i:Int)+1)=((i+1:Nat):Int):=by rw [xm (by omega) (by omega)];omega
  -- the second half of a round
  have half:∀ {H2:AHeap},jM H0 H B s G gs b (g.tail b.lv (i+1)) H2->W M ⟨none,zw⟩ (y8 125) true (cw 4 (cT (W M ⟨none,zw⟩ (y8 126)) (pY (λ k E Hx=>∃ i:Nat,k=4-i/\i<=4/\E=[(23,.int .i64 (i:Int)),(7,.bool ok),(0,.ptr G 0),(1,.ptr B 0)]/\jM H0 H B s G gs b (g.tail b.lv i) Hx) [] (4-i) (cw 3 (cT (W M ⟨none,zw⟩ (y8 127)) (c6 M [.tmp 6] (kO Q))))))) [(23,.int .i64 (i:Int)),(7,.bool ok),(0,.ptr G 0),(1,.ptr B 0)] [] H2:=λ {H2} hp2=>by
   obtain ⟨s2,own2,gs2,tg2,h2,sub2,f2⟩:=id hp2;have m5:=h2.gh.lL hi4;rw [q7o] at m5;cases ok with
   | false =>
    simp only [↓qd,qp,aa,reduceIte,reduceEqDiff,w125,kJ,w126,wi];exact ⟨_,_,⟨i+1,rfl,by omega,rfl,hp2⟩,by simp only [↓qd,qp,aa,reduceIte,reduceEqDiff],by omega⟩
   | true =>
    cases hli:(g.live i && b.lv i) with
    | true =>
     rw [hli] at m5;simp only [↓qd,qp,aa,reduceIte,reduceEqDiff,w125,kJ,qi,ix5,m5];simp only [↓qd,qp,aa,reduceIte,reduceEqDiff,w126,wi];exact ⟨_,_,⟨i+1,rfl,by omega,rfl,hp2⟩,by simp only [↓qd,qp,aa,reduceIte,reduceEqDiff],by omega⟩
    | false =>
     rw [hli] at m5;have lvf:b.lv i=false:=by
      cases hb2:b.lv i with
      | false=>rfl
      | true=>rw [hl i hb2,hb2] at hli;cases hli
     simp only [↓qd,qp,aa,reduceIte,reduceEqDiff,w125,kJ,qi,ix5,m5];refine C3.q (rq (M:=M) h2.jL hb i) λ v H3 ⟨hv,hh⟩=>?_;rw [hv,hh,lvf];simp only [↓qd,qp,aa,reduceIte,reduceEqDiff,kJ];simp only [↓qd,qp,aa,reduceIte,reduceEqDiff,w126,wi];exact ⟨_,_,⟨i+1,rfl,by omega,rfl,hp2⟩,by simp only [↓qd,qp,aa,reduceIte,reduceEqDiff],by omega⟩
  have hp':jM H0 H B s G gs b (g.tail b.lv i) Hx:=⟨s',c7,gs',tg',hx,sub,fx⟩
  cases hgi:g.live i with
  | false =>
   rw [hgi] at l5;simp only [↓qd,qp,aa,reduceIte,reduceEqDiff,w109,q,w115,qi,ix5,l5];refine half ?_;rw [qzi (λ w=>by rw [hgi] at w;cases w.1)];exact hp'
  | true =>
   rw [hgi] at l5;simp only [↓qd,qp,aa,reduceIte,reduceEqDiff,w109,q,w115,qi,ix5,l5];refine C3.q (rq (M:=M) hx.jL hb i) λ v H3 ⟨hv,hh⟩=>?_;rw [hv,hh];cases hbi:b.lv i with
   | true =>
    simp only [↓qd,qp,aa,reduceIte,reduceEqDiff];refine half ?_;rw [qzi (λ w=>by rw [hbi] at w;cases w.2)];exact hp'
   | false =>
    obtain ⟨Ha,sa,ha,fa⟩:=hx.gh.lJ hi4 false;obtain ⟨Hb,sb,pb,-⟩:=ha.I5 hi4 (v:=.nils) (xs:=[]) (Fr.refl _) (Own.nil ..) (λ z hz=>absurd rfl hz.1) rfl;simp only [↓qd,qp,aa,reduceIte,reduceEqDiff,qi,ix5,sa,ix1,sb];refine half ?_;rw [q7n ⟨hgi,hbi⟩];refine jM.then fx sub (hx.gp ?_)
    exact Dc.then (fa.mono λ z _ q=>.inl q) (λ _ q=>.inl q) pb
 ·have e4:i=4:=by omega
  subst e4;simp only [↓qd,qp,aa,reduceIte,reduceEqDiff,w109,q,w127];exact hQ hp
end
end Go.Am
namespace Go.Am
open Go.Proofs Ca
open Lang (ints)
variable {M:aA} [MK M]
def cV (x:Bt):List AV:=[.int .i64 x.k,.int .i64 x.c,.int .i64 x.n,.int .u64 x.v,.int .u64 x.o]
theorem uj (a b:Bool) (H:AHeap):Op.eq .bool false [.bool a,.bool b] H=some (.bool (decide (a=b))):=by cases a<;>cases b<;>rfl
section
variable {H0 H:AHeap} {B G:Nat} {s:Bs} {b:Bu} {own tg:Nat->Nat} {gs:Gs} {g:Gh}
theorem kS.zQ (h:kS H0 H B s b own G gs g tg) {z:Int} (h0:0<=z) (hi:z<g.w.length) (y:Int):∃ p H',Op.aQ 1 [gs.wv,.int .i64 z]=some p/\Op.store 1 [p,.int .u64 y] H=some (.undef,H')/\kS H0 H' B s b own G gs { g with w:=g.w.set z.toNat y } tg/\Fr (On (aF gs.wv)) H H':=by
 obtain ⟨p,H',a1,a2,a3,a4⟩:=h.gh.zQ h0 hi y;exact ⟨p,H',a1,a2,⟨h.jL.fr a4 λ z (q:z=aF gs.wv)=>⟨by rw [q];exact h.gh.lo _ (.inr (.inl rfl)),λ w=>h.dj z w (.inr (.inl q))⟩,a3,h.dj⟩,a4⟩
theorem kS.wP (h:kS H0 H B s b own G gs g tg) {g':Gh} {H':AHeap} (h':kS H0 H' B s b own G gs g' tg) (f:Fr (On (aF gs.wv)) H H'):jM H0 H B s G gs b g' H':=⟨s,own,gs,tg,h',λ _ q=>.inl q,f.mono λ z _ (q:z=aF gs.wv)=>.inr (.inr (.inl q))⟩
theorem Oq (h:kS H0 H B s b own G gs g tg) {t:Nat} {x:Bt} (hx:H.get t=some (OR (cV x) vj)) (htl:t<H.next) (ht:¬ ou B s G gs t) {c:Nat} (hc:c<4) (ec:x.c=(c:Int)) (hk:(g.own c).length<=1000) (hr:∀ p ∈ g.own c,0<=p.a/\p.a<g.w.length) {ok:Bool} {E:Env}
 (e0:lk E 0=some (.ptr G 0)) (e1:lk E 1=some (.ptr B 0)) (e5:lk E 5=some (.ptr t 0)) (e7:lk E 7=some (.bool ok)) {Q:au}
 (hQ:∀ {E':Env} {H'},lk E' 0=some (.ptr G 0)->lk E' 1=some (.ptr B 0)->lk E' 7=some (.bool ok)->jM H0 H B s G gs b { g with w:=eX g.w (g.own c) } H'->Q .normal E' [] H') :
 aR (W M ⟨none,zw⟩ (y8 78)) (cw 1 Q) ((20,.int .i64 0)::E) [] H:=by
 obtain ⟨w0,w4,w104,w13,w29,w40,w127,w109,w18,w35,w45,w59,w66,w115,w24,w50,w71,w93,w126,w125,w78,w84,w87⟩:=OU M ⟨none,zw⟩;have sl:du fY 2 H (gs.ov c) (g.own c):=Own.sl (h.gh.own c hc);have ix1:=JX (G:=G) 1 ec hc;refine aR.intro (λ k E Hx=>∃ i:Nat,k=(g.own c).length-i/\i<=(g.own c).length/\E=[(20,.int .i64 (i:Int)),(7,.bool ok),(0,.ptr G 0),(1,.ptr B 0),(5,.ptr t 0)]/\kS H0 Hx B s b own G gs { g with w:=eX g.w ((g.own c).take i) } tg/\Fr (On (aF gs.wv)) H Hx) ?_ ?_
 ·exact ⟨_,_,⟨0,rfl,by omega,rfl,h,Fr.refl _⟩,by simp only [↓qd,qp,aa,reduceIte,reduceEqDiff,e0,e1,e5,e7]⟩
 rintro k E Hx ⟨i,rfl,hi,rfl,hg,fx⟩;have bx:Hx.get t=some (OR (cV x) vj):=by rw [fx.ah _ htl λ (q:t=_)=>ht (.inr (.inr (.inl q)))];exact hx
 have lc:Op.ae [.ptr t 1] Hx=some (.int .i64 x.c):=xp (qz bx) 1;have lo:=hg.gh.lO hc;have slx:du fY 2 Hx (gs.ov c) (g.own c):=Own.sl (hg.gh.own c hc)
 by_cases q:(i:Int)<((g.own c).length:Nat)
 ·obtain ⟨p,hp⟩:∃ p,(g.own c)[i]? = some p:=⟨_,qy (by omega)⟩
  obtain ⟨p0,p1⟩:=hr p (zg hp);have hln:(eX g.w ((g.own c).take i)).length=g.w.length:=NA ..;obtain ⟨pp,Hy,s1,s2,s3,s4⟩:=hg.zQ (z:=p.a) p0 (by show p.a<((eX g.w ((g.own c).take i)).length:Nat);omega) p.v;have ixp:=slx.idx hp (z:=(i:Int)) rfl .i64;have la:Op.ae [.ptr (aF (gs.ov c)) (bI 2 (gs.ov c) i)] Hx=some (.int .i64 p.a):=slx.ae Jk hp (j:=0) (by decide);have lv:Op.ae [.ptr (aF (gs.ov c)) (bI 2 (gs.ov c) i+1)] Hx=some (.int .u64 p.v):=slx.ae Jk hp (j:=1) (by decide);have wi:ak .i64 ((i:Int)+1)=((i+1:Nat):Int):=by rw [xm (by omega) (by omega)];omega
  have tk:(g.own c).take (i+1)=(g.own c).take i ++ [p]:=by rw [yq,hp];rfl
  simp only [↓qd,qp,aa,reduceIte,reduceEqDiff,w78,qi,lc,ix1,lo,slx.len,q];simp only [↓qd,qp,aa,reduceIte,reduceEqDiff,w84,kJ,qi,hg.gh.l0,lc,ix1,lo,ixp,la,lv,s1,s2];simp only [↓qd,qp,aa,reduceIte,reduceEqDiff,w87,wi];refine ⟨_,_,⟨i+1,rfl,by omega,rfl,?_,fx.trans s4 λ _ q=>.inl q⟩,by simp only [↓qd,qp,aa,reduceIte,reduceEqDiff],by omega⟩;rw [tk,q0y];exact s3
 ·have ei:i=(g.own c).length:=by omega
  subst ei;rw [Gw] at hg;simp only [↓qd,qp,aa,reduceIte,reduceEqDiff,w78,qi,lc,ix1,lo,slx.len,q];exact hQ (by simp only [↓qd,qp,aa,reduceIte,reduceEqDiff]) (by simp only [↓qd,qp,aa,reduceIte,reduceEqDiff]) (by simp only [↓qd,qp,aa,reduceIte,reduceEqDiff]) (h.wP hg fx)
end
end Go.Am
namespace Go.Am
open Go.Proofs Ca
open Lang (ints)
variable {M:aA} [MK M]
section
variable {H0 H:AHeap} {B G:Nat} {s:Bs} {b:Bu} {own tg:Nat->Nat} {gs:Gs} {g:Gh}
theorem jM.pre {H1 H':AHeap} {b':Bu} {g':Gh} (f:Fr Em H H1) (h:jM H0 H1 B s G gs b' g' H'):jM H0 H B s G gs b' g' H':=jM.then (f.mono λ _ _ q=>q.elim) (λ _ q=>.inl q) h
theorem iG.Ow (h:iG H0 H G gs g tg) {c:Nat} (hc:c<4) (hk:(g.own c).length<=1000) (p:Pr) {m:Bool} {K:bm->(Nat->AV)->Bool->AV->AHeap->Prop}
 (hK:∀ v H2 o mk,(∃ H3,Op.store 1 [.ptr G (1+c),v] H2=some (.undef,H3)/\Dc H0 H G gs { g with own:=im g.own c (g.own c ++ [p]) } H3)->Fr (aI (gs.ov c)) H H2->K o mk m v H2) :
 gn m (Op.buildSlice Dq 1 [.int .i64 0,.int .u64 0] [(0,2)] [.agg (fY p)]) λ q o mk=>gn q (Op.append Dq 2 16 [gs.ov c,mk H.next] (H.alloc o)) (K o mk):=by
 have hl:((g.own c).flatMap fY).length=(g.own c).length*2:=zV Jk _;refine gE (e:=Dq) (size:=2) (bytes:=16) (h.own c hc) (x:=.agg (fY p)) rfl rfl rfl (by decide) (by omega) (by omega) λ v H2 hv hf hfr=>?_;have hv2:cq fY Dq 2 H2 v (g.own c ++ [p]):=by
  unfold cq;rw [qx,jd];exact hv
 have o1:aT v=true:=by have:=Sl.one (Own.sl hv2);exact this
 obtain ⟨H3,s3,p3,-⟩:=h.I5 hc hf hv2 hfr o1;exact hK v H2 _ _ ⟨H3,s3,p3⟩ hf
theorem CF {x:Bt} {n:No} {c:Nat} (k7:x.k ≠ 7) (ec:x.c=(c:Int)) (hn:b.ns[c]? = some n):b.step x=b.put c (n.call x):=by
 unfold Bu.step;rw [qg k7,ql (by omega),ec,x9,hn]
theorem q7g {x:Bt} (k7:x.k ≠ 7) (hc:¬ (0<=x.c/\x.c<b.ns.length)):b.step x=b:=by
 unfold Bu.step;rw [qg k7];split
 ·rw [xz (by omega)]
 ·rfl
theorem xT {x:Bt} {n:No} {c:Nat} (k7:x.k ≠ 7) (ec:x.c=(c:Int)) (hn:b.ns[c]? = some n):g.bT b x=g.act n x c:=by
 unfold Gh.bT;rw [qg k7,ql (by omega),ec,x9,hn]
theorem q18 {x:Bt} (k7:x.k ≠ 7) (hc:¬ (0<=x.c/\x.c<b.ns.length)):g.bT b x=(g,true):=by
 unfold Gh.bT;rw [qg k7];split
 ·rw [xz (by omega)]
 ·rfl
def rQ (H0 H:AHeap) (B:Nat) (s:Bs) (G:Nat) (gs:Gs) (b:Bu) (g:Gh) (x:Bt) (v:AV) (H':AHeap):Prop:=v=.bool (g.bT b x).2/\jM H0 H B s G gs (b.step x) (g.oU b x) H'
theorem qy1 (h:kS H0 H B s b own G gs g tg) {V:Int->L8} (hI:BuI b V) {k:Nat} (hC:BC b k) (hg:GI b g k) (hk:k<=1000) (x:Bt):zq M zw [.ptr G 0,.ptr B 0,.agg (cV x)] H (rQ H0 H B s G gs b g x):=by
 have hb:=hC.bb hI (by omega);have hb':BB (b.step x):=by
  have:=LV hI x;exact (Nm hC x).bb this (by omega)
 have N4:=hI.N4;refine qnd ?_;obtain ⟨w0,w4,w104,w13,w29,w40,w127,w109,w18,w35,w45,w59,w66,w115,w24,w50,w71,w93,w126,w125,w78,w84,w87⟩:=OU M ⟨none,zw⟩;obtain ⟨H1,e1⟩:∃ X,X=H.alloc (OR (cV x) vj):=⟨_,rfl⟩
 have f1:Fr Em H H1:=by rw [e1];exact (Fr.refl H).alloc _
 have n1:H1.next=H.next+1:=by rw [e1,xd]
 have g1:H1.get H.next=some (OR (cV x) vj):=by rw [e1,qw]
 have h1:=h.em f1;have lowB:∀ z,ou B s G gs z->z<H.next:=λ z hz=>h.low hz
 -- the step stays where it is
 have bx:∀ {H2:AHeap},Fr (ou B s G gs) H1 H2->H2.get H.next=some (OR (cV x) vj):=λ f=>by
  rw [f.ah _ (by omega) λ q=>by have:=lowB _ q;omega];exact g1
 have lx:∀ {H2:AHeap} (j:Nat),H2.get H.next=some (OR (cV x) vj)->Op.ae [.ptr H.next j] H2=(cV x)[j]?:=λ j q=>xp (qz q) j
 have b0:Op.ae [.ptr H.next 0] H1=some (.int .i64 x.k):=lx 0 g1;have b1:Op.ae [.ptr H.next 1] H1=some (.int .i64 x.c):=lx 1 g1;have b2:Op.ae [.ptr H.next 2] H1=some (.int .i64 x.n):=lx 2 g1;have b3:Op.ae [.ptr H.next 3] H1=some (.int .u64 x.v):=lx 3 g1;have b4:Op.ae [.ptr H.next 4] H1=some (.int .u64 x.o):=lx 4 g1;have fin:∀ {E:Env} {H2:AHeap} {g':Gh} {ok:Bool},jM H0 H1 B s G gs (b.step x) g' H2->g'=(g.bT b x).1->ok=(g.bT b x).2->lk E 0=some (.ptr G 0)->lk E 1=some (.ptr B 0)->lk E 7=some (.bool ok) ->
  W M ⟨none,zw⟩ (y8 104) true (c6 M [.tmp 6] (kO (rQ H0 H B s G gs b g x))) E [] H2:=λ {E H2 g' ok} hp eg eo q0 q1 q7=>by
  obtain ⟨s2,o2,gs2,t2,h2,sub2,f2⟩:=hp;subst eg eo;exact G9 h2 hb' (λ c q=>qzf hg x c q) q0 q1 q7 λ hq=>⟨rfl,jM.pre f1 (jM.then f2 sub2 hq)⟩
 -- the call is of no core
 have out:¬ (0<=x.c/\x.c<b.ns.length)->x.k ≠ 7 -> ∀ {E:Env} {H2:AHeap},Fr Em H1 H2->lk E 0=some (.ptr G 0)->lk E 1=some (.ptr B 0)->lk E 7=some (.bool true) ->
  W M ⟨none,zw⟩ (y8 104) true (c6 M [.tmp 6] (kO (rQ H0 H B s G gs b g x))) E [] H2:=λ hc k7 {E H2} f q0 q1 q7 =>
  fin (g':=g) (by rw [q7g k7 hc];exact h1.same f) (by rw [q18 k7 hc]) (by rw [q18 k7 hc]) q0 q1 q7
 have t2:¬ (2:Int)=0:=by decide
 -- the core of the call
 have core:(∃ (c:Nat) (n:No),x.c=(c:Int)/\b.ns[c]? = some n/\c<4) \/ ¬ (0<=x.c/\x.c<b.ns.length):=by
  by_cases q:0<=x.c/\x.c<b.ns.length
  ·exact .inl ⟨x.c.toNat,_,by omega,qy (by omega),by omega⟩
  ·exact .inr q
 by_cases k0:x.k=0
 ·have k7:x.k ≠ 7:=by omega
  have ek:x.k=0:=k0;rcases core with ⟨c,n,ec,hn,hc⟩|hc
  ·simp only [↓qd,qp,aa,reduceIte,reduceEqDiff,w0,<-e1,w4,b0,xc k0,b1,b2];refine C3.q (q4v (M:=M) h1.jL hb (c:=x.c) (by omega) (show b.ns[x.c.toNat]? = some n by rw [ec,x9];exact hn) x.n) λ v H2 ⟨hv,hp⟩=>?_;rw [hv];rw [ec,x9] at hp;have est:b.step x=b.put c ((n.load x.n).1,(n.load x.n).2.2.2.1):=by
    rw [CF k7 ec hn];have:n.call x=((n.load x.n).1,(n.load x.n).2.2.2.1):=by unfold No.call;rw [ql k0]
    rw [this]
   have em:g.bT b x=(g,if (n.load x.n).2.2.1=true/\(n.load x.n).2.2.2.2=0 then decide ((n.load x.n).2.1=(gU (g.own c) x.n).getD (g.at' x.n)) else true):=by rw [xT k7 ec hn];unfold Gh.act;rw [ql k0]
   have hp2:=h1.bp (g:=g) hp;rw [<-est] at hp2;obtain ⟨s2,o2,gs2,tg2,h2,sub2,f2⟩:=id hp2;have c2:Op.ae [.ptr H.next 2] H2=some (.int .i64 x.n):=lx 2 (bx f2);have c1:Op.ae [.ptr H.next 1] H2=some (.int .i64 x.c):=lx 1 (bx f2);have done:∀ {E:Env} {ok:Bool},ok=(g.bT b x).2->lk E 0=some (.ptr G 0)->lk E 1=some (.ptr B 0)->lk E 7=some (.bool ok)->W M ⟨none,zw⟩ (y8 104) true (c6 M [.tmp 6] (kO (rQ H0 H B s G gs b g x))) E [] H2:=λ q q0 q1 q7=>fin (g':=g) hp2 (by rw [em]) q q0 q1 q7;cases hd:(n.load x.n).2.2.1 with
   | false =>
    simp only [↓qd,qp,aa,reduceIte,reduceEqDiff,qn,hd,w13];exact done (ok:=true) (by rw [em,hd];rfl) (by simp only [↓qd,qp,aa,reduceIte,reduceEqDiff]) (by simp only [↓qd,qp,aa,reduceIte,reduceEqDiff]) (by simp only [↓qd,qp,aa,reduceIte,reduceEqDiff])
   | true =>
    by_cases he:(n.load x.n).2.2.2.2=0
    ·have rg:=KE (hI.nw c n hn) (uQ hd);have wl:=hg.len;obtain ⟨y,hy⟩:∃ y,g.w[x.n.toNat]? = some y:=⟨_,qy (by omega)⟩
     have ey:g.at' x.n=y:=by unfold Gh.at';rw [hy];rfl
     have em2:(g.bT b x).2=decide ((n.load x.n).2.1=(gU (g.own c) x.n).getD y):=by rw [em,ey];show (if _ then _ else _)=_;rw [ql ⟨hd,he⟩]
     have hls:=q59 (M:=M) h2.gh hc x.n (xj (hg.gQ c) hk);rw [<-ec] at hls;simp only [↓qd,qp,aa,reduceIte,reduceEqDiff,qn,hd,w13,xc he,c1,c2];refine C3.q hls λ v2 H3 ⟨hh,hv2⟩=>?_;rw [hv2,hh];cases hlp:gU (g.own c) x.n with
     | none =>
      rw [hlp] at em2;obtain ⟨p,w1,w2⟩:=h2.gh.JE rg.1 hy;have gd:(none:Option Int).getD 0=0:=rfl;have gs':(none:Option Int).isSome=false:=rfl;simp only [↓qd,qp,aa,reduceIte,reduceEqDiff,qn,gd,gs',w18,qi,h2.gh.l0,c2,w1,w2];simp only [↓qd,qp,aa,reduceIte,reduceEqDiff,w24];exact done (ok:=decide ((n.load x.n).2.1=y)) em2.symm (by simp only [↓qd,qp,aa,reduceIte,reduceEqDiff]) (by simp only [↓qd,qp,aa,reduceIte,reduceEqDiff]) (by simp only [↓qd,qp,aa,reduceIte,reduceEqDiff])
     | some u =>
      rw [hlp] at em2;have gd:(some u).getD 0=u:=rfl;have gs':(some u).isSome=true:=rfl;simp only [↓qd,qp,aa,reduceIte,reduceEqDiff,qn,gd,gs',w18];simp only [↓qd,qp,aa,reduceIte,reduceEqDiff,w24];exact done (ok:=decide ((n.load x.n).2.1=u)) em2.symm (by simp only [↓qd,qp,aa,reduceIte,reduceEqDiff]) (by simp only [↓qd,qp,aa,reduceIte,reduceEqDiff]) (by simp only [↓qd,qp,aa,reduceIte,reduceEqDiff])
    ·simp only [↓qd,qp,aa,reduceIte,reduceEqDiff,qn,hd,w13,he];exact done (ok:=true) (by rw [em];show _=(if _ then _ else _);rw [qg (λ q=>he q.2)]) (by simp only [↓qd,qp,aa,reduceIte,reduceEqDiff]) (by simp only [↓qd,qp,aa,reduceIte,reduceEqDiff]) (by simp only [↓qd,qp,aa,reduceIte,reduceEqDiff])
  ·simp only [↓qd,qp,aa,reduceIte,reduceEqDiff,w0,<-e1,w4,b0,xc k0,b1,b2];refine C3.q (AB (M:=M) h1.jL hb hc x.n) λ v H2 ⟨hv,f⟩=>?_;rw [hv];simp only [↓qd,qp,aa,reduceIte,reduceEqDiff,qn,w13];exact out hc k7 (by rw [f];exact Fr.refl _) (by simp only [↓qd,qp,aa,reduceIte,reduceEqDiff]) (by simp only [↓qd,qp,aa,reduceIte,reduceEqDiff]) (by simp only [↓qd,qp,aa,reduceIte,reduceEqDiff])
 by_cases k1:x.k=1
 ·have k7:x.k ≠ 7:=by omega
  rcases core with ⟨c,n,ec,hn,hc⟩|hc
  ·simp only [↓qd,qp,aa,reduceIte,reduceEqDiff,w0,<-e1,w4,b0,k0,xc k1,w29,b1,b2,b3];refine C3.q (q24 (M:=M) h1.jL hb (c:=x.c) (by omega) (show b.ns[x.c.toNat]? = some n by rw [ec,x9];exact hn) x.n x.v) λ v H2 ⟨hv,hp⟩=>?_;rw [hv];rw [ec,x9] at hp;have est:b.step x=b.put c ((n.store x.n x.v).1,(n.store x.n x.v).2.2.1):=by
    rw [CF k7 ec hn];have:n.call x=((n.store x.n x.v).1,(n.store x.n x.v).2.2.1):=by unfold No.call;rw [qg k0,ql k1]
    rw [this]
   have em:g.bT b x=(if (n.store x.n x.v).2.1=true/\(n.store x.n x.v).2.2.2=0 then if g.live c=true then { g with own:=im g.own c (g.own c ++ [⟨x.n,x.v⟩]) } else { g with w:=g.w.set x.n.toNat x.v } else g,true):=by rw [xT k7 ec hn];unfold Gh.act;rw [qg k0,ql k1]
   have hp2:=h1.bp (g:=g) hp;rw [<-est] at hp2;obtain ⟨s2,o2,gs2,tg2,h2,sub2,f2⟩:=id hp2;have c1:Op.ae [.ptr H.next 1] H2=some (.int .i64 x.c):=lx 1 (bx f2);have c2:Op.ae [.ptr H.next 2] H2=some (.int .i64 x.n):=lx 2 (bx f2);have c3:Op.ae [.ptr H.next 3] H2=some (.int .u64 x.v):=lx 3 (bx f2);have ix5:=JX (G:=G) 5 ec hc;have ix1:=JX (G:=G) 1 ec hc;have l5:=h2.gh.lL hc;have lo:=h2.gh.lO hc;cases hd:(n.store x.n x.v).2.1 with
   | false =>
    simp only [↓qd,qp,aa,reduceIte,reduceEqDiff,qn,hd,w35];exact fin (g':=g) (ok:=true) hp2 (by rw [em,hd];rfl) (by rw [em]) (by simp only [↓qd,qp,aa,reduceIte,reduceEqDiff]) (by simp only [↓qd,qp,aa,reduceIte,reduceEqDiff]) (by simp only [↓qd,qp,aa,reduceIte,reduceEqDiff])
   | true =>
    by_cases he:(n.store x.n x.v).2.2.2=0
    ·have rg:=KE (hI.nw c n hn) (qzh hd);have wl:=hg.len;cases hgl:g.live c with
     | true =>
      have em1:(g.bT b x).1 = { g with own:=im g.own c (g.own c ++ [⟨x.n,x.v⟩]) }:=by rw [em];show (if _ then _ else _)=_;rw [ql ⟨hd,he⟩,ql hgl]
      rw [hgl] at l5;have bd:Op.build [.int .i64 0,.int .u64 0] [(0,1),(1,1)] [.int .i64 x.n,.int .u64 x.v]=some (.agg (fY ⟨x.n,x.v⟩)):=rfl;simp only [↓qd,qp,aa,reduceIte,reduceEqDiff,qn,hd,xc he,c1,c2,c3,qi,ix5,l5,ix1,lo,kJ,bd];refine h2.gh.Ow hc (xj (hg.gQ c) hk) ⟨x.n,x.v⟩ λ v4 H4 o4 mk4 ⟨H5,s5,p5⟩ f4=>?_;have d1:Op.ae [.ptr H.next 1] H4=some (.int .i64 x.c):=lx 1 (by
       rw [f4.ah _ (by have:=f2.next;omega) λ q=>?_]
       ·exact bx f2
       ·exact (sub2 H.next (.inr (.inr (.inr ⟨c,hc,q⟩)))).elim (λ w=>by have:=lowB _ w;omega) λ w=>by omega)
      simp only [↓qd,qp,aa,reduceIte,reduceEqDiff,d1,Ld,ix1,s5];exact fin (ok:=true) (jM.then f2 sub2 (h2.gp p5)) em1.symm (by rw [em]) (by simp only [↓qd,qp,aa,reduceIte,reduceEqDiff]) (by simp only [↓qd,qp,aa,reduceIte,reduceEqDiff]) (by simp only [↓qd,qp,aa,reduceIte,reduceEqDiff])
     | false =>
      have em1:(g.bT b x).1 = { g with w:=g.w.set x.n.toNat x.v }:=by rw [em];show (if _ then _ else _)=_;rw [ql ⟨hd,he⟩,qg (by rw [hgl];decide)]
      rw [hgl] at l5;obtain ⟨pp,Hy,w1,w2,w3,w4'⟩:=h2.zQ (z:=x.n) rg.1 (by omega) x.v;simp only [↓qd,qp,aa,reduceIte,reduceEqDiff,qn,hd,xc he,c1,c2,c3,qi,ix5,l5];simp only [↓qd,qp,aa,reduceIte,reduceEqDiff,w35,xc he,qi,h2.gh.l0,c2,c3,w1,w2];exact fin (ok:=true) (jM.then f2 sub2 (h2.wP w3 w4')) em1.symm (by rw [em]) (by simp only [↓qd,qp,aa,reduceIte,reduceEqDiff]) (by simp only [↓qd,qp,aa,reduceIte,reduceEqDiff]) (by simp only [↓qd,qp,aa,reduceIte,reduceEqDiff])
    ·simp only [↓qd,qp,aa,reduceIte,reduceEqDiff,qn,hd,he];simp only [↓qd,qp,aa,reduceIte,reduceEqDiff,w35,he];exact fin (g':=g) (ok:=true) hp2 (by rw [em];show _=(if _ then _ else _);rw [qg (λ q=>he q.2)]) (by rw [em]) (by simp only [↓qd,qp,aa,reduceIte,reduceEqDiff]) (by simp only [↓qd,qp,aa,reduceIte,reduceEqDiff]) (by simp only [↓qd,qp,aa,reduceIte,reduceEqDiff])
  ·simp only [↓qd,qp,aa,reduceIte,reduceEqDiff,w0,<-e1,w4,b0,k0,xc k1,w29,b1,b2,b3];refine C3.q (uc (M:=M) h1.jL hb hc x.n x.v) λ v H2 ⟨hv,f⟩=>?_;rw [hv];simp only [↓qd,qp,aa,reduceIte,reduceEqDiff,qn,w35];exact out hc k7 (by rw [f];exact Fr.refl _) (by simp only [↓qd,qp,aa,reduceIte,reduceEqDiff]) (by simp only [↓qd,qp,aa,reduceIte,reduceEqDiff]) (by simp only [↓qd,qp,aa,reduceIte,reduceEqDiff])
 by_cases k2:x.k=2
 ·have k7:x.k ≠ 7:=by omega
  rcases core with ⟨c,n,ec,hn,hc⟩|hc
  ·simp only [↓qd,qp,aa,reduceIte,reduceEqDiff,w0,<-e1,w4,b0,k0,k1,w40,xc k2,b1,b2,b3,b4,kJ];refine C3.q (ue (M:=M) h1.jL hb (c:=x.c) (by omega) (show b.ns[x.c.toNat]? = some n by rw [ec,x9];exact hn) x.n x.o x.v) λ v H2 ⟨hv,hp⟩=>?_;rw [hv];rw [ec,x9] at hp;have est:b.step x=b.put c (n.fq x.n x.o x.v):=by
    rw [CF k7 ec hn];have:n.call x=n.fq x.n x.o x.v:=by unfold No.call;rw [qg k0,qg k1,ql k2]
    rw [this]
   have em:g.bT b x=(if (n.cS x.n x.o).2.1=true/\(n.cS x.n x.o).2.2=0 then if (n.cS x.n x.o).1=true then { g with w:=g.w.set x.n.toNat x.v } else g else g,if (n.cS x.n x.o).2.1=true/\(n.cS x.n x.o).2.2=0 then decide ((n.cS x.n x.o).1=decide (g.at' x.n=x.o)) else true):=by rw [xT k7 ec hn];unfold Gh.act;rw [qg k0,qg k1,ql k2]
   have hp2:=h1.bp (g:=g) hp;rw [<-est] at hp2;obtain ⟨s2,o2,gs2,tg2,h2,sub2,f2⟩:=id hp2;have c2:Op.ae [.ptr H.next 2] H2=some (.int .i64 x.n):=lx 2 (bx f2);have c3:Op.ae [.ptr H.next 3] H2=some (.int .u64 x.v):=lx 3 (bx f2);have c4:Op.ae [.ptr H.next 4] H2=some (.int .u64 x.o):=lx 4 (bx f2);cases hd:(n.cS x.n x.o).2.1 with
   | false =>
    have hd':¬ ((n.cS x.n x.o).2.1=true/\(n.cS x.n x.o).2.2=0):=λ q=>by rw [hd] at q;cases q.1
    simp only [↓qd,qp,aa,reduceIte,reduceEqDiff,qn,kJ,hd,w45];exact fin (g':=g) (ok:=true) hp2 (by rw [em];show _=(if _ then _ else _);rw [qg hd']) (by rw [em];show _=(if _ then _ else _);rw [qg hd']) (by simp only [↓qd,qp,aa,reduceIte,reduceEqDiff]) (by simp only [↓qd,qp,aa,reduceIte,reduceEqDiff]) (by simp only [↓qd,qp,aa,reduceIte,reduceEqDiff])
   | true =>
    by_cases he:(n.cS x.n x.o).2.2=0
    ·have rg:=KE (hI.nw c n hn) (xB hd);have wl:=hg.len;obtain ⟨y,hy⟩:∃ y,g.w[x.n.toNat]? = some y:=⟨_,qy (by omega)⟩
     have ey:g.at' x.n=y:=by unfold Gh.at';rw [hy];rfl
     obtain ⟨p,w1,w2⟩:=h2.gh.JE rg.1 hy;have em2:(g.bT b x).2=decide ((n.cS x.n x.o).1=decide (y=x.o)):=by rw [em,ey];show (if _ then _ else _)=_;rw [ql ⟨hd,he⟩]
     cases ht:(n.cS x.n x.o).1 with
     | true =>
      have em1:(g.bT b x).1 = { g with w:=g.w.set x.n.toNat x.v }:=by rw [em];show (if _ then _ else _)=_;rw [ql ⟨hd,he⟩,ql ht]
      rw [ht] at em2;obtain ⟨pp,Hy,u1,u2,u3,u4⟩:=h2.zQ (z:=x.n) rg.1 (by omega) x.v;simp only [↓qd,qp,aa,reduceIte,reduceEqDiff,qn,kJ,hd,ht,w45,xc he,qi,h2.gh.l0,c2,c4,w1,w2,uj];simp only [↓qd,qp,aa,reduceIte,reduceEqDiff,w50,qi,h2.gh.l0,c2,c3,u1,u2];exact fin (jM.then f2 sub2 (h2.wP u3 u4)) em1.symm em2.symm (by simp only [↓qd,qp,aa,reduceIte,reduceEqDiff]) (by simp only [↓qd,qp,aa,reduceIte,reduceEqDiff]) (by simp only [↓qd,qp,aa,reduceIte,reduceEqDiff])
     | false =>
      have em1:(g.bT b x).1=g:=by rw [em];show (if _ then _ else _)=_;rw [ql ⟨hd,he⟩,qg (by rw [ht];decide)]
      rw [ht] at em2;simp only [↓qd,qp,aa,reduceIte,reduceEqDiff,qn,kJ,hd,ht,w45,xc he,qi,h2.gh.l0,c2,c4,w1,w2,uj];simp only [↓qd,qp,aa,reduceIte,reduceEqDiff,w50];exact fin hp2 em1.symm em2.symm (by simp only [↓qd,qp,aa,reduceIte,reduceEqDiff]) (by simp only [↓qd,qp,aa,reduceIte,reduceEqDiff]) (by simp only [↓qd,qp,aa,reduceIte,reduceEqDiff])
    ·have hd':¬ ((n.cS x.n x.o).2.1=true/\(n.cS x.n x.o).2.2=0):=λ q=>he q.2;simp only [↓qd,qp,aa,reduceIte,reduceEqDiff,qn,kJ,hd,w45,he];exact fin (g':=g) (ok:=true) hp2 (by rw [em];show _=(if _ then _ else _);rw [qg hd']) (by rw [em];show _=(if _ then _ else _);rw [qg hd']) (by simp only [↓qd,qp,aa,reduceIte,reduceEqDiff]) (by simp only [↓qd,qp,aa,reduceIte,reduceEqDiff]) (by simp only [↓qd,qp,aa,reduceIte,reduceEqDiff])
  ·simp only [↓qd,qp,aa,reduceIte,reduceEqDiff,w0,<-e1,w4,b0,k0,k1,w40,xc k2,b1,b2,b3,b4,kJ];refine C3.q (Eo (M:=M) h1.jL hb hc x.n x.o x.v) λ v H2 ⟨hv,f⟩=>?_;rw [hv];simp only [↓qd,qp,aa,reduceIte,reduceEqDiff,qn,kJ,w45];exact out hc k7 (by rw [f];exact Fr.refl _) (by simp only [↓qd,qp,aa,reduceIte,reduceEqDiff]) (by simp only [↓qd,qp,aa,reduceIte,reduceEqDiff]) (by simp only [↓qd,qp,aa,reduceIte,reduceEqDiff])
 by_cases k3:x.k=3
 ·have k7:x.k ≠ 7:=by omega
  rcases core with ⟨c,n,ec,hn,hc⟩|hc
  ·simp only [↓qd,qp,aa,reduceIte,reduceEqDiff,w0,<-e1,w4,b0,k0,k1,w40,k2,xc k3,w59,b1];refine C3.q (q2s (M:=M) h1.jL hb (c:=x.c) (by omega) (show b.ns[x.c.toNat]? = some n by rw [ec,x9];exact hn)) λ v H2 ⟨hv,hp⟩=>?_;rw [hv];rw [ec,x9] at hp;have est:b.step x=b.put c (n.begin,[]):=by
    rw [CF k7 ec hn];have:n.call x=(n.begin,[]):=by unfold No.call;rw [qg k0,qg k1,qg k2,ql k3]
    rw [this]
   have em:g.bT b x=(if n.live=true then g else { g with live:=im g.live c true },true):=by rw [xT k7 ec hn];unfold Gh.act;rw [qg k0,qg k1,qg k2,ql k3]
   have hp2:=h1.bp (g:=g) hp;rw [<-est] at hp2;obtain ⟨s2,o2,gs2,tg2,h2,sub2,f2⟩:=id hp2;have c1:Op.ae [.ptr H.next 1] H2=some (.int .i64 x.c):=lx 1 (bx f2);have ix5:=JX (G:=G) 5 ec hc
   by_cases hl:n.live=true
   ·have t41:¬ (41:Int)=0:=by decide
    rw [ql hl];simp only [↓qd,qp,aa,reduceIte,reduceEqDiff,t41];exact fin (g':=g) (ok:=true) hp2 (by rw [em];show _=(if _ then _ else _);rw [ql hl]) (by rw [em]) (by simp only [↓qd,qp,aa,reduceIte,reduceEqDiff]) (by simp only [↓qd,qp,aa,reduceIte,reduceEqDiff]) (by simp only [↓qd,qp,aa,reduceIte,reduceEqDiff])
   ·have t0:=xc (show (0:Int)=0 from rfl);obtain ⟨Ha,sa,ha,fa⟩:=h2.gh.lJ hc true;rw [qg hl];simp only [↓qd,qp,aa,reduceIte,reduceEqDiff,t0,qi,c1,ix5,sa];exact fin (ok:=true) (jM.then f2 sub2 (h2.gp ⟨_,_,ha,λ _ q=>.inl q,fa.mono λ z _ q=>.inl q⟩)) (by rw [em];show _=(if _ then _ else _);rw [qg hl]) (by rw [em]) (by simp only [↓qd,qp,aa,reduceIte,reduceEqDiff]) (by simp only [↓qd,qp,aa,reduceIte,reduceEqDiff]) (by simp only [↓qd,qp,aa,reduceIte,reduceEqDiff])
  ·simp only [↓qd,qp,aa,reduceIte,reduceEqDiff,w0,<-e1,w4,b0,k0,k1,w40,k2,xc k3,w59,b1];refine C3.q (vT (M:=M) h1.jL hb hc) λ v H2 ⟨hv,f⟩=>?_;rw [hv];simp only [↓qd,qp,aa,reduceIte,reduceEqDiff,t2];exact out hc k7 (by rw [f];exact Fr.refl _) (by simp only [↓qd,qp,aa,reduceIte,reduceEqDiff]) (by simp only [↓qd,qp,aa,reduceIte,reduceEqDiff]) (by simp only [↓qd,qp,aa,reduceIte,reduceEqDiff])
 by_cases k4:x.k=4
 ·have k7:x.k ≠ 7:=by omega
  rcases core with ⟨c,n,ec,hn,hc⟩|hc
  ·simp only [↓qd,qp,aa,reduceIte,reduceEqDiff,w0,<-e1,w4,b0,k0,k1,w40,k2,k3,w66,xc k4,b1];refine C3.q (qzr (M:=M) h1.jL hb (c:=x.c) (by omega) (show b.ns[x.c.toNat]? = some n by rw [ec,x9];exact hn)) λ v H2 ⟨hv,hp⟩=>?_;rw [hv];rw [ec,x9] at hp;have est:b.step x=b.put c (n.bj,[]):=by
    rw [CF k7 ec hn];have:n.call x=(n.bj,[]):=by unfold No.call;rw [qg k0,qg k1,qg k2,qg k3,ql k4]
    rw [this]
   have em:g.bT b x=(if n.live=true then { g with w:=eX g.w (g.own c) } else g,true):=by rw [xT k7 ec hn];unfold Gh.act;rw [qg k0,qg k1,qg k2,qg k3,ql k4]
   have hp2:=h1.bp (g:=g) hp;rw [<-est] at hp2;obtain ⟨s2,o2,gs2,tg2,h2,sub2,f2⟩:=id hp2
   by_cases hl:n.live=true
   ·have t0:=xc (show (0:Int)=0 from rfl);have wl:=hg.len;rw [ql hl];simp only [↓qd,qp,aa,reduceIte,reduceEqDiff,w71,t0];refine Oq h2 (bx f2) (by have:=f2.next;omega) (λ q=>(sub2 H.next q).elim (λ w=>by have:=lowB _ w;omega) λ w=>by omega) hc ec (xj (hg.gQ c) hk) (λ p hp=>by have:=hg.own c p hp;omega) (ok:=true) (by simp only [↓qd,qp,aa,reduceIte,reduceEqDiff]) (by simp only [↓qd,qp,aa,reduceIte,reduceEqDiff]) (by simp only [↓qd,qp,aa,reduceIte,reduceEqDiff]) (by simp only [↓qd,qp,aa,reduceIte,reduceEqDiff]) λ q0 q1 q7 hp3=>?_;simp only [↓qd,qp,aa,reduceIte,reduceEqDiff];exact fin (ok:=true) (jM.then f2 sub2 hp3) (by rw [em];show _=(if _ then _ else _);rw [ql hl]) (by rw [em]) q0 q1 q7
   ·have t40:¬ (40:Int)=0:=by decide
    rw [qg hl];simp only [↓qd,qp,aa,reduceIte,reduceEqDiff,w71,t40];exact fin (g':=g) (ok:=true) hp2 (by rw [em];show _=(if _ then _ else _);rw [qg hl]) (by rw [em]) (by simp only [↓qd,qp,aa,reduceIte,reduceEqDiff]) (by simp only [↓qd,qp,aa,reduceIte,reduceEqDiff]) (by simp only [↓qd,qp,aa,reduceIte,reduceEqDiff])
  ·simp only [↓qd,qp,aa,reduceIte,reduceEqDiff,w0,<-e1,w4,b0,k0,k1,w40,k2,k3,w66,xc k4,b1];refine C3.q (q4n (M:=M) h1.jL hb hc) λ v H2 ⟨hv,f⟩=>?_;rw [hv];simp only [↓qd,qp,aa,reduceIte,reduceEqDiff,w71,t2];exact out hc k7 (by rw [f];exact Fr.refl _) (by simp only [↓qd,qp,aa,reduceIte,reduceEqDiff]) (by simp only [↓qd,qp,aa,reduceIte,reduceEqDiff]) (by simp only [↓qd,qp,aa,reduceIte,reduceEqDiff])
 by_cases k5:x.k=5
 ·have k7:x.k ≠ 7:=by omega
  rcases core with ⟨c,n,ec,hn,hc⟩|hc
  ·simp only [↓qd,qp,aa,reduceIte,reduceEqDiff,w0,<-e1,w4,b0,k0,k1,w40,k2,k3,w66,k4,xc k5,b1,b2];refine C3.q (qvm (M:=M) h1.jL hb (c:=x.c) (by omega) (show b.ns[x.c.toNat]? = some n by rw [ec,x9];exact hn) x.n) λ v H2 hp=>?_;simp only [↓qd,qp,aa,reduceIte,reduceEqDiff];rw [ec,x9] at hp;refine fin (g':=g) (ok:=true) ?_ ?_ ?_ (by simp only [↓qd,qp,aa,reduceIte,reduceEqDiff]) (by simp only [↓qd,qp,aa,reduceIte,reduceEqDiff]) (by simp only [↓qd,qp,aa,reduceIte,reduceEqDiff])
   ·rw [CF k7 ec hn];have:n.call x=((n.abort x.n).1,[]):=by unfold No.call;rw [qg k0,qg k1,qg k2,qg k3,qg k4,ql k5]
    rw [this];exact h1.bp hp
   ·rw [xT k7 ec hn];unfold Gh.act;rw [qg k0,qg k1,qg k2,qg k3,qg k4]
   ·rw [xT k7 ec hn];unfold Gh.act;rw [qg k0,qg k1,qg k2,qg k3,qg k4]
  ·simp only [↓qd,qp,aa,reduceIte,reduceEqDiff,w0,<-e1,w4,b0,k0,k1,w40,k2,k3,w66,k4,xc k5,b1,b2];refine C3.q (qzq (M:=M) h1.jL hb hc x.n) λ v H2 f=>?_;simp only [↓qd,qp,aa,reduceIte,reduceEqDiff];exact out hc k7 f (by simp only [↓qd,qp,aa,reduceIte,reduceEqDiff]) (by simp only [↓qd,qp,aa,reduceIte,reduceEqDiff]) (by simp only [↓qd,qp,aa,reduceIte,reduceEqDiff])
 by_cases k6:x.k=6
 ·have k7:x.k ≠ 7:=by omega
  rcases core with ⟨c,n,ec,hn,hc⟩|hc
  ·simp only [↓qd,qp,aa,reduceIte,reduceEqDiff,w0,<-e1,w4,b0,k0,k1,w40,k2,k3,w66,k4,k5,w93,xc k6,b1,b2];refine C3.q (qxo (M:=M) h1.jL hb (c:=x.c) (by omega) (show b.ns[x.c.toNat]? = some n by rw [ec,x9];exact hn) x.n) λ v H2 hp=>?_;simp only [↓qd,qp,aa,reduceIte,reduceEqDiff];rw [ec,x9] at hp;refine fin (g':=g) (ok:=true) ?_ ?_ ?_ (by simp only [↓qd,qp,aa,reduceIte,reduceEqDiff]) (by simp only [↓qd,qp,aa,reduceIte,reduceEqDiff]) (by simp only [↓qd,qp,aa,reduceIte,reduceEqDiff])
   ·rw [CF k7 ec hn];have:n.call x=n.aH x.n:=by unfold No.call;rw [qg k0,qg k1,qg k2,qg k3,qg k4,qg k5,ql k6]
    rw [this];exact h1.bp hp
   ·rw [xT k7 ec hn];unfold Gh.act;rw [qg k0,qg k1,qg k2,qg k3,qg k4]
   ·rw [xT k7 ec hn];unfold Gh.act;rw [qg k0,qg k1,qg k2,qg k3,qg k4]
  ·simp only [↓qd,qp,aa,reduceIte,reduceEqDiff,w0,<-e1,w4,b0,k0,k1,w40,k2,k3,w66,k4,k5,w93,xc k6,b1,b2];refine C3.q (q2t (M:=M) h1.jL hb hc x.n) λ v H2 f=>?_;simp only [↓qd,qp,aa,reduceIte,reduceEqDiff];exact out hc k7 (by rw [f];exact Fr.refl _) (by simp only [↓qd,qp,aa,reduceIte,reduceEqDiff]) (by simp only [↓qd,qp,aa,reduceIte,reduceEqDiff]) (by simp only [↓qd,qp,aa,reduceIte,reduceEqDiff])
 by_cases k7:x.k=7
 ·have em:g.bT b x=(g,true):=by unfold Gh.bT;rw [ql k7]
  simp only [↓qd,qp,aa,reduceIte,reduceEqDiff,w0,<-e1,w4,b0,k0,k1,w40,k2,k3,w66,k4,k5,w93,k6,xc k7,b1,b2]
  by_cases q:0<=x.n/\x.n<b.fl.length
  ·obtain ⟨m,hm⟩:∃ m,b.fl[x.n.toNat]? = some m:=⟨_,qy (by omega)⟩
   have est:b.step x=b.ti x.n.toNat:=by unfold Bu.step;rw [ql k7,ql q]
   have hd:=qxr (M:=M) h1.jL hb hI (λ y hy=>xj (hC.wt y hy) (by omega)) hm;rw [Ht q.1] at hd;refine C3.q hd λ v H2 ⟨hv,hp⟩=>?_;rw [hv];obtain ⟨H3,e3⟩:∃ X,X=H2.alloc (OR (ai ⟨0,0,0,.zero⟩) qt):=⟨_,rfl⟩
   have f3:Fr Em H2 H3:=by rw [e3];exact (Fr.refl H2).alloc _
   have g3:H3.get H2.next=some (OR (ai ⟨0,0,0,.zero⟩) qt):=by rw [e3,qw]
   have s3:=iH g3 (xq _) (xq m) (vk m);have t0:=xc (show (0:Int)=0 from rfl);simp only [↓qd,qp,aa,reduceIte,reduceEqDiff,qn,mZ,<-e3,s3,t0];refine fin (g':=g) (ok:=true) ?_ (by rw [em]) (by rw [em]) (by simp only [↓qd,qp,aa,reduceIte,reduceEqDiff]) (by simp only [↓qd,qp,aa,reduceIte,reduceEqDiff]) (by simp only [↓qd,qp,aa,reduceIte,reduceEqDiff]);rw [est];exact (h1.bp hp).em (f3.set (.inr (qf _)) _)
  ·have est:b.step x=b:=by unfold Bu.step;rw [ql k7,qg q]
   refine C3.q (q2w (M:=M) h1.jL hb q) λ v H2 ⟨hv,f⟩=>?_;rw [hv];obtain ⟨H3,e3⟩:∃ X,X=H2.alloc (OR (ai ⟨0,0,0,.zero⟩) qt):=⟨_,rfl⟩
   have f3:Fr Em H2 H3:=by rw [e3];exact (Fr.refl H2).alloc _
   have g3:H3.get H2.next=some (OR (ai ⟨0,0,0,.zero⟩) qt):=by rw [e3,qw]
   have s3:=iH g3 (xq _) (xq ⟨0,0,0,.zero⟩) (vk _);have t50:¬ (50:Int)=0:=by decide
   have t50':=xc (show (50:Int)=50 from rfl);simp only [↓qd,qp,aa,reduceIte,reduceEqDiff,qn,mZ,<-e3,s3,t50,t50'];refine fin (g':=g) (ok:=true) ?_ (by rw [em]) (by rw [em]) (by simp only [↓qd,qp,aa,reduceIte,reduceEqDiff]) (by simp only [↓qd,qp,aa,reduceIte,reduceEqDiff]) (by simp only [↓qd,qp,aa,reduceIte,reduceEqDiff]);rw [est];exact (h1.same f).em (f3.set (.inr (qf _)) _)
 ·simp only [↓qd,qp,aa,reduceIte,reduceEqDiff,w0,<-e1,w4,b0,k0,k1,w40,k2,k3,w66,k4,k5,w93,k6,k7,b1,b2];rcases core with ⟨c,n,ec,hn,hc⟩|hc
  ·refine fin (g':=g) (ok:=true) ?_ ?_ ?_ (by simp only [↓qd,qp,aa,reduceIte,reduceEqDiff]) (by simp only [↓qd,qp,aa,reduceIte,reduceEqDiff]) (by simp only [↓qd,qp,aa,reduceIte,reduceEqDiff])
   ·rw [CF k7 ec hn];have:n.call x=(n,[]):=by unfold No.call;rw [qg k0,qg k1,qg k2,qg k3,qg k4,qg k5,qg k6]
    rw [this,tf hn];exact h1.same (Fr.refl _)
   ·rw [xT k7 ec hn];unfold Gh.act;rw [qg k0,qg k1,qg k2,qg k3,qg k4]
   ·rw [xT k7 ec hn];unfold Gh.act;rw [qg k0,qg k1,qg k2,qg k3,qg k4]
  ·exact out hc k7 (Fr.refl _) (by simp only [↓qd,qp,aa,reduceIte,reduceEqDiff]) (by simp only [↓qd,qp,aa,reduceIte,reduceEqDiff]) (by simp only [↓qd,qp,aa,reduceIte,reduceEqDiff])
end
end Go.Am
