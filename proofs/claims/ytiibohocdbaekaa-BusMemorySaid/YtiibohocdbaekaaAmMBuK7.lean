/- BuK7: BsA BsB NiP BsC. -/
import Derived.Test.YtiibohocdbaekaaAmMCodeK
import Derived.Test.YtiibohocdbaekaaAmMBuK6
import Derived.Test.YtiibohocdbaekaaAmMB4
import Derived.Test.YtiibohocdbaekaaAmMNmKa
set_option linter.unusedVariables false
set_option linter.unusedSimpArgs false
set_option linter.unusedSectionVars false
set_option maxRecDepth 100000
open Nat (reduceEqDiff)
namespace Go.Am
open Go.Proofs Ca
open Lang (ints)
variable {M:aL} [MK M]
structure Na where
 r:Nat
 b:Nat
 sv:AV
 bv:AV
 ks:List Nat
structure Bs where
 D:Nat
 mp:Nat
 lv:AV
 ev:AV
 xs:List (De × AV)
 nv:AV
 fv:AV
 ad:List Na
def pJ (r:Nat):List AV:=[.ptr r 0]
theorem MM (r:Nat):(pJ r).length=1:=rfl
def Na.w (A:Na):Nat->Prop:=eM A.r A.b A.sv A.bv
def Bs.dw (s:Bs):Nat->Prop:=gY s.D s.mp s.lv s.ev s.xs
def gE (B:Nat) (s:Bs) (z:Nat):Prop:=z=B\/s.dw z\/bC s.nv z\/bC s.fv z \/ ∃ (c:Nat) (A:Na),s.ad[c]? = some A/\A.w z
structure cR (H0 H:AHeap) (B:Nat) (s:Bs) (b:Bu) (own:Nat->Nat):Prop where
 row:H.get B=some (OR [.ptr s.D 0,s.nv,s.fv,.int .i64 (b.l.length:Int)] xW)
 lt:B<H.next
 d:iv H s.D s.mp s.lv s.ev b.ns.length b.m s.xs
 dx:s.xs.map Prod.fst=b.l
 nv:d9 pJ zT 1 H s.nv (s.ad.map Na.r)
 no:∀ (c:Nat) (n:No) (A:Na),b.ns[c]? = some n->s.ad[c]? = some A->bY H0 H A.r A.b A.sv A.bv n A.ks
 al:s.ad.length=b.ns.length
 fl:Sk ai qo 11 H s.fv b.fl
 oB:own B=0
 oD:∀ z,s.dw z->own z=1
 oN:∀ z,bC s.nv z->own z=2
 oF:∀ z,bC s.fv z->own z=3
 oC:∀ (c:Nat) (A:Na),s.ad[c]? = some A -> ∀ z,A.w z->own z=4+c
 lo:∀ z,gE B s z->H0.next<=z
theorem bY.low {H0 H:AHeap} {r b:Nat} {sv bv:AV} {n:No} {ks:List Nat} (h:bY H0 H r b sv bv n ks) {z:Nat} (hz:eM r b sv bv z):z<H.next:=by
 rcases hz with rfl|(rfl|rfl) | hz
 ·exact h.lt
 ·exact h.ca.lt
 ·exact h.ca.sl.lt
 ·exact (h.bk.fresh z hz).2
section
variable {H0 H:AHeap} {B:Nat} {s:Bs} {b:Bu} {own:Nat->Nat}
theorem cR.cu (h:cR H0 H B s b own) {c:Nat} {n:No} (hn:b.ns[c]? = some n):∃ A,s.ad[c]? = some A/\bY H0 H A.r A.b A.sv A.bv n A.ks:=by
 have hl:=(qj.1 hn).1;have ha:s.ad[c]? = some (s.ad[c]'(by rw [h.al];exact hl)):=qz _;exact ⟨_,ha,h.no c n _ hn ha⟩
theorem cR.low (h:cR H0 H B s b own) {z:Nat} (hz:gE B s z):z<H.next:=by
 rcases hz with rfl|hz|hz|hz|⟨c,A,hA,hz⟩
 ·exact h.lt
 ·exact h.d.low hz
 ·exact Own.lt h.nv z hz
 ·exact h.fl.lt z hz
 ·have hl:=(qj.1 hA).1;have hn:b.ns[c]? = some (b.ns[c]'(by rw [<-h.al];exact hl)):=qz _;exact (h.no c _ A hn hA).low hz
theorem cR.fr {H':AHeap} {W:Nat->Prop} (h:cR H0 H B s b own) (f:Fr W H H') (hw:∀ z,W z->H0.next<=z /\ ¬ gE B s z):cR H0 H' B s b own :=
 ⟨by rw [f.ae _ h.lt (λ q=>(hw _ q).2 (.inl rfl))];exact h.row,qp h.lt f.next,h.d.fr f (λ z q w=>(hw z q).2 (.inr (.inl w))),h.dx,Own.fr h.nv f (λ z hz q=>(hw z q).2 (.inr (.inr (.inl hz)))),
  λ c n A hn hA=>(h.no c n A hn hA).off f λ z q=>⟨(hw z q).1,λ w=>(hw z q).2 (.inr (.inr (.inr (.inr ⟨c,A,hA,w⟩))))⟩,h.al,h.fl.fr f (λ z hz q=>(hw z q).2 (.inr (.inr (.inr (.inl hz))))),h.oB,h.oD,h.oN,h.oF,h.oC,h.lo⟩
theorem cR.em {H':AHeap} (h:cR H0 H B s b own) (f:Fr Em H H'):cR H0 H' B s b own:=h.fr f λ z q=>q.elim
theorem cR.l1 (h:cR H0 H B s b own):Op.aa [.ptr B 1] H=some s.nv:=ze (xb h.row) 1
theorem cR.l0 (h:cR H0 H B s b own):Op.aa [.ptr B 0] H=some (.ptr s.D 0):=ze (xb h.row) 0
theorem cR.l2 (h:cR H0 H B s b own):Op.aa [.ptr B 2] H=some s.fv:=ze (xb h.row) 2
theorem cR.l3 (h:cR H0 H B s b own):Op.aa [.ptr B 3] H=some (.int .i64 (b.l.length:Int)):=ze (xb h.row) 3
def eh (own:Nat->Nat) (n k z:Nat):Nat:=if z<n then own z else k
theorem cR.node (h:cR H0 H B s b own) {c:Nat} {n n':No} {A:Na} {H':AHeap} (hn:b.ns[c]? = some n) (hA:s.ad[c]? = some A) (ht:lQ H0 H A.r A.b A.sv A.bv n' H') :
 ∃ s' own2,cR H0 H' B s' { b with ns:=b.ns.set c n' } own2/\(∀ z,gE B s' z->gE B s z\/H.next<=z)/\Fr (gE B s) H H':=by
 obtain ⟨bv',ks',hr,f,hb⟩:=ht;have hcl:=(qj.1 hn).1;have hal:=(qj.1 hA).1;have fB:Fr (gE B s) H H':=f.mono λ z _ q=>.inr (.inr (.inr (.inr ⟨c,A,hA,q⟩)));have nw:∀ z,eM A.r A.b A.sv A.bv z->own z=4+c:=h.oC c A hA;have has:∀ (d:Nat) (A2:Na),(s.ad.set c { A with bv:=bv',ks:=ks' })[d]? = some A2->(d=c/\A2 = { A with bv:=bv',ks:=ks' })\/d ≠ c/\s.ad[d]? = some A2:=λ d A2 hd=>by
  by_cases q:d=c
  ·subst q;rw [xg hal] at hd;injection hd with hd;exact .inl ⟨rfl,hd.symm⟩
  ·rw [xt (ve q)] at hd;exact .inr ⟨q,hd⟩
 have hW:∀ z,gE B { s with ad:=s.ad.set c { A with bv:=bv',ks:=ks' } } z->gE B s z\/H.next<=z:=λ z hz=>by
  rcases hz with hz|hz|hz|hz|⟨d,A2,hd,hz⟩
  ·exact .inl (.inl hz)
  ·exact .inl (.inr (.inl hz))
  ·exact .inl (.inr (.inr (.inl hz)))
  ·exact .inl (.inr (.inr (.inr (.inl hz))))
  ·rcases has d A2 hd with ⟨rfl,rfl⟩|⟨q,hd⟩
   ·rcases hz with hz|hz|hz
    ·exact .inl (.inr (.inr (.inr (.inr ⟨d,A,hA,.inl hz⟩))))
    ·exact .inl (.inr (.inr (.inr (.inr ⟨d,A,hA,.inr (.inl hz)⟩))))
    ·rcases hb z hz with w|w
     ·exact .inl (.inr (.inr (.inr (.inr ⟨d,A,hA,.inr (.inr w)⟩))))
     ·exact .inr w
   ·exact .inl (.inr (.inr (.inr (.inr ⟨d,A2,hd,hz⟩))))
 have H0n:H0.next<=H.next:=by have:=h.lo B (.inl rfl);have:=h.lt;omega
 have ne:∀ {z k:Nat},own z=k->k ≠ 4+c -> ¬ eM A.r A.b A.sv A.bv z:=λ e1 e2 q=>e2 (by rw [<-e1];exact nw _ q);have ow:∀ {z:Nat},z<H.next->eh own H.next (4+c) z=own z:=λ q=>qm q
 refine ⟨{ s with ad:=s.ad.set c { A with bv:=bv',ks:=ks' } },eh own H.next (4+c),⟨?_,qp h.lt f.next,?_,h.dx,?_,λ d n2 A2 hn2 hA2=>?_,?_,?_,?_,λ z hz=>?_,λ z hz=>?_,λ z hz=>?_,λ d A2 hd z hz=>?_,λ z hz=>?_⟩,hW,fB⟩
 ·rw [f.ae _ h.lt (ne h.oB (by omega))];exact h.row
 ·simp only [xc];exact h.d.fr f λ z q w=>ne (h.oD z w) (by omega) q
 ·have:(s.ad.set c { A with bv:=bv',ks:=ks' }).map Na.r=s.ad.map Na.r:=by
   rw [List.map_set];apply ky;intro j
   by_cases q:j=c
   ·rw [q,xg (by rw [zg];exact hal),xj,hA];rfl
   ·rw [xt (ve q)]
  simp only [this];exact Own.fr h.nv f λ z hz q=>ne (h.oN z hz) (by omega) q
 ·have hn2:(b.ns.set c n')[d]? = some n2:=hn2;rcases has d A2 hA2 with ⟨rfl,rfl⟩|⟨q,hd⟩
  ·rw [xg hcl] at hn2;injection hn2 with hn2;subst hn2;exact hr
  ·rw [xt (ve q)] at hn2;refine (h.no d n2 A2 hn2 hd).off f λ z w=>⟨h.lo z (.inr (.inr (.inr (.inr ⟨c,A,hA,w⟩)))),λ w2=>?_⟩
   have e1:=h.oC d A2 hd z w2;have e2:=nw z w;omega
 ·simp only [xc];exact h.al
 ·exact h.fl.fr f λ z hz q=>ne (h.oF z hz) (by omega) q
 ·rw [ow h.lt];exact h.oB
 ·rw [ow (h.low (.inr (.inl hz)))];exact h.oD z hz
 ·rw [ow (h.low (.inr (.inr (.inl hz))))];exact h.oN z hz
 ·rw [ow (h.low (.inr (.inr (.inr (.inl hz)))))];exact h.oF z hz
 ·rcases has d A2 hd with ⟨rfl,rfl⟩|⟨q,hd⟩
  ·unfold eh;split
   ·rename_i q;rcases hz with hz|hz|hz
    ·exact nw z (.inl hz)
    ·exact nw z (.inr (.inl hz))
    ·rcases hb z hz with w|w
     ·exact nw z (.inr (.inr w))
     ·omega
   ·rfl
  ·rw [ow (h.low (.inr (.inr (.inr (.inr ⟨d,A2,hd,hz⟩)))))];exact h.oC d A2 hd z hz
 ·rcases hW z hz with w|w
  ·exact h.lo z w
  ·omega
end
end Go.Am
namespace Go.Am
open Go.Proofs Ca
open Lang (ints)
variable {M:aL} [MK M]
def gi (H0 H:AHeap) (B:Nat) (s:Bs) (b':Bu) (H':AHeap):Prop:=∃ s' eh,cR H0 H' B s' b' eh/\(∀ z,gE B s' z->gE B s z\/H.next<=z)/\Fr (gE B s) H H'
section
variable {H0 H:AHeap} {B:Nat} {s:Bs} {b:Bu} {own:Nat->Nat}
theorem cR.same (h:cR H0 H B s b own) {H':AHeap} (f:Fr Em H H'):gi H0 H B s b H':=⟨s,own,h.em f,λ _ q=>.inl q,f.mono λ _ _ q=>q.elim⟩
theorem gi.then {H1 H2:AHeap} {s1:Bs} {b':Bu} (f1:Fr (gE B s) H H1) (hs:∀ z,gE B s1 z->gE B s z\/H.next<=z) (h:gi H0 H1 B s1 b' H2):gi H0 H B s b' H2:=by
 obtain ⟨s2,o2,r,q,f⟩:=h;refine ⟨s2,o2,r,λ z hz=>(q z hz).elim (hs z) λ w=>.inr (xu f1.next w),f1.trans f λ z hz=>hs z hz⟩
theorem gi.em {H1 H2:AHeap} {b':Bu} (h:gi H0 H B s b' H1) (f:Fr Em H1 H2):gi H0 H B s b' H2:=by
 obtain ⟨s2,o2,r,q,g⟩:=h;exact ⟨s2,o2,r.em f,q,g.trans f λ _ w=>w.elim⟩
theorem gi.pre {H1 H2:AHeap} {b':Bu} (f:Fr Em H H1) (h:gi H0 H1 B s b' H2):gi H0 H B s b' H2:=gi.then (f.mono λ _ _ q=>q.elim) (λ _ q=>.inl q) h
theorem cR.ua (h:cR H0 H B s b own) {H1:AHeap} {v':AV} {fl':List Mg} (hk:Sk ai qo 11 H1 v' fl') (f:Fr (bC s.fv) H H1) (hv:∀ z,bC v' z->bC s.fv z\/H.next<=z):∃ H',Op.store 1 [.ptr B 2,v'] H1=some (.undef,H')/\gi H0 H B s { b with fl:=fl' } H':=by
 have h1:bn v'=true:=hk.one;have ne:∀ {z k:Nat},own z=k->k ≠ 3 -> ¬ bC s.fv z:=λ e1 e2 q=>e2 (by rw [<-e1];exact h.oF _ q);have hB:H1.get B=some (OR [.ptr s.D 0,s.nv,s.fv,.int .i64 (b.l.length:Int)] xW):=by rw [f.ae _ h.lt (ne h.oB (by decide))];exact h.row
 have hc:v'.cells=[v']:=by cases v'<;>first|rfl|cases h1
 have st:=oA hB (o:=2) (n:=1) (v:=v') (by rw [hc];rfl) (by simp) (by rw [hc,nZ];simpa using h1);rw [hc] at st;have fB:Fr (gE B s) H H1:=f.mono λ z _ q=>.inr (.inr (.inr (.inl q)));have H0n:H0.next<=H.next:=by have:=h.lo B (.inl rfl);have:=h.lt;omega
 have hW:∀ z,gE B { s with fv:=v' } z->gE B s z\/H.next<=z:=λ z hz=>by
  rcases hz with hz|hz|hz|hz|hz
  ·exact .inl (.inl hz)
  ·exact .inl (.inr (.inl hz))
  ·exact .inl (.inr (.inr (.inl hz)))
  ·rcases hv z hz with w|w
   ·exact .inl (.inr (.inr (.inr (.inl w))))
   ·exact .inr w
  ·exact .inl (.inr (.inr (.inr (.inr hz))))
 have ow:∀ {z:Nat},z<H.next->eh own H.next 3 z=own z:=λ q=>qm q
 have f2:Fr (On B) H1 (H1.set B (OR ([AV.ptr s.D 0,s.nv,s.fv,.int .i64 (b.l.length:Int)].take 2 ++ [v'] ++ [AV.ptr s.D 0,s.nv,s.fv,.int .i64 (b.l.length:Int)].drop (2+1)) xW)):=(Fr.refl H1).set (W:=On B) (.inl rfl) _;have nB:∀ {z k:Nat},own z=k->k ≠ 0 -> ¬ z=B:=λ e1 e2 q=>e2 (by rw [<-e1,q];exact h.oB);refine ⟨_,st,{ s with fv:=v' },eh own H.next 3,⟨xe ..,?_,?_,h.dx,?_,λ c n A hn hA=>?_,h.al,?_,?_,λ z hz=>?_,λ z hz=>?_,λ z hz=>?_,λ c A hA z hz=>?_,λ z hz=>?_⟩,hW,fB.trans f2 λ z q=>.inl (.inl q)⟩
 ·exact qp h.lt (xu f.next f2.next)
 ·exact (h.d.fr f λ z q w=>ne (h.oD z w) (by decide) q).fr f2 λ z q w=>nB (h.oD z w) (by decide) q
 ·exact Own.fr (Own.fr h.nv f λ z hz q=>ne (h.oN z hz) (by decide) q) f2 λ z hz q=>nB (h.oN z hz) (by decide) q
 ·refine ((h.no c n A hn hA).off f λ z w=>⟨h.lo z (.inr (.inr (.inr (.inl w)))),λ w2=>?_⟩).off f2 λ z w=>?_
  ·have:=h.oC c A hA z w2;have:=h.oF z w;omega
  ·have w:z=B:=w;refine ⟨by rw [w];exact h.lo B (.inl rfl),λ w2=>?_⟩;have:=h.oC c A hA z w2;rw [w,h.oB] at this;omega
 ·refine hk.fr f2 λ z hz q=>?_;have q:z=B:=q;rcases hv z hz with w|w
  ·rw [q] at w;exact ne h.oB (by decide) w
  ·have:=h.lt;omega
 ·rw [ow h.lt];exact h.oB
 ·rw [ow (h.low (.inr (.inl hz)))];exact h.oD z hz
 ·rw [ow (h.low (.inr (.inr (.inl hz))))];exact h.oN z hz
 ·unfold eh;split
  ·rcases hv z hz with w|w
   ·exact h.oF z w
   ·omega
  ·rfl
 ·rw [ow (h.low (.inr (.inr (.inr (.inr ⟨c,A,hA,hz⟩)))))];exact h.oC c A hA z hz
 ·rcases hW z hz with w|w
  ·exact h.lo z w
  ·omega
theorem tB (l:List Mg):aX (l.flatMap ai)=true:=by
 rw [nZ,List.all_flatMap,BN];intro x _;have:=kM x;rw [nZ] at this;exact this
theorem Me (h:cR H0 H B s b own) {ov:AV} {ms:List Mg} (hm:eJ ai 11 H ov ms) (hl:b.fl.length+ms.length<=1000000):jx M sw [.ptr B 0,ov] H λ _ H'=>gi H0 H B s { b with fl:=b.fl++ms } H':=by
 refine qxn ?_;obtain ⟨v1,H1,s1,k1,f1,o1⟩:=h.fl.app za (by decide) (ys:=ms) rfl rfl (Sl.dO hm) (Sl.first hm) (tB ms) (bytes:=88) (by omega) (by omega);obtain ⟨H2,s2,r2⟩:=h.ua k1 f1 o1;simp only [↓qi,xd,reduceIte,reduceEqDiff,qxo,qg,h.l2,s1,s2];exact r2
theorem rv (h:cR H0 H B s b own) (hN:b.ns.length<=4) (c:Int):jx M rG [.ptr B 0,.int .i64 c] H λ v H'=>H'=H/\((0<=c/\c<b.ns.length -> ∃ A,s.ad[c.toNat]? = some A/\v=.tuple [.ptr A.r 0,.int .i64 0])/\(¬ (0<=c/\c<b.ns.length)->v=.tuple [.nilp,.int .i64 2])):=by
 refine q1d ?_;obtain ⟨w0,w2,w17⟩:=q1e M ⟨none,rG⟩;have hln:=h.nv.sl.len;rw [zg,h.al] at hln
 by_cases q0:c<0
 ·simp only [↓qi,xd,reduceIte,reduceEqDiff,w0,w2,yh,xf q0];exact ⟨λ q=>by omega,λ _=>trivial⟩
 by_cases q1:((b.ns.length:Nat):Int)<=c
 ·simp only [↓qi,xd,reduceIte,reduceEqDiff,w0,w2,yh,q0,qg,h.l1,hln,xf q1];exact ⟨λ q=>by omega,λ _=>trivial⟩
 have hlt:c.toNat<s.ad.length:=by rw [h.al];omega
 have hA:s.ad[c.toNat]? = some (s.ad[c.toNat]):=qz hlt;have hx:(s.ad.map Na.r)[c.toNat]? = some (s.ad[c.toNat]).r:=by rw [xj,hA];rfl
 have ix:=h.nv.sl.idx hx (z:=c) (by omega) .i64;have ld:=h.nv.sl.mh MM hx (by decide);have ld:Op.aa [.ptr (aN s.nv) (cr 1 s.nv c.toNat)] H=some (.ptr (s.ad[c.toNat]).r 0):=ld;simp only [↓qi,xd,reduceIte,reduceEqDiff,w0,w2,yh,q0,qg,h.l1,hln,q1,w17,ix,ld];exact ⟨λ _=>⟨_,hA,rfl⟩,λ q=>absurd ⟨by omega,by omega⟩ q⟩
end
end Go.Am
namespace Go.Am
open Go.Proofs Ca
open Lang (ints)
variable {M:aL} [MK M]
def No.bL (n:No) (a o:Int):Bool × Bool × Int:=if n.may a then if n.live then (false,false,41) else if n.owned (No.ln a) then (decide ((n.c.word a.toNat).2.getD 0=o),true,0) else (false,false,0) else (false,false,2)
section
variable {H0 H:AHeap} {r b:Nat} {sv bv:AV} {n:No} {ks:List Nat}
theorem q3f (h:bY H0 H r b sv bv n ks):jx M CZ [.ptr r 0] H λ v H'=>v=.int .i64 (if n.live=true then 41 else 0)/\bY H0 H' r b sv bv n.begin ks/\Fr (eM r b sv bv) H H':=by
 refine qr5 ?_;obtain ⟨w0,w2,w17⟩:=qr6 M ⟨none,CZ⟩;have eH:=h.eH;unfold No.begin;cases hl:n.live with
 | true =>
  rw [hl] at eH;simp only [↓qi,xd,reduceIte,reduceEqDiff,w0,w2,yh,qg,eH];exact ⟨h,Fr.refl _⟩
 | false =>
  rw [hl] at eH;obtain ⟨H2,s2,h2,f2⟩:=h.mL true;obtain ⟨H3,s3,h3,f3⟩:=h2.pD 0;simp only [↓qi,xd,reduceIte,reduceEqDiff,w0,w2,yh,qg,eH,w17,s2,s3];exact ⟨by first|rfl|trivial|(simp),by rw [qe (by decide)];exact h3,fp (C2 f2) (C2 f3)⟩
theorem q0g (h:bY H0 H r b sv bv n ks):jx M Ct [.ptr r 0] H λ v H'=>v=.int .i64 (if n.live=true then 0 else 40)/\bY H0 H' r b sv bv n.bl ks/\Fr (eM r b sv bv) H H':=by
 refine qqu ?_;obtain ⟨w0,w2,w17⟩:=qqv M ⟨none,Ct⟩;have eH:=h.eH;unfold No.bl;cases hl:n.live with
 | false =>
  rw [hl] at eH;simp only [↓qi,xd,reduceIte,reduceEqDiff,w0,w2,yh,qg,eH];exact ⟨by first|rfl|trivial|(simp),by rw [qe (by decide)];exact h,Fr.refl _⟩
 | true =>
  rw [hl] at eH;simp only [↓qi,xd,reduceIte,reduceEqDiff,w0,w2,yh,qg,eH,w17,h.l2];refine C3.q (qu4 (M:=M) h.ca h.len) λ _ H1 ⟨h1,f1⟩=>?_;have hn1:=h.eG h1 f1 (by show (n.c.sl.map iP).length<=40;rw [zg];exact h.len);obtain ⟨H2,s2,h2,f2⟩:=hn1.mL false;simp only [↓qi,xd,reduceIte,reduceEqDiff,qg,s2];exact ⟨h2,fp (oK f1) (C2 f2)⟩
def qG (H0 H:AHeap) (r b:Nat) (sv bv:AV) (n:No) (ks:List Nat) (a o y:Int) (v:AV) (H':AHeap):Prop:=(∃ ov,v=.tuple [.bool (n.bL a o).1,.bool (n.bL a o).2.1,ov,.int .i64 (n.bL a o).2.2]/\ir H H' ov (n.dP a o y).2)/\bY H0 H' r b sv bv (n.dP a o y).1 ks/\Fr (eM r b sv bv) H H'
theorem q8b (h:bY H0 H r b sv bv n ks) (hci:CI n.lines n.c) (hk:n.au.length<=900000) (hu:n.c.us+2<=1000000) (a o y:Int):jx M DW [.ptr r 0,.int .i64 a,.int .u64 o,.int .u64 y] H (qG H0 H r b sv bv n ks a o y):=by
 refine qwn ?_;obtain ⟨w0,w2,w12,w20,w22,w30,w32,w38⟩:=qwo M ⟨none,DW⟩;simp only [↓qi,xd,reduceIte,reduceEqDiff,w0,w2];refine C3.q (Mp (M:=M) h a) λ v H1 ⟨hv,hh⟩=>?_;rw [hv,hh]
 by_cases hm:n.may a
 case neg =>
  have ea:n.dP a o y=(n,[]):=by unfold No.dP;rw [qe hm]
  have ev:n.bL a o=(false,false,2):=by unfold No.bL;rw [qe hm]
  have t2:¬ (2:Int)=0:=by decide
  rw [qe hm];unfold qG;rw [ea,ev];simp only [↓qi,xd,reduceIte,reduceEqDiff,t2];exact ⟨⟨.nils,rfl,ir.nil ..⟩,h,Fr.refl _⟩
 rw [qm hm];have hl:=h.li;obtain ⟨m1,m2⟩:=hm;obtain ⟨a',rfl⟩:=ke m1;have hal:a'<1000000:=by omega
 have hmm:n.may (a':Int):=⟨m1,m2⟩
 have eln:No.ln (a':Int)=((a' / 8:Nat):Int):=rfl;have t0:=xf (show (0:Int)=0 from rfl);have eH:=h.eH;cases hlv:n.live with
 | true =>
  have ea:n.dP (a':Int) o y=(n,[]):=by unfold No.dP;rw [qm hmm,hlv];rfl
  have ev:n.bL (a':Int) o=(false,false,41):=by unfold No.bL;rw [qm hmm,hlv];rfl
  rw [hlv] at eH;unfold qG;rw [ea,ev];simp only [↓qi,xd,reduceIte,reduceEqDiff,t0,w12,qg,eH];exact ⟨⟨.nils,rfl,ir.nil ..⟩,h,Fr.refl _⟩
 | false =>
  rw [hlv] at eH;simp only [↓qi,xd,reduceIte,reduceEqDiff,t0,w12,qg,eH,w20,ra hal,w22];refine C3.q (qys (M:=M) (line:=((a' / 8:Nat):Int)) h hci) λ v H1 ⟨hv,f1⟩=>?_;rw [hv];have hb:=h.em f1;cases ho:n.owned ((a' / 8:Nat):Int) with
  | false =>
   have ea:n.dP (a':Int) o y=n.ask 2 ((a' / 8:Nat):Int):=by
    unfold No.dP;rw [qm hmm,hlv,eln,ho];rfl
   have ev:n.bL (a':Int) o=(false,false,0):=by unfold No.bL;rw [qm hmm,hlv,eln,ho];rfl
   simp only [↓qi,xd,reduceIte,reduceEqDiff];refine C3.q (LA (M:=M) hb hk 2 ((a' / 8:Nat):Int)) λ v H2 ⟨hms,hn,hfr⟩=>?_;unfold qG;rw [ea,ev];simp only [↓qi,xd,reduceIte,reduceEqDiff];exact ⟨⟨v,rfl,hms.1,λ q=>xu f1.next (hms.2 q)⟩,hn,fp (iz f1) hfr⟩
  | true =>
   obtain ⟨i,hp,hst⟩:=q9l ho;have hw:(n.c.word a').2=some ((n.c.en i).d.get (a' % 8)):=by unfold Ca.word;rw [hp]
   have ea:n.dP (a':Int) o y=({ n with c:=if (n.c.en i).d.get (a' % 8)=o then (n.c.word a').1.put a' y else (n.c.word a').1 },[]):=by
    unfold No.dP;rw [qm hmm,hlv,eln,ho,qe (by decide),qm rfl];simp only [zl,hw,xZ]
   have ev:n.bL (a':Int) o=(decide ((n.c.en i).d.get (a' % 8)=o),true,0):=by
    unfold No.bL;rw [qm hmm,hlv,eln,ho,qe (by decide),qm rfl];simp only [zl,hw,xZ]
   simp only [↓qi,xd,reduceIte,reduceEqDiff,w30,qg,hb.l2];refine C3.q (q23 (M:=M) hb.ca hci (by omega) hal) λ v H3 ⟨hv,h3,f3⟩=>?_;rw [hv];have hn:=hb.eG h3 f3 (by rw [(HG ..).1];exact h.len);unfold pT;rw [hp];have f13:Fr (eM r b sv bv) H H3:=fp (iz f1) (oK f3)
   by_cases q:(n.c.en i).d.get (a' % 8)=o
   ·rw [qm q] at ea;rw [wT q] at ev;simp only [↓qi,xd,reduceIte,reduceEqDiff,qr,w32,xf q,qg,hn.l2];refine C3.q (q5n (M:=M) hn.ca (hci.word a') (by show (n.c.word a').1.us+1<=1000000;have:=(HG n.c a').2;omega) hal y) λ v H4 ⟨hv4,h4,f4⟩=>?_;have hn4:=hn.eG h4 f4 (by rw [(Jn ..).1,(HG ..).1];exact h.len);unfold qG;rw [ea,ev];simp only [↓qi,xd,reduceIte,reduceEqDiff,w38,xf q];exact ⟨⟨.nils,rfl,ir.nil ..⟩,hn4,fp f13 (oK f4)⟩
   ·rw [qe q] at ea;rw [AX q] at ev;unfold qG;rw [ea,ev];simp only [↓qi,xd,reduceIte,reduceEqDiff,qr,w32,q,w38];exact ⟨⟨.nils,rfl,ir.nil ..⟩,hn,f13⟩
end
end Go.Am
namespace Go.Am
open Go.Proofs Ca
open Lang (ints)
variable {M:aL} [MK M]
structure BB (b:Bu):Prop where
 N4:b.ns.length<=4
 fl:b.fl.length<=900000
 no:∀ (c:Nat) n,b.ns[c]? = some n->n.NI/\n.au.length<=900000/\n.c.us+2<=1000000
theorem Kw (n:No) (k l:Int):(n.ask k l).2.length<=1:=by unfold No.ask;split<;>simp
theorem q5a (n:No) (a:Int):(n.load a).2.2.2.1.length<=1:=by
 unfold No.load;split
 ·cases n.c.find (No.ln a) with
  | none=>exact Kw ..
  | some x=>simp
 ·simp
theorem q2x (n:No) (a y:Int):(n.store a y).2.2.1.length<=1:=by
 unfold No.store;split
 ·split
  ·simp
  ·exact Kw ..
 ·simp
theorem q8a (n:No) (a o y:Int):(n.dP a o y).2.length<=1:=by
 unfold No.dP;split
 ·split
  ·simp
  ·split
   ·simp
   ·exact Kw ..
 ·simp
theorem q42 (n:No) (x:En):(n.gone x).2.length<=1:=by unfold No.gone;split<;>simp
theorem q1n (n:No) (l:Int):(n.aO l).2.length<=1:=by
 unfold No.aO;split
 ·simp
 ·cases n.c.find l with
  | none=>simp
  | some x=>exact q42 ..
theorem rR (n:No) (m:Mg):(n.fill m).2.length<=1:=by
 have:∀ (n:No) st,(n.cE m st).2.length<=1:=λ n st=>by
  unfold No.cE;split
  ·exact q42 ..
  ·simp
 unfold No.fill No.fU;generalize (if m.k=15 then (2:Int) else 1)=st;split<;>exact this _ _
theorem q46 (n:No) (m:Mg):(n.az m).2.length<=2:=by
 unfold No.az;split;· simp
 split;· simp
 split
 ·cases n.c.find m.line with
  | none=>simp
  | some x=>simp only;split<;>simp
 split;· simp
 cases n.c.find m.line with
 | some x=>simp
 | none =>
  have:=rR { n with out:=⟨0,0,0,.zero⟩ } m;simp only [qx,yi,xK];omega
section
variable {H0 H:AHeap} {B:Nat} {s:Bs} {b:Bu} {own:Nat->Nat} {c:Int} {n:No}
theorem bY.t {r b:Nat} {sv bv:AV} {n':No} {ks:List Nat} {H':AHeap} (h:bY H0 H' r b sv bv n' ks) (f:Fr (eM r b sv bv) H H'):lQ H0 H r b sv bv n' H':=⟨bv,ks,h,f,λ _ q=>.inl q⟩
theorem cR.out (h:cR H0 H B s b own) (hb:BB b) {c:Nat} {n n':No} {A:Na} {H1:AHeap} {ov:AV} {ms:List Mg} (hn:b.ns[c]? = some n) (hA:s.ad[c]? = some A) (ht:lQ H0 H A.r A.b A.sv A.bv n' H1) (hm:ir H H1 ov ms) (hl:ms.length<=2) {Q:AV->AHeap->Prop} {r:AV}
 (hQ:∀ {H'},gi H0 H B s (b.put c (n',ms)) H'->Q r H'):jx M sw [.ptr B 0,ov] H1 λ _ H'=>Q r H':=by
 obtain ⟨s',o',h1,q1,f1⟩:=h.node hn hA ht;have hfl:=hb.fl;exact (Me (M:=M) h1 hm.1 (by show b.fl.length+ms.length<=1000000;omega)).mono λ v H' hp=>hQ (gi.then f1 q1 hp)
theorem qE (hn:b.ns[c.toNat]? = some n) (c0:0<=c):0<=c/\c<b.ns.length:=by have:=(qj.1 hn).1;omega
theorem q7t (h:cR H0 H B s b own) (hb:BB b) (c0:0<=c) (hn:b.ns[c.toNat]? = some n) (a:Int):jx M xM [.ptr B 0,.int .i64 c,.int .i64 a] H λ v H'=>v=.tuple [.int .u64 (n.load a).2.1,.bool (n.load a).2.2.1,.int .i64 (n.load a).2.2.2.2]/\gi H0 H B s (b.put c.toNat ((n.load a).1,(n.load a).2.2.2.1)) H':=by
 refine qom ?_;obtain ⟨w0,w4,w12⟩:=qon M ⟨none,xM⟩;simp only [↓qi,xd,reduceIte,reduceEqDiff,w0];refine C3.q (rv (M:=M) h hb.N4 c) λ v H1 ⟨hh,h1,_⟩=>?_;obtain ⟨A,hA,hv⟩:=h1 (qE hn c0);rw [hv,hh];have t0:=xf (show (0:Int)=0 from rfl);obtain ⟨ni,bk,us⟩:=hb.no _ n hn;have nr:=h.no _ n A hn hA;simp only [↓qi,xd,reduceIte,reduceEqDiff,qr,w4,t0,w12];refine C3.q (q9a (M:=M) nr ni.ci bk (by omega) a) λ v H2 ⟨⟨ov,hv2,hms⟩,hnr,hf⟩=>?_;rw [hv2];simp only [↓qi,xd,reduceIte,reduceEqDiff,qr];refine C3.q (h.out hb hn hA (hnr.t hf) hms (by have:=q5a n a;omega) (Q:=λ _ H'=>gi H0 H B s (b.put c.toNat ((n.load a).1,(n.load a).2.2.2.1)) H') (r:=.nils) id) λ v H3 hp=>?_;simp only [↓qi,xd,reduceIte,reduceEqDiff];exact hp
theorem AE (h:cR H0 H B s b own) (hb:BB b) (hc:¬ (0<=c/\c<b.ns.length)) (a:Int):jx M xM [.ptr B 0,.int .i64 c,.int .i64 a] H λ v H'=>v=.tuple [.int .u64 0,.bool false,.int .i64 2]/\H'=H:=by
 refine qom ?_;obtain ⟨w0,w4,w12⟩:=qon M ⟨none,xM⟩;simp only [↓qi,xd,reduceIte,reduceEqDiff,w0];refine C3.q (rv (M:=M) h hb.N4 c) λ v H1 ⟨hh,_,h1⟩=>?_;rw [h1 hc,hh];have t2:¬ (2:Int)=0:=by decide
 simp only [↓qi,xd,reduceIte,reduceEqDiff,qr,w4,t2]
theorem q58 (h:cR H0 H B s b own) (hb:BB b) (c0:0<=c) (hn:b.ns[c.toNat]? = some n) (a y:Int):jx M zX [.ptr B 0,.int .i64 c,.int .i64 a,.int .u64 y] H λ v H'=>v=.tuple [.bool (n.store a y).2.1,.int .i64 (n.store a y).2.2.2]/\gi H0 H B s (b.put c.toNat ((n.store a y).1,(n.store a y).2.2.1)) H':=by
 refine qm1 ?_;obtain ⟨w0,w4,w12⟩:=qm2 M ⟨none,zX⟩;simp only [↓qi,xd,reduceIte,reduceEqDiff,w0];refine C3.q (rv (M:=M) h hb.N4 c) λ v H1 ⟨hh,h1,_⟩=>?_;obtain ⟨A,hA,hv⟩:=h1 (qE hn c0);rw [hv,hh];have t0:=xf (show (0:Int)=0 from rfl);obtain ⟨ni,bk,us⟩:=hb.no _ n hn;have nr:=h.no _ n A hn hA;simp only [↓qi,xd,reduceIte,reduceEqDiff,qr,w4,t0,w12];refine C3.q (q7h (M:=M) nr ni.ci bk (by omega) a y) λ v H2 ⟨⟨ov,hv2,hms⟩,hnr,hf⟩=>?_;rw [hv2];simp only [↓qi,xd,reduceIte,reduceEqDiff,qr];refine C3.q (h.out hb hn hA (hnr.t hf) hms (by have:=q2x n a y;omega) (Q:=λ _ H'=>gi H0 H B s (b.put c.toNat ((n.store a y).1,(n.store a y).2.2.1)) H') (r:=.nils) id) λ v H3 hp=>?_;simp only [↓qi,xd,reduceIte,reduceEqDiff];exact hp
theorem vX (h:cR H0 H B s b own) (hb:BB b) (hc:¬ (0<=c/\c<b.ns.length)) (a y:Int):jx M zX [.ptr B 0,.int .i64 c,.int .i64 a,.int .u64 y] H λ v H'=>v=.tuple [.bool false,.int .i64 2]/\H'=H:=by
 refine qm1 ?_;obtain ⟨w0,w4,w12⟩:=qm2 M ⟨none,zX⟩;simp only [↓qi,xd,reduceIte,reduceEqDiff,w0];refine C3.q (rv (M:=M) h hb.N4 c) λ v H1 ⟨hh,_,h1⟩=>?_;rw [h1 hc,hh];have t2:¬ (2:Int)=0:=by decide
 simp only [↓qi,xd,reduceIte,reduceEqDiff,qr,w4,t2]
theorem vK (h:cR H0 H B s b own) (hb:BB b) (c0:0<=c) (hn:b.ns[c.toNat]? = some n) (a o y:Int):jx M Ay [.ptr B 0,.int .i64 c,.int .i64 a,.int .u64 o,.int .u64 y] H λ v H'=>v=.tuple [.bool (n.bL a o).1,.bool (n.bL a o).2.1,.int .i64 (n.bL a o).2.2]/\gi H0 H B s (b.put c.toNat (n.dP a o y)) H':=by
 refine qpx ?_;obtain ⟨w0,w4,w12⟩:=qpy M ⟨none,Ay⟩;simp only [↓qi,xd,reduceIte,reduceEqDiff,w0];refine C3.q (rv (M:=M) h hb.N4 c) λ v H1 ⟨hh,h1,_⟩=>?_;obtain ⟨A,hA,hv⟩:=h1 (qE hn c0);rw [hv,hh];have t0:=xf (show (0:Int)=0 from rfl);obtain ⟨ni,bk,us⟩:=hb.no _ n hn;have nr:=h.no _ n A hn hA;simp only [↓qi,xd,reduceIte,reduceEqDiff,qr,w4,t0,w12];refine C3.q (q8b (M:=M) nr ni.ci bk us a o y) λ v H2 ⟨⟨ov,hv2,hms⟩,hnr,hf⟩=>?_;rw [hv2];simp only [↓qi,xd,reduceIte,reduceEqDiff,qr];refine C3.q (h.out hb hn hA (hnr.t hf) hms (by have:=q8a n a o y;omega) (Q:=λ _ H'=>gi H0 H B s (b.put c.toNat (n.dP a o y)) H') (r:=.nils) id) λ v H3 hp=>?_;simp only [↓qi,xd,reduceIte,reduceEqDiff];exact hp
theorem Cm (h:cR H0 H B s b own) (hb:BB b) (hc:¬ (0<=c/\c<b.ns.length)) (a o y:Int):jx M Ay [.ptr B 0,.int .i64 c,.int .i64 a,.int .u64 o,.int .u64 y] H λ v H'=>v=.tuple [.bool false,.bool false,.int .i64 2]/\H'=H:=by
 refine qpx ?_;obtain ⟨w0,w4,w12⟩:=qpy M ⟨none,Ay⟩;simp only [↓qi,xd,reduceIte,reduceEqDiff,w0];refine C3.q (rv (M:=M) h hb.N4 c) λ v H1 ⟨hh,_,h1⟩=>?_;rw [h1 hc,hh];have t2:¬ (2:Int)=0:=by decide
 simp only [↓qi,xd,reduceIte,reduceEqDiff,qr,w4,t2]
theorem q05 (h:cR H0 H B s b own) (hb:BB b) (c0:0<=c) (hn:b.ns[c.toNat]? = some n) (l:Int):jx M zY [.ptr B 0,.int .i64 c,.int .i64 l] H λ v H'=>gi H0 H B s (b.put c.toNat (n.aO l)) H':=by
 refine qof ?_;obtain ⟨w0,w4,w12⟩:=qog M ⟨none,zY⟩;simp only [↓qi,xd,reduceIte,reduceEqDiff,w0];refine C3.q (rv (M:=M) h hb.N4 c) λ v H1 ⟨hh,h1,_⟩=>?_;obtain ⟨A,hA,hv⟩:=h1 (qE hn c0);rw [hv,hh];have t0:=xf (show (0:Int)=0 from rfl);obtain ⟨ni,bk,us⟩:=hb.no _ n hn;have nr:=h.no _ n A hn hA;simp only [↓qi,xd,reduceIte,reduceEqDiff,qr,w4,t0,w12];refine C3.q (q7n (M:=M) nr ni.ci bk l) λ v H2 ⟨⟨ov,e,hv2,hms⟩,ht⟩=>?_;rw [hv2];simp only [↓qi,xd,reduceIte,reduceEqDiff,qr];refine C3.q (h.out hb hn hA ht hms (by have:=q1n n l;omega) (Q:=λ _ H'=>gi H0 H B s (b.put c.toNat (n.aO l)) H') (r:=.nils) id) λ v H3 hp=>?_;simp only [↓qi,xd,reduceIte,reduceEqDiff];exact hp
theorem q5y (h:cR H0 H B s b own) (hb:BB b) (hc:¬ (0<=c/\c<b.ns.length)) (l:Int):jx M zY [.ptr B 0,.int .i64 c,.int .i64 l] H λ v H'=>H'=H:=by
 refine qof ?_;obtain ⟨w0,w4,w12⟩:=qog M ⟨none,zY⟩;simp only [↓qi,xd,reduceIte,reduceEqDiff,w0];refine C3.q (rv (M:=M) h hb.N4 c) λ v H1 ⟨hh,_,h1⟩=>?_;rw [h1 hc,hh];have t2:¬ (2:Int)=0:=by decide
 simp only [↓qi,xd,reduceIte,reduceEqDiff,qr,w4,t2]
theorem q06 (h:cR H0 H B s b own) (hb:BB b) (c0:0<=c) (hn:b.ns[c.toNat]? = some n):jx M zS [.ptr B 0,.int .i64 c] H λ v H'=>v=.bool n.live/\H'=H:=by
 refine qoj ?_;simp only [↓qi,xd,reduceIte,reduceEqDiff,qok];refine C3.q (rv (M:=M) h hb.N4 c) λ v H1 ⟨hh,h1,_⟩=>?_;obtain ⟨A,hA,hv⟩:=h1 (qE hn c0);rw [hv,hh];have nr:=h.no _ n A hn hA;simp only [↓qi,xd,reduceIte,reduceEqDiff,qr];refine C3.q (q87 (M:=M) nr) λ v H2 ⟨hv2,hh2⟩=>?_;rw [hv2,hh2];simp only [↓qi,xd,reduceIte,reduceEqDiff]
end
end Go.Am
