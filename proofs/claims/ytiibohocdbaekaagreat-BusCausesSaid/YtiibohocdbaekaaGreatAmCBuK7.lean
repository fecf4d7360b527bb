/- BuK7: BsA BsB NiP BsC. -/
import Derived.Test.YtiibohocdbaekaaGreatAmCCodeK
import Derived.Test.YtiibohocdbaekaaGreatAmCBuK6
import Derived.Test.YtiibohocdbaekaaGreatAmCB4
import Derived.Test.YtiibohocdbaekaaGreatAmCNmKa
set_option linter.unusedVariables false
set_option linter.unusedSimpArgs false
set_option linter.unusedSectionVars false
set_option maxRecDepth 100000
open Nat (reduceEqDiff)
namespace Go.Am
open Go.Proofs Ca
open Lang (ints)
variable {M:aA} [MK M]
structure Na where
 r:Nat
 b:Nat
 sv:AV
 bv:AV
 ks:List Nat
structure Bs where
 D:Nat
 mp:Nat
 lv:AV
 ev:AV
 xs:List (De × AV)
 nv:AV
 fv:AV
 ad:List Na
def rh (r:Nat):List AV:=[.ptr r 0]
theorem qx7 (r:Nat):(rh r).length=1:=rfl
def Na.w (A:Na):Nat->Prop:=fw A.r A.b A.sv A.bv
def Bs.dw (s:Bs):Nat->Prop:=iR s.D s.mp s.lv s.ev s.xs
def jF (B:Nat) (s:Bs) (z:Nat):Prop:=z=B\/s.dw z\/aI s.nv z\/aI s.fv z \/ ∃ (c:Nat) (A:Na),s.ad[c]? = some A/\A.w z
structure dg (H0 H:AHeap) (B:Nat) (s:Bs) (b:Bu) (own:Nat->Nat):Prop where
 row:H.get B=some (OR [.ptr s.D 0,s.nv,s.fv,.int .i64 (b.l.length:Int)] Cw)
 lt:B<H.next
 d:iT H s.D s.mp s.lv s.ev b.ns.length b.m s.xs
 dx:s.xs.map Prod.fst=b.l
 nv:cq rh Er 1 H s.nv (s.ad.map Na.r)
 no:∀ (c:Nat) (n:No) (A:Na),b.ns[c]? = some n->s.ad[c]? = some A->bR H0 H A.r A.b A.sv A.bv n A.ks
 al:s.ad.length=b.ns.length
 fl:Sk ai qt 11 H s.fv b.fl
 oB:own B=0
 oD:∀ z,s.dw z->own z=1
 oN:∀ z,aI s.nv z->own z=2
 oF:∀ z,aI s.fv z->own z=3
 oC:∀ (c:Nat) (A:Na),s.ad[c]? = some A -> ∀ z,A.w z->own z=4+c
 lo:∀ z,jF B s z->H0.next<=z
theorem bR.low {H0 H:AHeap} {r b:Nat} {sv bv:AV} {n:No} {ks:List Nat} (h:bR H0 H r b sv bv n ks) {z:Nat} (hz:fw r b sv bv z):z<H.next:=by
 rcases hz with rfl|(rfl|rfl) | hz
 ·exact h.lt
 ·exact h.ca.lt
 ·exact h.ca.sl.lt
 ·exact (h.bk.fresh z hz).2
section
variable {H0 H:AHeap} {B:Nat} {s:Bs} {b:Bu} {own:Nat->Nat}
theorem dg.cP (h:dg H0 H B s b own) {c:Nat} {n:No} (hn:b.ns[c]? = some n):∃ A,s.ad[c]? = some A/\bR H0 H A.r A.b A.sv A.bv n A.ks:=by
 have hl:=(qe.1 hn).1;have ha:s.ad[c]? = some (s.ad[c]'(by rw [h.al];exact hl)):=qy _;exact ⟨_,ha,h.no c n _ hn ha⟩
theorem dg.low (h:dg H0 H B s b own) {z:Nat} (hz:jF B s z):z<H.next:=by
 rcases hz with rfl|hz|hz|hz|⟨c,A,hA,hz⟩
 ·exact h.lt
 ·exact h.d.low hz
 ·exact Own.lt h.nv z hz
 ·exact h.fl.lt z hz
 ·have hl:=(qe.1 hA).1;have hn:b.ns[c]? = some (b.ns[c]'(by rw [<-h.al];exact hl)):=qy _;exact (h.no c _ A hn hA).low hz
theorem dg.fr {H':AHeap} {W:Nat->Prop} (h:dg H0 H B s b own) (f:Fr W H H') (hw:∀ z,W z->H0.next<=z /\ ¬ jF B s z):dg H0 H' B s b own :=
 ⟨by rw [f.ah _ h.lt (λ q=>(hw _ q).2 (.inl rfl))];exact h.row,qk h.lt f.next,h.d.fr f (λ z q w=>(hw z q).2 (.inr (.inl w))),h.dx,Own.fr h.nv f (λ z hz q=>(hw z q).2 (.inr (.inr (.inl hz)))),
  λ c n A hn hA=>(h.no c n A hn hA).off f λ z q=>⟨(hw z q).1,λ w=>(hw z q).2 (.inr (.inr (.inr (.inr ⟨c,A,hA,w⟩))))⟩,h.al,h.fl.fr f (λ z hz q=>(hw z q).2 (.inr (.inr (.inr (.inl hz))))),h.oB,h.oD,h.oN,h.oF,h.oC,h.lo⟩
theorem dg.em {H':AHeap} (h:dg H0 H B s b own) (f:Fr Em H H'):dg H0 H' B s b own:=h.fr f λ z q=>q.elim
theorem dg.l1 (h:dg H0 H B s b own):Op.ae [.ptr B 1] H=some s.nv:=xp (qz h.row) 1
theorem dg.l0 (h:dg H0 H B s b own):Op.ae [.ptr B 0] H=some (.ptr s.D 0):=xp (qz h.row) 0
theorem dg.l2 (h:dg H0 H B s b own):Op.ae [.ptr B 2] H=some s.fv:=xp (qz h.row) 2
theorem dg.l3 (h:dg H0 H B s b own):Op.ae [.ptr B 3] H=some (.int .i64 (b.l.length:Int)):=xp (qz h.row) 3
def c7 (own:Nat->Nat) (n k z:Nat):Nat:=if z<n then own z else k
theorem dg.node (h:dg H0 H B s b own) {c:Nat} {n n':No} {A:Na} {H':AHeap} (hn:b.ns[c]? = some n) (hA:s.ad[c]? = some A) (ht:nM H0 H A.r A.b A.sv A.bv n' H') :
 ∃ s' own2,dg H0 H' B s' { b with ns:=b.ns.set c n' } own2/\(∀ z,jF B s' z->jF B s z\/H.next<=z)/\Fr (jF B s) H H':=by
 obtain ⟨bv',ks',hr,f,hb⟩:=ht;have hcl:=(qe.1 hn).1;have hal:=(qe.1 hA).1;have fB:Fr (jF B s) H H':=f.mono λ z _ q=>.inr (.inr (.inr (.inr ⟨c,A,hA,q⟩)));have nw:∀ z,fw A.r A.b A.sv A.bv z->own z=4+c:=h.oC c A hA;have has:∀ (d:Nat) (A2:Na),(s.ad.set c { A with bv:=bv',ks:=ks' })[d]? = some A2->(d=c/\A2 = { A with bv:=bv',ks:=ks' })\/d ≠ c/\s.ad[d]? = some A2:=λ d A2 hd=>by
  by_cases q:d=c
  ·subst q;rw [qu hal] at hd;injection hd with hd;exact .inl ⟨rfl,hd.symm⟩
  ·rw [qm (yt q)] at hd;exact .inr ⟨q,hd⟩
 have hW:∀ z,jF B { s with ad:=s.ad.set c { A with bv:=bv',ks:=ks' } } z->jF B s z\/H.next<=z:=λ z hz=>by
  rcases hz with hz|hz|hz|hz|⟨d,A2,hd,hz⟩
  ·exact .inl (.inl hz)
  ·exact .inl (.inr (.inl hz))
  ·exact .inl (.inr (.inr (.inl hz)))
  ·exact .inl (.inr (.inr (.inr (.inl hz))))
  ·rcases has d A2 hd with ⟨rfl,rfl⟩|⟨q,hd⟩
   ·rcases hz with hz|hz|hz
    ·exact .inl (.inr (.inr (.inr (.inr ⟨d,A,hA,.inl hz⟩))))
    ·exact .inl (.inr (.inr (.inr (.inr ⟨d,A,hA,.inr (.inl hz)⟩))))
    ·rcases hb z hz with w|w
     ·exact .inl (.inr (.inr (.inr (.inr ⟨d,A,hA,.inr (.inr w)⟩))))
     ·exact .inr w
   ·exact .inl (.inr (.inr (.inr (.inr ⟨d,A2,hd,hz⟩))))
 have H0n:H0.next<=H.next:=by have:=h.lo B (.inl rfl);have:=h.lt;omega
 have ne:∀ {z k:Nat},own z=k->k ≠ 4+c -> ¬ fw A.r A.b A.sv A.bv z:=λ e1 e2 q=>e2 (by rw [<-e1];exact nw _ q);have ow:∀ {z:Nat},z<H.next->c7 own H.next (4+c) z=own z:=λ q=>ql q
 refine ⟨{ s with ad:=s.ad.set c { A with bv:=bv',ks:=ks' } },c7 own H.next (4+c),⟨?_,qk h.lt f.next,?_,h.dx,?_,λ d n2 A2 hn2 hA2=>?_,?_,?_,?_,λ z hz=>?_,λ z hz=>?_,λ z hz=>?_,λ d A2 hd z hz=>?_,λ z hz=>?_⟩,hW,fB⟩
 ·rw [f.ah _ h.lt (ne h.oB (by omega))];exact h.row
 ·simp only [qv];exact h.d.fr f λ z q w=>ne (h.oD z w) (by omega) q
 ·have:(s.ad.set c { A with bv:=bv',ks:=ks' }).map Na.r=s.ad.map Na.r:=by
   rw [List.map_set];apply jp;intro j
   by_cases q:j=c
   ·rw [q,qu (by rw [xu];exact hal),xg,hA];rfl
   ·rw [qm (yt q)]
  simp only [this];exact Own.fr h.nv f λ z hz q=>ne (h.oN z hz) (by omega) q
 ·have hn2:(b.ns.set c n')[d]? = some n2:=hn2;rcases has d A2 hA2 with ⟨rfl,rfl⟩|⟨q,hd⟩
  ·rw [qu hcl] at hn2;injection hn2 with hn2;subst hn2;exact hr
  ·rw [qm (yt q)] at hn2;refine (h.no d n2 A2 hn2 hd).off f λ z w=>⟨h.lo z (.inr (.inr (.inr (.inr ⟨c,A,hA,w⟩)))),λ w2=>?_⟩
   have e1:=h.oC d A2 hd z w2;have e2:=nw z w;omega
 ·simp only [qv];exact h.al
 ·exact h.fl.fr f λ z hz q=>ne (h.oF z hz) (by omega) q
 ·rw [ow h.lt];exact h.oB
 ·rw [ow (h.low (.inr (.inl hz)))];exact h.oD z hz
 ·rw [ow (h.low (.inr (.inr (.inl hz))))];exact h.oN z hz
 ·rw [ow (h.low (.inr (.inr (.inr (.inl hz)))))];exact h.oF z hz
 ·rcases has d A2 hd with ⟨rfl,rfl⟩|⟨q,hd⟩
  ·unfold c7;split
   ·rename_i q;rcases hz with hz|hz|hz
    ·exact nw z (.inl hz)
    ·exact nw z (.inr (.inl hz))
    ·rcases hb z hz with w|w
     ·exact nw z (.inr (.inr w))
     ·omega
   ·rfl
  ·rw [ow (h.low (.inr (.inr (.inr (.inr ⟨d,A2,hd,hz⟩)))))];exact h.oC d A2 hd z hz
 ·rcases hW z hz with w|w
  ·exact h.lo z w
  ·omega
end
end Go.Am
namespace Go.Am
open Go.Proofs Ca
open Lang (ints)
variable {M:aA} [MK M]
def iB (H0 H:AHeap) (B:Nat) (s:Bs) (b':Bu) (H':AHeap):Prop:=∃ s' c7,dg H0 H' B s' b' c7/\(∀ z,jF B s' z->jF B s z\/H.next<=z)/\Fr (jF B s) H H'
section
variable {H0 H:AHeap} {B:Nat} {s:Bs} {b:Bu} {own:Nat->Nat}
theorem dg.same (h:dg H0 H B s b own) {H':AHeap} (f:Fr Em H H'):iB H0 H B s b H':=⟨s,own,h.em f,λ _ q=>.inl q,f.mono λ _ _ q=>q.elim⟩
theorem iB.then {H1 H2:AHeap} {s1:Bs} {b':Bu} (f1:Fr (jF B s) H H1) (hs:∀ z,jF B s1 z->jF B s z\/H.next<=z) (h:iB H0 H1 B s1 b' H2):iB H0 H B s b' H2:=by
 obtain ⟨s2,o2,r,q,f⟩:=h;refine ⟨s2,o2,r,λ z hz=>(q z hz).elim (hs z) λ w=>.inr (xj f1.next w),f1.trans f λ z hz=>hs z hz⟩
theorem iB.em {H1 H2:AHeap} {b':Bu} (h:iB H0 H B s b' H1) (f:Fr Em H1 H2):iB H0 H B s b' H2:=by
 obtain ⟨s2,o2,r,q,g⟩:=h;exact ⟨s2,o2,r.em f,q,g.trans f λ _ w=>w.elim⟩
theorem iB.pre {H1 H2:AHeap} {b':Bu} (f:Fr Em H H1) (h:iB H0 H1 B s b' H2):iB H0 H B s b' H2:=iB.then (f.mono λ _ _ q=>q.elim) (λ _ q=>.inl q) h
theorem dg.wF (h:dg H0 H B s b own) {H1:AHeap} {v':AV} {fl':List Mg} (hk:Sk ai qt 11 H1 v' fl') (f:Fr (aI s.fv) H H1) (hv:∀ z,aI v' z->aI s.fv z\/H.next<=z):∃ H',Op.store 1 [.ptr B 2,v'] H1=some (.undef,H')/\iB H0 H B s { b with fl:=fl' } H':=by
 have h1:aT v'=true:=hk.one;have ne:∀ {z k:Nat},own z=k->k ≠ 3 -> ¬ aI s.fv z:=λ e1 e2 q=>e2 (by rw [<-e1];exact h.oF _ q);have hB:H1.get B=some (OR [.ptr s.D 0,s.nv,s.fv,.int .i64 (b.l.length:Int)] Cw):=by rw [f.ah _ h.lt (ne h.oB (by decide))];exact h.row
 have hc:v'.cells=[v']:=by cases v'<;>first|rfl|cases h1
 have st:=oS hB (o:=2) (n:=1) (v:=v') (by rw [hc];rfl) (by simp) (by rw [hc,oQ];simpa using h1);rw [hc] at st;have fB:Fr (jF B s) H H1:=f.mono λ z _ q=>.inr (.inr (.inr (.inl q)));have H0n:H0.next<=H.next:=by have:=h.lo B (.inl rfl);have:=h.lt;omega
 have hW:∀ z,jF B { s with fv:=v' } z->jF B s z\/H.next<=z:=λ z hz=>by
  rcases hz with hz|hz|hz|hz|hz
  ·exact .inl (.inl hz)
  ·exact .inl (.inr (.inl hz))
  ·exact .inl (.inr (.inr (.inl hz)))
  ·rcases hv z hz with w|w
   ·exact .inl (.inr (.inr (.inr (.inl w))))
   ·exact .inr w
  ·exact .inl (.inr (.inr (.inr (.inr hz))))
 have ow:∀ {z:Nat},z<H.next->c7 own H.next 3 z=own z:=λ q=>ql q
 have f2:Fr (On B) H1 (H1.set B (OR ([AV.ptr s.D 0,s.nv,s.fv,.int .i64 (b.l.length:Int)].take 2 ++ [v'] ++ [AV.ptr s.D 0,s.nv,s.fv,.int .i64 (b.l.length:Int)].drop (2+1)) Cw)):=(Fr.refl H1).set (W:=On B) (.inl rfl) _;have nB:∀ {z k:Nat},own z=k->k ≠ 0 -> ¬ z=B:=λ e1 e2 q=>e2 (by rw [<-e1,q];exact h.oB);refine ⟨_,st,{ s with fv:=v' },c7 own H.next 3,⟨xb ..,?_,?_,h.dx,?_,λ c n A hn hA=>?_,h.al,?_,?_,λ z hz=>?_,λ z hz=>?_,λ z hz=>?_,λ c A hA z hz=>?_,λ z hz=>?_⟩,hW,fB.trans f2 λ z q=>.inl (.inl q)⟩
 ·exact qk h.lt (xj f.next f2.next)
 ·exact (h.d.fr f λ z q w=>ne (h.oD z w) (by decide) q).fr f2 λ z q w=>nB (h.oD z w) (by decide) q
 ·exact Own.fr (Own.fr h.nv f λ z hz q=>ne (h.oN z hz) (by decide) q) f2 λ z hz q=>nB (h.oN z hz) (by decide) q
 ·refine ((h.no c n A hn hA).off f λ z w=>⟨h.lo z (.inr (.inr (.inr (.inl w)))),λ w2=>?_⟩).off f2 λ z w=>?_
  ·have:=h.oC c A hA z w2;have:=h.oF z w;omega
  ·have w:z=B:=w;refine ⟨by rw [w];exact h.lo B (.inl rfl),λ w2=>?_⟩;have:=h.oC c A hA z w2;rw [w,h.oB] at this;omega
 ·refine hk.fr f2 λ z hz q=>?_;have q:z=B:=q;rcases hv z hz with w|w
  ·rw [q] at w;exact ne h.oB (by decide) w
  ·have:=h.lt;omega
 ·rw [ow h.lt];exact h.oB
 ·rw [ow (h.low (.inr (.inl hz)))];exact h.oD z hz
 ·rw [ow (h.low (.inr (.inr (.inl hz))))];exact h.oN z hz
 ·unfold c7;split
  ·rcases hv z hz with w|w
   ·exact h.oF z w
   ·omega
  ·rfl
 ·rw [ow (h.low (.inr (.inr (.inr (.inr ⟨c,A,hA,hz⟩)))))];exact h.oC c A hA z hz
 ·rcases hW z hz with w|w
  ·exact h.lo z w
  ·omega
theorem q1o (l:List Mg):aO (l.flatMap ai)=true:=by
 rw [oQ,List.all_flatMap,wg];intro x _;have:=vk x;rw [oQ] at this;exact this
theorem Om (h:dg H0 H B s b own) {ov:AV} {ms:List Mg} (hm:du ai 11 H ov ms) (hl:b.fl.length+ms.length<=1000000):zq M M9 [.ptr B 0,ov] H λ _ H'=>iB H0 H B s { b with fl:=b.fl++ms } H':=by
 refine qt6 ?_;obtain ⟨v1,H1,s1,k1,f1,o1⟩:=h.fl.app xq (by decide) (ys:=ms) rfl rfl (Sl.dD hm) (Sl.first hm) (q1o ms) (bytes:=88) (by omega) (by omega);obtain ⟨H2,s2,r2⟩:=h.wF k1 f1 o1;simp only [↓qd,qp,aa,reduceIte,reduceEqDiff,qt7,qi,h.l2,s1,s2];exact r2
theorem rv (h:dg H0 H B s b own) (hN:b.ns.length<=4) (c:Int):zq M Mt [.ptr B 0,.int .i64 c] H λ v H'=>H'=H/\((0<=c/\c<b.ns.length -> ∃ A,s.ad[c.toNat]? = some A/\v=.tuple [.ptr A.r 0,.int .i64 0])/\(¬ (0<=c/\c<b.ns.length)->v=.tuple [.nilp,.int .i64 2])):=by
 refine qxx ?_;obtain ⟨w0,w2,w17⟩:=qxy M ⟨none,Mt⟩;have hln:=h.nv.sl.len;rw [xu,h.al] at hln
 by_cases q0:c<0
 ·simp only [↓qd,qp,aa,reduceIte,reduceEqDiff,w0,w2,kv,xc q0];exact ⟨λ q=>by omega,λ _=>trivial⟩
 by_cases q1:((b.ns.length:Nat):Int)<=c
 ·simp only [↓qd,qp,aa,reduceIte,reduceEqDiff,w0,w2,kv,q0,qi,h.l1,hln,xc q1];exact ⟨λ q=>by omega,λ _=>trivial⟩
 have hlt:c.toNat<s.ad.length:=by rw [h.al];omega
 have hA:s.ad[c.toNat]? = some (s.ad[c.toNat]):=qy hlt;have hx:(s.ad.map Na.r)[c.toNat]? = some (s.ad[c.toNat]).r:=by rw [xg,hA];rfl
 have ix:=h.nv.sl.idx hx (z:=c) (by omega) .i64;have ld:=h.nv.sl.jW qx7 hx (by decide);have ld:Op.ae [.ptr (aF s.nv) (bI 1 s.nv c.toNat)] H=some (.ptr (s.ad[c.toNat]).r 0):=ld;simp only [↓qd,qp,aa,reduceIte,reduceEqDiff,w0,w2,kv,q0,qi,h.l1,hln,q1,w17,ix,ld];exact ⟨λ _=>⟨_,hA,rfl⟩,λ q=>absurd ⟨by omega,by omega⟩ q⟩
end
end Go.Am
namespace Go.Am
open Go.Proofs Ca
open Lang (ints)
variable {M:aA} [MK M]
def No.cS (n:No) (a o:Int):Bool × Bool × Int:=if n.may a then if n.live then (false,false,41) else if n.owned (No.ln a) then (decide ((n.c.word a.toNat).2.getD 0=o),true,0) else (false,false,0) else (false,false,2)
section
variable {H0 H:AHeap} {r b:Nat} {sv bv:AV} {n:No} {ks:List Nat}
theorem qz1 (h:bR H0 H r b sv bv n ks):zq M M7 [.ptr r 0] H λ v H'=>v=.int .i64 (if n.live=true then 41 else 0)/\bR H0 H' r b sv bv n.begin ks/\Fr (fw r b sv bv) H H':=by
 refine qot ?_;obtain ⟨w0,w2,w17⟩:=qou M ⟨none,M7⟩;have ft:=h.ft;unfold No.begin;cases hl:n.live with
 | true =>
  rw [hl] at ft;simp only [↓qd,qp,aa,reduceIte,reduceEqDiff,w0,w2,kv,qi,ft];exact ⟨h,Fr.refl _⟩
 | false =>
  rw [hl] at ft;obtain ⟨H2,s2,h2,f2⟩:=h.oz true;obtain ⟨H3,s3,h3,f3⟩:=h2.rI 0;simp only [↓qd,qp,aa,reduceIte,reduceEqDiff,w0,w2,kv,qi,ft,w17,s2,s3];exact ⟨by first|rfl|trivial|(simp),by rw [qg (by decide)];exact h3,gi (DC f2) (DC f3)⟩
theorem qwx (h:bR H0 H r b sv bv n ks):zq M Qf [.ptr r 0] H λ v H'=>v=.int .i64 (if n.live=true then 0 else 40)/\bR H0 H' r b sv bv n.bj ks/\Fr (fw r b sv bv) H H':=by
 refine qng ?_;obtain ⟨w0,w2,w17⟩:=qnh M ⟨none,Qf⟩;have ft:=h.ft;unfold No.bj;cases hl:n.live with
 | false =>
  rw [hl] at ft;simp only [↓qd,qp,aa,reduceIte,reduceEqDiff,w0,w2,kv,qi,ft];exact ⟨by first|rfl|trivial|(simp),by rw [qg (by decide)];exact h,Fr.refl _⟩
 | true =>
  rw [hl] at ft;simp only [↓qd,qp,aa,reduceIte,reduceEqDiff,w0,w2,kv,qi,ft,w17,h.l2];refine C3.q (qr6 (M:=M) h.ca h.len) λ _ H1 ⟨h1,f1⟩=>?_;have hn1:=h.fp h1 f1 (by show (n.c.sl.map kH).length<=40;rw [xu];exact h.len);obtain ⟨H2,s2,h2,f2⟩:=hn1.oz false;simp only [↓qd,qp,aa,reduceIte,reduceEqDiff,qi,s2];exact ⟨h2,gi (qO f1) (DC f2)⟩
def sG (H0 H:AHeap) (r b:Nat) (sv bv:AV) (n:No) (ks:List Nat) (a o y:Int) (v:AV) (H':AHeap):Prop:=(∃ ov,v=.tuple [.bool (n.cS a o).1,.bool (n.cS a o).2.1,ov,.int .i64 (n.cS a o).2.2]/\jJ H H' ov (n.fq a o y).2)/\bR H0 H' r b sv bv (n.fq a o y).1 ks/\Fr (fw r b sv bv) H H'
theorem q5c (h:bR H0 H r b sv bv n ks) (hci:CI n.lines n.c) (hk:n.aq.length<=900000) (hu:n.c.us+2<=1000000) (a o y:Int):zq M NP [.ptr r 0,.int .i64 a,.int .u64 o,.int .u64 y] H (sG H0 H r b sv bv n ks a o y):=by
 refine qte ?_;obtain ⟨w0,w2,w12,w20,w22,w30,w32,w38⟩:=qtf M ⟨none,NP⟩;simp only [↓qd,qp,aa,reduceIte,reduceEqDiff,w0,w2];refine C3.q (NX (M:=M) h a) λ v H1 ⟨hv,hh⟩=>?_;rw [hv,hh]
 by_cases hm:n.may a
 case neg =>
  have ea:n.fq a o y=(n,[]):=by unfold No.fq;rw [qg hm]
  have ev:n.cS a o=(false,false,2):=by unfold No.cS;rw [qg hm]
  have t2:¬ (2:Int)=0:=by decide
  rw [qg hm];unfold sG;rw [ea,ev];simp only [↓qd,qp,aa,reduceIte,reduceEqDiff,t2];exact ⟨⟨.nils,rfl,jJ.nil ..⟩,h,Fr.refl _⟩
 rw [ql hm];have hl:=h.li;obtain ⟨m1,m2⟩:=hm;obtain ⟨a',rfl⟩:=jb m1;have hal:a'<1000000:=by omega
 have hmm:n.may (a':Int):=⟨m1,m2⟩
 have eln:No.ln (a':Int)=((a' / 8:Nat):Int):=rfl;have t0:=xc (show (0:Int)=0 from rfl);have ft:=h.ft;cases hlv:n.live with
 | true =>
  have ea:n.fq (a':Int) o y=(n,[]):=by unfold No.fq;rw [ql hmm,hlv];rfl
  have ev:n.cS (a':Int) o=(false,false,41):=by unfold No.cS;rw [ql hmm,hlv];rfl
  rw [hlv] at ft;unfold sG;rw [ea,ev];simp only [↓qd,qp,aa,reduceIte,reduceEqDiff,t0,w12,qi,ft];exact ⟨⟨.nils,rfl,jJ.nil ..⟩,h,Fr.refl _⟩
 | false =>
  rw [hlv] at ft;simp only [↓qd,qp,aa,reduceIte,reduceEqDiff,t0,w12,qi,ft,w20,uh hal,w22];refine C3.q (qvb (M:=M) (line:=((a' / 8:Nat):Int)) h hci) λ v H1 ⟨hv,f1⟩=>?_;rw [hv];have hb:=h.em f1;cases ho:n.owned ((a' / 8:Nat):Int) with
  | false =>
   have ea:n.fq (a':Int) o y=n.ask 2 ((a' / 8:Nat):Int):=by
    unfold No.fq;rw [ql hmm,hlv,eln,ho];rfl
   have ev:n.cS (a':Int) o=(false,false,0):=by unfold No.cS;rw [ql hmm,hlv,eln,ho];rfl
   simp only [↓qd,qp,aa,reduceIte,reduceEqDiff];refine C3.q (NR (M:=M) hb hk 2 ((a' / 8:Nat):Int)) λ v H2 ⟨hms,hn,hfr⟩=>?_;unfold sG;rw [ea,ev];simp only [↓qd,qp,aa,reduceIte,reduceEqDiff];exact ⟨⟨v,rfl,hms.1,λ q=>xj f1.next (hms.2 q)⟩,hn,gi (jN f1) hfr⟩
  | true =>
   obtain ⟨i,hp,hst⟩:=q6t ho;have hw:(n.c.word a').2=some ((n.c.en i).d.get (a' % 8)):=by unfold Ca.word;rw [hp]
   have ea:n.fq (a':Int) o y=({ n with c:=if (n.c.en i).d.get (a' % 8)=o then (n.c.word a').1.put a' y else (n.c.word a').1 },[]):=by
    unfold No.fq;rw [ql hmm,hlv,eln,ho,qg (by decide),ql rfl];simp only [x9,hw,wq]
   have ev:n.cS (a':Int) o=(decide ((n.c.en i).d.get (a' % 8)=o),true,0):=by
    unfold No.cS;rw [ql hmm,hlv,eln,ho,qg (by decide),ql rfl];simp only [x9,hw,wq]
   simp only [↓qd,qp,aa,reduceIte,reduceEqDiff,w30,qi,hb.l2];refine C3.q (qzn (M:=M) hb.ca hci (by omega) hal) λ v H3 ⟨hv,h3,f3⟩=>?_;rw [hv];have hn:=hb.fp h3 f3 (by rw [(JB ..).1];exact h.len);unfold rX;rw [hp];have f13:Fr (fw r b sv bv) H H3:=gi (jN f1) (qO f3)
   by_cases q:(n.c.en i).d.get (a' % 8)=o
   ·rw [ql q] at ea;rw [Af q] at ev;simp only [↓qd,qp,aa,reduceIte,reduceEqDiff,qn,w32,xc q,qi,hn.l2];refine C3.q (q2h (M:=M) hn.ca (hci.word a') (by show (n.c.word a').1.us+1<=1000000;have:=(JB n.c a').2;omega) hal y) λ v H4 ⟨hv4,h4,f4⟩=>?_;have hn4:=hn.fp h4 f4 (by rw [(KN ..).1,(JB ..).1];exact h.len);unfold sG;rw [ea,ev];simp only [↓qd,qp,aa,reduceIte,reduceEqDiff,w38,xc q];exact ⟨⟨.nils,rfl,jJ.nil ..⟩,hn4,gi f13 (qO f4)⟩
   ·rw [qg q] at ea;rw [AO q] at ev;unfold sG;rw [ea,ev];simp only [↓qd,qp,aa,reduceIte,reduceEqDiff,qn,w32,q,w38];exact ⟨⟨.nils,rfl,jJ.nil ..⟩,hn,f13⟩
end
end Go.Am
namespace Go.Am
open Go.Proofs Ca
open Lang (ints)
variable {M:aA} [MK M]
structure BB (b:Bu):Prop where
 N4:b.ns.length<=4
 fl:b.fl.length<=900000
 no:∀ (c:Nat) n,b.ns[c]? = some n->n.NI/\n.aq.length<=900000/\n.c.us+2<=1000000
theorem Mh (n:No) (k l:Int):(n.ask k l).2.length<=1:=by unfold No.ask;split<;>simp
theorem q15 (n:No) (a:Int):(n.load a).2.2.2.1.length<=1:=by
 unfold No.load;split
 ·cases n.c.find (No.ln a) with
  | none=>exact Mh ..
  | some x=>simp
 ·simp
theorem qzg (n:No) (a y:Int):(n.store a y).2.2.1.length<=1:=by
 unfold No.store;split
 ·split
  ·simp
  ·exact Mh ..
 ·simp
theorem q5b (n:No) (a o y:Int):(n.fq a o y).2.length<=1:=by
 unfold No.fq;split
 ·split
  ·simp
  ·split
   ·simp
   ·exact Mh ..
 ·simp
theorem q1x (n:No) (x:En):(n.gone x).2.length<=1:=by unfold No.gone;split<;>simp
theorem qx4 (n:No) (l:Int):(n.aH l).2.length<=1:=by
 unfold No.aH;split
 ·simp
 ·cases n.c.find l with
  | none=>simp
  | some x=>exact q1x ..
theorem tB (n:No) (m:Mg):(n.fill m).2.length<=1:=by
 have:∀ (n:No) st,(n.bV m st).2.length<=1:=λ n st=>by
  unfold No.bV;split
  ·exact q1x ..
  ·simp
 unfold No.fill No.fG;generalize (if m.k=15 then (2:Int) else 1)=st;split<;>exact this _ _
theorem q12 (n:No) (m:Mg):(n.az m).2.length<=2:=by
 unfold No.az;split;· simp
 split;· simp
 split
 ·cases n.c.find m.line with
  | none=>simp
  | some x=>simp only;split<;>simp
 split;· simp
 cases n.c.find m.line with
 | some x=>simp
 | none =>
  have:=tB { n with out:=⟨0,0,0,.zero⟩ } m;simp only [qx,ky,vq];omega
section
variable {H0 H:AHeap} {B:Nat} {s:Bs} {b:Bu} {own:Nat->Nat} {c:Int} {n:No}
theorem bR.t {r b:Nat} {sv bv:AV} {n':No} {ks:List Nat} {H':AHeap} (h:bR H0 H' r b sv bv n' ks) (f:Fr (fw r b sv bv) H H'):nM H0 H r b sv bv n' H':=⟨bv,ks,h,f,λ _ q=>.inl q⟩
theorem dg.out (h:dg H0 H B s b own) (hb:BB b) {c:Nat} {n n':No} {A:Na} {H1:AHeap} {ov:AV} {ms:List Mg} (hn:b.ns[c]? = some n) (hA:s.ad[c]? = some A) (ht:nM H0 H A.r A.b A.sv A.bv n' H1) (hm:jJ H H1 ov ms) (hl:ms.length<=2) {Q:AV->AHeap->Prop} {r:AV}
 (hQ:∀ {H'},iB H0 H B s (b.put c (n',ms)) H'->Q r H'):zq M M9 [.ptr B 0,ov] H1 λ _ H'=>Q r H':=by
 obtain ⟨s',o',h1,q1,f1⟩:=h.node hn hA ht;have hfl:=hb.fl;exact (Om (M:=M) h1 hm.1 (by show b.fl.length+ms.length<=1000000;omega)).mono λ v H' hp=>hQ (iB.then f1 q1 hp)
theorem su (hn:b.ns[c.toNat]? = some n) (c0:0<=c):0<=c/\c<b.ns.length:=by have:=(qe.1 hn).1;omega
theorem q4v (h:dg H0 H B s b own) (hb:BB b) (c0:0<=c) (hn:b.ns[c.toNat]? = some n) (a:Int):zq M JO [.ptr B 0,.int .i64 c,.int .i64 a] H λ v H'=>v=.tuple [.int .u64 (n.load a).2.1,.bool (n.load a).2.2.1,.int .i64 (n.load a).2.2.2.2]/\iB H0 H B s (b.put c.toNat ((n.load a).1,(n.load a).2.2.2.1)) H':=by
 refine qlv ?_;obtain ⟨w0,w4,w12⟩:=qlw M ⟨none,JO⟩;simp only [↓qd,qp,aa,reduceIte,reduceEqDiff,w0];refine C3.q (rv (M:=M) h hb.N4 c) λ v H1 ⟨hh,h1,_⟩=>?_;obtain ⟨A,hA,hv⟩:=h1 (su hn c0);rw [hv,hh];have t0:=xc (show (0:Int)=0 from rfl);obtain ⟨ni,bk,us⟩:=hb.no _ n hn;have nr:=h.no _ n A hn hA;simp only [↓qd,qp,aa,reduceIte,reduceEqDiff,qn,w4,t0,w12];refine C3.q (q6f (M:=M) nr ni.ci bk (by omega) a) λ v H2 ⟨⟨ov,hv2,hms⟩,hnr,hf⟩=>?_;rw [hv2];simp only [↓qd,qp,aa,reduceIte,reduceEqDiff,qn];refine C3.q (h.out hb hn hA (hnr.t hf) hms (by have:=q15 n a;omega) (Q:=λ _ H'=>iB H0 H B s (b.put c.toNat ((n.load a).1,(n.load a).2.2.2.1)) H') (r:=.nils) id) λ v H3 hp=>?_;simp only [↓qd,qp,aa,reduceIte,reduceEqDiff];exact hp
theorem AB (h:dg H0 H B s b own) (hb:BB b) (hc:¬ (0<=c/\c<b.ns.length)) (a:Int):zq M JO [.ptr B 0,.int .i64 c,.int .i64 a] H λ v H'=>v=.tuple [.int .u64 0,.bool false,.int .i64 2]/\H'=H:=by
 refine qlv ?_;obtain ⟨w0,w4,w12⟩:=qlw M ⟨none,JO⟩;simp only [↓qd,qp,aa,reduceIte,reduceEqDiff,w0];refine C3.q (rv (M:=M) h hb.N4 c) λ v H1 ⟨hh,_,h1⟩=>?_;rw [h1 hc,hh];have t2:¬ (2:Int)=0:=by decide
 simp only [↓qd,qp,aa,reduceIte,reduceEqDiff,qn,w4,t2]
theorem q24 (h:dg H0 H B s b own) (hb:BB b) (c0:0<=c) (hn:b.ns[c.toNat]? = some n) (a y:Int):zq M I6 [.ptr B 0,.int .i64 c,.int .i64 a,.int .u64 y] H λ v H'=>v=.tuple [.bool (n.store a y).2.1,.int .i64 (n.store a y).2.2.2]/\iB H0 H B s (b.put c.toNat ((n.store a y).1,(n.store a y).2.2.1)) H':=by
 refine qkp ?_;obtain ⟨w0,w4,w12⟩:=qkq M ⟨none,I6⟩;simp only [↓qd,qp,aa,reduceIte,reduceEqDiff,w0];refine C3.q (rv (M:=M) h hb.N4 c) λ v H1 ⟨hh,h1,_⟩=>?_;obtain ⟨A,hA,hv⟩:=h1 (su hn c0);rw [hv,hh];have t0:=xc (show (0:Int)=0 from rfl);obtain ⟨ni,bk,us⟩:=hb.no _ n hn;have nr:=h.no _ n A hn hA;simp only [↓qd,qp,aa,reduceIte,reduceEqDiff,qn,w4,t0,w12];refine C3.q (q4g (M:=M) nr ni.ci bk (by omega) a y) λ v H2 ⟨⟨ov,hv2,hms⟩,hnr,hf⟩=>?_;rw [hv2];simp only [↓qd,qp,aa,reduceIte,reduceEqDiff,qn];refine C3.q (h.out hb hn hA (hnr.t hf) hms (by have:=qzg n a y;omega) (Q:=λ _ H'=>iB H0 H B s (b.put c.toNat ((n.store a y).1,(n.store a y).2.2.1)) H') (r:=.nils) id) λ v H3 hp=>?_;simp only [↓qd,qp,aa,reduceIte,reduceEqDiff];exact hp
theorem uc (h:dg H0 H B s b own) (hb:BB b) (hc:¬ (0<=c/\c<b.ns.length)) (a y:Int):zq M I6 [.ptr B 0,.int .i64 c,.int .i64 a,.int .u64 y] H λ v H'=>v=.tuple [.bool false,.int .i64 2]/\H'=H:=by
 refine qkp ?_;obtain ⟨w0,w4,w12⟩:=qkq M ⟨none,I6⟩;simp only [↓qd,qp,aa,reduceIte,reduceEqDiff,w0];refine C3.q (rv (M:=M) h hb.N4 c) λ v H1 ⟨hh,_,h1⟩=>?_;rw [h1 hc,hh];have t2:¬ (2:Int)=0:=by decide
 simp only [↓qd,qp,aa,reduceIte,reduceEqDiff,qn,w4,t2]
theorem ue (h:dg H0 H B s b own) (hb:BB b) (c0:0<=c) (hn:b.ns[c.toNat]? = some n) (a o y:Int):zq M HU [.ptr B 0,.int .i64 c,.int .i64 a,.int .u64 o,.int .u64 y] H λ v H'=>v=.tuple [.bool (n.cS a o).1,.bool (n.cS a o).2.1,.int .i64 (n.cS a o).2.2]/\iB H0 H B s (b.put c.toNat (n.fq a o y)) H':=by
 refine qmr ?_;obtain ⟨w0,w4,w12⟩:=qms M ⟨none,HU⟩;simp only [↓qd,qp,aa,reduceIte,reduceEqDiff,w0];refine C3.q (rv (M:=M) h hb.N4 c) λ v H1 ⟨hh,h1,_⟩=>?_;obtain ⟨A,hA,hv⟩:=h1 (su hn c0);rw [hv,hh];have t0:=xc (show (0:Int)=0 from rfl);obtain ⟨ni,bk,us⟩:=hb.no _ n hn;have nr:=h.no _ n A hn hA;simp only [↓qd,qp,aa,reduceIte,reduceEqDiff,qn,w4,t0,w12];refine C3.q (q5c (M:=M) nr ni.ci bk us a o y) λ v H2 ⟨⟨ov,hv2,hms⟩,hnr,hf⟩=>?_;rw [hv2];simp only [↓qd,qp,aa,reduceIte,reduceEqDiff,qn];refine C3.q (h.out hb hn hA (hnr.t hf) hms (by have:=q5b n a o y;omega) (Q:=λ _ H'=>iB H0 H B s (b.put c.toNat (n.fq a o y)) H') (r:=.nils) id) λ v H3 hp=>?_;simp only [↓qd,qp,aa,reduceIte,reduceEqDiff];exact hp
theorem Eo (h:dg H0 H B s b own) (hb:BB b) (hc:¬ (0<=c/\c<b.ns.length)) (a o y:Int):zq M HU [.ptr B 0,.int .i64 c,.int .i64 a,.int .u64 o,.int .u64 y] H λ v H'=>v=.tuple [.bool false,.bool false,.int .i64 2]/\H'=H:=by
 refine qmr ?_;obtain ⟨w0,w4,w12⟩:=qms M ⟨none,HU⟩;simp only [↓qd,qp,aa,reduceIte,reduceEqDiff,w0];refine C3.q (rv (M:=M) h hb.N4 c) λ v H1 ⟨hh,_,h1⟩=>?_;rw [h1 hc,hh];have t2:¬ (2:Int)=0:=by decide
 simp only [↓qd,qp,aa,reduceIte,reduceEqDiff,qn,w4,t2]
theorem qxo (h:dg H0 H B s b own) (hb:BB b) (c0:0<=c) (hn:b.ns[c.toNat]? = some n) (l:Int):zq M Ik [.ptr B 0,.int .i64 c,.int .i64 l] H λ v H'=>iB H0 H B s (b.put c.toNat (n.aH l)) H':=by
 refine qlr ?_;obtain ⟨w0,w4,w12⟩:=qls M ⟨none,Ik⟩;simp only [↓qd,qp,aa,reduceIte,reduceEqDiff,w0];refine C3.q (rv (M:=M) h hb.N4 c) λ v H1 ⟨hh,h1,_⟩=>?_;obtain ⟨A,hA,hv⟩:=h1 (su hn c0);rw [hv,hh];have t0:=xc (show (0:Int)=0 from rfl);obtain ⟨ni,bk,us⟩:=hb.no _ n hn;have nr:=h.no _ n A hn hA;simp only [↓qd,qp,aa,reduceIte,reduceEqDiff,qn,w4,t0,w12];refine C3.q (q4p (M:=M) nr ni.ci bk l) λ v H2 ⟨⟨ov,e,hv2,hms⟩,ht⟩=>?_;rw [hv2];simp only [↓qd,qp,aa,reduceIte,reduceEqDiff,qn];refine C3.q (h.out hb hn hA ht hms (by have:=qx4 n l;omega) (Q:=λ _ H'=>iB H0 H B s (b.put c.toNat (n.aH l)) H') (r:=.nils) id) λ v H3 hp=>?_;simp only [↓qd,qp,aa,reduceIte,reduceEqDiff];exact hp
theorem q2t (h:dg H0 H B s b own) (hb:BB b) (hc:¬ (0<=c/\c<b.ns.length)) (l:Int):zq M Ik [.ptr B 0,.int .i64 c,.int .i64 l] H λ v H'=>H'=H:=by
 refine qlr ?_;obtain ⟨w0,w4,w12⟩:=qls M ⟨none,Ik⟩;simp only [↓qd,qp,aa,reduceIte,reduceEqDiff,w0];refine C3.q (rv (M:=M) h hb.N4 c) λ v H1 ⟨hh,_,h1⟩=>?_;rw [h1 hc,hh];have t2:¬ (2:Int)=0:=by decide
 simp only [↓qd,qp,aa,reduceIte,reduceEqDiff,qn,w4,t2]
theorem qxp (h:dg H0 H B s b own) (hb:BB b) (c0:0<=c) (hn:b.ns[c.toNat]? = some n):zq M Dm [.ptr B 0,.int .i64 c] H λ v H'=>v=.bool n.live/\H'=H:=by
 refine qlt ?_;simp only [↓qd,qp,aa,reduceIte,reduceEqDiff,qlu];refine C3.q (rv (M:=M) h hb.N4 c) λ v H1 ⟨hh,h1,_⟩=>?_;obtain ⟨A,hA,hv⟩:=h1 (su hn c0);rw [hv,hh];have nr:=h.no _ n A hn hA;simp only [↓qd,qp,aa,reduceIte,reduceEqDiff,qn];refine C3.q (q6b (M:=M) nr) λ v H2 ⟨hv2,hh2⟩=>?_;rw [hv2,hh2];simp only [↓qd,qp,aa,reduceIte,reduceEqDiff]
end
end Go.Am
