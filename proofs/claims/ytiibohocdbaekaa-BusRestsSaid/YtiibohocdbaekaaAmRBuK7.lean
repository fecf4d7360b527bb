/- BuK7: BsA BsB NiP BsC. -/
import Derived.Test.YtiibohocdbaekaaAmRCodeK
import Derived.Test.YtiibohocdbaekaaAmRBuK6
import Derived.Test.YtiibohocdbaekaaAmRB4
import Derived.Test.YtiibohocdbaekaaAmRNmKa
set_option linter.unusedVariables false
set_option linter.unusedSimpArgs false
set_option linter.unusedSectionVars false
set_option maxRecDepth 100000
open Nat (reduceEqDiff)
namespace Go.Am
open Go.Proofs Ca
open Lang (ints)
variable {M:aO} [MK M]
structure Na where
 r:Nat
 b:Nat
 sv:AV
 bv:AV
 ks:List Nat
structure Bs where
 D:Nat
 mp:Nat
 lv:AV
 ev:AV
 xs:List (De × AV)
 nv:AV
 fv:AV
 ad:List Na
def pR (r:Nat):List AV:=[.ptr r 0]
theorem q1k (r:Nat):(pR r).length=1:=rfl
def Na.w (A:Na):Nat->Prop:=eQ A.r A.b A.sv A.bv
def Bs.dw (s:Bs):Nat->Prop:=gY s.D s.mp s.lv s.ev s.xs
def iz (B:Nat) (s:Bs) (z:Nat):Prop:=z=B\/s.dw z\/bH s.nv z\/bH s.fv z \/ ∃ (c:Nat) (A:Na),s.ad[c]? = some A/\A.w z
structure c6 (H0 H:AHeap) (B:Nat) (s:Bs) (b:Bu) (own:Nat->Nat):Prop where
 row:H.get B=some (OR [.ptr s.D 0,s.nv,s.fv,.int .i64 (b.l.length:Int)] wX)
 lt:B<H.next
 d:iq H s.D s.mp s.lv s.ev b.ns.length b.m s.xs
 dx:s.xs.map Prod.fst=b.l
 nv:eB pR zK 1 H s.nv (s.ad.map Na.r)
 no:∀ (c:Nat) (n:No) (A:Na),b.ns[c]? = some n->s.ad[c]? = some A->cd H0 H A.r A.b A.sv A.bv n A.ks
 al:s.ad.length=b.ns.length
 fl:Sk ai qk 11 H s.fv b.fl
 oB:own B=0
 oD:∀ z,s.dw z->own z=1
 oN:∀ z,bH s.nv z->own z=2
 oF:∀ z,bH s.fv z->own z=3
 oC:∀ (c:Nat) (A:Na),s.ad[c]? = some A -> ∀ z,A.w z->own z=4+c
 lo:∀ z,iz B s z->H0.next<=z
theorem cd.low {H0 H:AHeap} {r b:Nat} {sv bv:AV} {n:No} {ks:List Nat} (h:cd H0 H r b sv bv n ks) {z:Nat} (hz:eQ r b sv bv z):z<H.next:=by
 rcases hz with rfl|(rfl|rfl) | hz
 ·exact h.lt
 ·exact h.ca.lt
 ·exact h.ca.sl.lt
 ·exact (h.bk.fresh z hz).2
section
variable {H0 H:AHeap} {B:Nat} {s:Bs} {b:Bu} {own:Nat->Nat}
theorem c6.cE (h:c6 H0 H B s b own) {c:Nat} {n:No} (hn:b.ns[c]? = some n):∃ A,s.ad[c]? = some A/\cd H0 H A.r A.b A.sv A.bv n A.ks:=by
 have hl:=(ql.1 hn).1;have ha:s.ad[c]? = some (s.ad[c]'(by rw [h.al];exact hl)):=qv _;exact ⟨_,ha,h.no c n _ hn ha⟩
theorem c6.low (h:c6 H0 H B s b own) {z:Nat} (hz:iz B s z):z<H.next:=by
 rcases hz with rfl|hz|hz|hz|⟨c,A,hA,hz⟩
 ·exact h.lt
 ·exact h.d.low hz
 ·exact Own.lt h.nv z hz
 ·exact h.fl.lt z hz
 ·have hl:=(ql.1 hA).1;have hn:b.ns[c]? = some (b.ns[c]'(by rw [<-h.al];exact hl)):=qv _;exact (h.no c _ A hn hA).low hz
theorem c6.fr {H':AHeap} {W:Nat->Prop} (h:c6 H0 H B s b own) (f:Fr W H H') (hw:∀ z,W z->H0.next<=z /\ ¬ iz B s z):c6 H0 H' B s b own :=
 ⟨by rw [f.ae _ h.lt (λ q=>(hw _ q).2 (.inl rfl))];exact h.row,qn h.lt f.next,h.d.fr f (λ z q w=>(hw z q).2 (.inr (.inl w))),h.dx,Own.fr h.nv f (λ z hz q=>(hw z q).2 (.inr (.inr (.inl hz)))),
  λ c n A hn hA=>(h.no c n A hn hA).off f λ z q=>⟨(hw z q).1,λ w=>(hw z q).2 (.inr (.inr (.inr (.inr ⟨c,A,hA,w⟩))))⟩,h.al,h.fl.fr f (λ z hz q=>(hw z q).2 (.inr (.inr (.inr (.inl hz))))),h.oB,h.oD,h.oN,h.oF,h.oC,h.lo⟩
theorem c6.em {H':AHeap} (h:c6 H0 H B s b own) (f:Fr Em H H'):c6 H0 H' B s b own:=h.fr f λ z q=>q.elim
theorem c6.l1 (h:c6 H0 H B s b own):Op.aa [.ptr B 1] H=some s.nv:=zf (xb h.row) 1
theorem c6.l0 (h:c6 H0 H B s b own):Op.aa [.ptr B 0] H=some (.ptr s.D 0):=zf (xb h.row) 0
theorem c6.l2 (h:c6 H0 H B s b own):Op.aa [.ptr B 2] H=some s.fv:=zf (xb h.row) 2
theorem c6.l3 (h:c6 H0 H B s b own):Op.aa [.ptr B 3] H=some (.int .i64 (b.l.length:Int)):=zf (xb h.row) 3
def eR (own:Nat->Nat) (n k z:Nat):Nat:=if z<n then own z else k
theorem c6.node (h:c6 H0 H B s b own) {c:Nat} {n n':No} {A:Na} {H':AHeap} (hn:b.ns[c]? = some n) (hA:s.ad[c]? = some A) (ht:mh H0 H A.r A.b A.sv A.bv n' H') :
 ∃ s' own2,c6 H0 H' B s' { b with ns:=b.ns.set c n' } own2/\(∀ z,iz B s' z->iz B s z\/H.next<=z)/\Fr (iz B s) H H':=by
 obtain ⟨bv',ks',hr,f,hb⟩:=ht;have hcl:=(ql.1 hn).1;have hal:=(ql.1 hA).1;have fB:Fr (iz B s) H H':=f.mono λ z _ q=>.inr (.inr (.inr (.inr ⟨c,A,hA,q⟩)));have nw:∀ z,eQ A.r A.b A.sv A.bv z->own z=4+c:=h.oC c A hA;have has:∀ (d:Nat) (A2:Na),(s.ad.set c { A with bv:=bv',ks:=ks' })[d]? = some A2->(d=c/\A2 = { A with bv:=bv',ks:=ks' })\/d ≠ c/\s.ad[d]? = some A2:=λ d A2 hd=>by
  by_cases q:d=c
  ·subst q;rw [xp hal] at hd;injection hd with hd;exact .inl ⟨rfl,hd.symm⟩
  ·rw [xx (vp q)] at hd;exact .inr ⟨q,hd⟩
 have hW:∀ z,iz B { s with ad:=s.ad.set c { A with bv:=bv',ks:=ks' } } z->iz B s z\/H.next<=z:=λ z hz=>by
  rcases hz with hz|hz|hz|hz|⟨d,A2,hd,hz⟩
  ·exact .inl (.inl hz)
  ·exact .inl (.inr (.inl hz))
  ·exact .inl (.inr (.inr (.inl hz)))
  ·exact .inl (.inr (.inr (.inr (.inl hz))))
  ·rcases has d A2 hd with ⟨rfl,rfl⟩|⟨q,hd⟩
   ·rcases hz with hz|hz|hz
    ·exact .inl (.inr (.inr (.inr (.inr ⟨d,A,hA,.inl hz⟩))))
    ·exact .inl (.inr (.inr (.inr (.inr ⟨d,A,hA,.inr (.inl hz)⟩))))
    ·rcases hb z hz with w|w
     ·exact .inl (.inr (.inr (.inr (.inr ⟨d,A,hA,.inr (.inr w)⟩))))
     ·exact .inr w
   ·exact .inl (.inr (.inr (.inr (.inr ⟨d,A2,hd,hz⟩))))
 have H0n:H0.next<=H.next:=by have:=h.lo B (.inl rfl);have:=h.lt;omega
 have ne:∀ {z k:Nat},own z=k->k ≠ 4+c -> ¬ eQ A.r A.b A.sv A.bv z:=λ e1 e2 q=>e2 (by rw [<-e1];exact nw _ q);have ow:∀ {z:Nat},z<H.next->eR own H.next (4+c) z=own z:=λ q=>qm q
 refine ⟨{ s with ad:=s.ad.set c { A with bv:=bv',ks:=ks' } },eR own H.next (4+c),⟨?_,qn h.lt f.next,?_,h.dx,?_,λ d n2 A2 hn2 hA2=>?_,?_,?_,?_,λ z hz=>?_,λ z hz=>?_,λ z hz=>?_,λ d A2 hd z hz=>?_,λ z hz=>?_⟩,hW,fB⟩
 ·rw [f.ae _ h.lt (ne h.oB (by omega))];exact h.row
 ·simp only [qz];exact h.d.fr f λ z q w=>ne (h.oD z w) (by omega) q
 ·have:(s.ad.set c { A with bv:=bv',ks:=ks' }).map Na.r=s.ad.map Na.r:=by
   rw [List.map_set];apply kx;intro j
   by_cases q:j=c
   ·rw [q,xp (by rw [zb];exact hal),xm,hA];rfl
   ·rw [xx (vp q)]
  simp only [this];exact Own.fr h.nv f λ z hz q=>ne (h.oN z hz) (by omega) q
 ·have hn2:(b.ns.set c n')[d]? = some n2:=hn2;rcases has d A2 hA2 with ⟨rfl,rfl⟩|⟨q,hd⟩
  ·rw [xp hcl] at hn2;injection hn2 with hn2;subst hn2;exact hr
  ·rw [xx (vp q)] at hn2;refine (h.no d n2 A2 hn2 hd).off f λ z w=>⟨h.lo z (.inr (.inr (.inr (.inr ⟨c,A,hA,w⟩)))),λ w2=>?_⟩
   have e1:=h.oC d A2 hd z w2;have e2:=nw z w;omega
 ·simp only [qz];exact h.al
 ·exact h.fl.fr f λ z hz q=>ne (h.oF z hz) (by omega) q
 ·rw [ow h.lt];exact h.oB
 ·rw [ow (h.low (.inr (.inl hz)))];exact h.oD z hz
 ·rw [ow (h.low (.inr (.inr (.inl hz))))];exact h.oN z hz
 ·rw [ow (h.low (.inr (.inr (.inr (.inl hz)))))];exact h.oF z hz
 ·rcases has d A2 hd with ⟨rfl,rfl⟩|⟨q,hd⟩
  ·unfold eR;split
   ·rename_i q;rcases hz with hz|hz|hz
    ·exact nw z (.inl hz)
    ·exact nw z (.inr (.inl hz))
    ·rcases hb z hz with w|w
     ·exact nw z (.inr (.inr w))
     ·omega
   ·rfl
  ·rw [ow (h.low (.inr (.inr (.inr (.inr ⟨d,A2,hd,hz⟩)))))];exact h.oC d A2 hd z hz
 ·rcases hW z hz with w|w
  ·exact h.lo z w
  ·omega
end
end Go.Am
namespace Go.Am
open Go.Proofs Ca
open Lang (ints)
variable {M:aO} [MK M]
def gB (H0 H:AHeap) (B:Nat) (s:Bs) (b':Bu) (H':AHeap):Prop:=∃ s' eR,c6 H0 H' B s' b' eR/\(∀ z,iz B s' z->iz B s z\/H.next<=z)/\Fr (iz B s) H H'
section
variable {H0 H:AHeap} {B:Nat} {s:Bs} {b:Bu} {own:Nat->Nat}
theorem c6.same (h:c6 H0 H B s b own) {H':AHeap} (f:Fr Em H H'):gB H0 H B s b H':=⟨s,own,h.em f,λ _ q=>.inl q,f.mono λ _ _ q=>q.elim⟩
theorem gB.then {H1 H2:AHeap} {s1:Bs} {b':Bu} (f1:Fr (iz B s) H H1) (hs:∀ z,iz B s1 z->iz B s z\/H.next<=z) (h:gB H0 H1 B s1 b' H2):gB H0 H B s b' H2:=by
 obtain ⟨s2,o2,r,q,f⟩:=h;refine ⟨s2,o2,r,λ z hz=>(q z hz).elim (hs z) λ w=>.inr (xt f1.next w),f1.trans f λ z hz=>hs z hz⟩
theorem gB.em {H1 H2:AHeap} {b':Bu} (h:gB H0 H B s b' H1) (f:Fr Em H1 H2):gB H0 H B s b' H2:=by
 obtain ⟨s2,o2,r,q,g⟩:=h;exact ⟨s2,o2,r.em f,q,g.trans f λ _ w=>w.elim⟩
theorem gB.pre {H1 H2:AHeap} {b':Bu} (f:Fr Em H H1) (h:gB H0 H1 B s b' H2):gB H0 H B s b' H2:=gB.then (f.mono λ _ _ q=>q.elim) (λ _ q=>.inl q) h
theorem c6.uI (h:c6 H0 H B s b own) {H1:AHeap} {v':AV} {fl':List Mg} (hk:Sk ai qk 11 H1 v' fl') (f:Fr (bH s.fv) H H1) (hv:∀ z,bH v' z->bH s.fv z\/H.next<=z):∃ H',Op.store 1 [.ptr B 2,v'] H1=some (.undef,H')/\gB H0 H B s { b with fl:=fl' } H':=by
 have h1:br v'=true:=hk.one;have ne:∀ {z k:Nat},own z=k->k ≠ 3 -> ¬ bH s.fv z:=λ e1 e2 q=>e2 (by rw [<-e1];exact h.oF _ q);have hB:H1.get B=some (OR [.ptr s.D 0,s.nv,s.fv,.int .i64 (b.l.length:Int)] wX):=by rw [f.ae _ h.lt (ne h.oB (by decide))];exact h.row
 have hc:v'.cells=[v']:=by cases v'<;>first|rfl|cases h1
 have st:=po hB (o:=2) (n:=1) (v:=v') (by rw [hc];rfl) (by simp) (by rw [hc,nU];simpa using h1);rw [hc] at st;have fB:Fr (iz B s) H H1:=f.mono λ z _ q=>.inr (.inr (.inr (.inl q)));have H0n:H0.next<=H.next:=by have:=h.lo B (.inl rfl);have:=h.lt;omega
 have hW:∀ z,iz B { s with fv:=v' } z->iz B s z\/H.next<=z:=λ z hz=>by
  rcases hz with hz|hz|hz|hz|hz
  ·exact .inl (.inl hz)
  ·exact .inl (.inr (.inl hz))
  ·exact .inl (.inr (.inr (.inl hz)))
  ·rcases hv z hz with w|w
   ·exact .inl (.inr (.inr (.inr (.inl w))))
   ·exact .inr w
  ·exact .inl (.inr (.inr (.inr (.inr hz))))
 have ow:∀ {z:Nat},z<H.next->eR own H.next 3 z=own z:=λ q=>qm q
 have f2:Fr (On B) H1 (H1.set B (OR ([AV.ptr s.D 0,s.nv,s.fv,.int .i64 (b.l.length:Int)].take 2 ++ [v'] ++ [AV.ptr s.D 0,s.nv,s.fv,.int .i64 (b.l.length:Int)].drop (2+1)) wX)):=(Fr.refl H1).set (W:=On B) (.inl rfl) _;have nB:∀ {z k:Nat},own z=k->k ≠ 0 -> ¬ z=B:=λ e1 e2 q=>e2 (by rw [<-e1,q];exact h.oB);refine ⟨_,st,{ s with fv:=v' },eR own H.next 3,⟨xd ..,?_,?_,h.dx,?_,λ c n A hn hA=>?_,h.al,?_,?_,λ z hz=>?_,λ z hz=>?_,λ z hz=>?_,λ c A hA z hz=>?_,λ z hz=>?_⟩,hW,fB.trans f2 λ z q=>.inl (.inl q)⟩
 ·exact qn h.lt (xt f.next f2.next)
 ·exact (h.d.fr f λ z q w=>ne (h.oD z w) (by decide) q).fr f2 λ z q w=>nB (h.oD z w) (by decide) q
 ·exact Own.fr (Own.fr h.nv f λ z hz q=>ne (h.oN z hz) (by decide) q) f2 λ z hz q=>nB (h.oN z hz) (by decide) q
 ·refine ((h.no c n A hn hA).off f λ z w=>⟨h.lo z (.inr (.inr (.inr (.inl w)))),λ w2=>?_⟩).off f2 λ z w=>?_
  ·have:=h.oC c A hA z w2;have:=h.oF z w;omega
  ·have w:z=B:=w;refine ⟨by rw [w];exact h.lo B (.inl rfl),λ w2=>?_⟩;have:=h.oC c A hA z w2;rw [w,h.oB] at this;omega
 ·refine hk.fr f2 λ z hz q=>?_;have q:z=B:=q;rcases hv z hz with w|w
  ·rw [q] at w;exact ne h.oB (by decide) w
  ·have:=h.lt;omega
 ·rw [ow h.lt];exact h.oB
 ·rw [ow (h.low (.inr (.inl hz)))];exact h.oD z hz
 ·rw [ow (h.low (.inr (.inr (.inl hz))))];exact h.oN z hz
 ·unfold eR;split
  ·rcases hv z hz with w|w
   ·exact h.oF z w
   ·omega
  ·rfl
 ·rw [ow (h.low (.inr (.inr (.inr (.inr ⟨c,A,hA,hz⟩)))))];exact h.oC c A hA z hz
 ·rcases hW z hz with w|w
  ·exact h.lo z w
  ·omega
theorem q4w (l:List Mg):ba (l.flatMap ai)=true:=by
 rw [nU,List.all_flatMap,Bm];intro x _;have:=jS x;rw [nU] at this;exact this
theorem KJ (h:c6 H0 H B s b own) {ov:AV} {ms:List Mg} (hm:ep ai 11 H ov ms) (hl:b.fl.length+ms.length<=1000000):jv M vM [.ptr B 0,ov] H λ _ H'=>gB H0 H B s { b with fl:=b.fl++ms } H':=by
 refine qxb ?_;obtain ⟨v1,H1,s1,k1,f1,o1⟩:=h.fl.app xu (by decide) (ys:=ms) rfl rfl (Sl.dS hm) (Sl.first hm) (q4w ms) (bytes:=88) (by omega) (by omega);obtain ⟨H2,s2,r2⟩:=h.uI k1 f1 o1;simp only [↓qh,xa,reduceIte,reduceEqDiff,qxc,qf,h.l2,s1,s2];exact r2
theorem qN (h:c6 H0 H B s b own) (hN:b.ns.length<=4) (c:Int):jv M qM [.ptr B 0,.int .i64 c] H λ v H'=>H'=H/\((0<=c/\c<b.ns.length -> ∃ A,s.ad[c.toNat]? = some A/\v=.tuple [.ptr A.r 0,.int .i64 0])/\(¬ (0<=c/\c<b.ns.length)->v=.tuple [.nilp,.int .i64 2])):=by
 refine q06 ?_;obtain ⟨w0,w2,w17⟩:=q07 M ⟨none,qM⟩;have hln:=h.nv.sl.len;rw [zb,h.al] at hln
 by_cases q0:c<0
 ·simp only [↓qh,xa,reduceIte,reduceEqDiff,w0,w2,yk,xj q0];exact ⟨λ q=>by omega,λ _=>trivial⟩
 by_cases q1:((b.ns.length:Nat):Int)<=c
 ·simp only [↓qh,xa,reduceIte,reduceEqDiff,w0,w2,yk,q0,qf,h.l1,hln,xj q1];exact ⟨λ q=>by omega,λ _=>trivial⟩
 have hlt:c.toNat<s.ad.length:=by rw [h.al];omega
 have hA:s.ad[c.toNat]? = some (s.ad[c.toNat]):=qv hlt;have hx:(s.ad.map Na.r)[c.toNat]? = some (s.ad[c.toNat]).r:=by rw [xm,hA];rfl
 have ix:=h.nv.sl.idx hx (z:=c) (by omega) .i64;have ld:=h.nv.sl.lT q1k hx (by decide);have ld:Op.aa [.ptr (aM s.nv) (cu 1 s.nv c.toNat)] H=some (.ptr (s.ad[c.toNat]).r 0):=ld;simp only [↓qh,xa,reduceIte,reduceEqDiff,w0,w2,yk,q0,qf,h.l1,hln,q1,w17,ix,ld];exact ⟨λ _=>⟨_,hA,rfl⟩,λ q=>absurd ⟨by omega,by omega⟩ q⟩
end
end Go.Am
namespace Go.Am
open Go.Proofs Ca
open Lang (ints)
variable {M:aO} [MK M]
def No.cS (n:No) (a o:Int):Bool × Bool × Int:=if n.may a then if n.live then (false,false,41) else if n.owned (No.ln a) then (decide ((n.c.word a.toNat).2.getD 0=o),true,0) else (false,false,0) else (false,false,2)
section
variable {H0 H:AHeap} {r b:Nat} {sv bv:AV} {n:No} {ks:List Nat}
theorem q28 (h:cd H0 H r b sv bv n ks):jv M Cn [.ptr r 0] H λ v H'=>v=.int .i64 (if n.live=true then 41 else 0)/\cd H0 H' r b sv bv n.begin ks/\Fr (eQ r b sv bv) H H':=by
 refine qrw ?_;obtain ⟨w0,w2,w17⟩:=qrx M ⟨none,Cn⟩;have eO:=h.eO;unfold No.begin;cases hl:n.live with
 | true =>
  rw [hl] at eO;simp only [↓qh,xa,reduceIte,reduceEqDiff,w0,w2,yk,qf,eO];exact ⟨h,Fr.refl _⟩
 | false =>
  rw [hl] at eO;obtain ⟨H2,s2,h2,f2⟩:=h.mz true;obtain ⟨H3,s3,h3,f3⟩:=h2.pA 0;simp only [↓qh,xa,reduceIte,reduceEqDiff,w0,w2,yk,qf,eO,w17,s2,s3];exact ⟨by first|rfl|trivial|(simp),by rw [qd (by decide)];exact h3,fI (Ci f2) (Ci f3)⟩
theorem qz9 (h:cd H0 H r b sv bv n ks):jv M DB [.ptr r 0] H λ v H'=>v=.int .i64 (if n.live=true then 0 else 40)/\cd H0 H' r b sv bv n.bn ks/\Fr (eQ r b sv bv) H H':=by
 refine qqm ?_;obtain ⟨w0,w2,w17⟩:=qqn M ⟨none,DB⟩;have eO:=h.eO;unfold No.bn;cases hl:n.live with
 | false =>
  rw [hl] at eO;simp only [↓qh,xa,reduceIte,reduceEqDiff,w0,w2,yk,qf,eO];exact ⟨by first|rfl|trivial|(simp),by rw [qd (by decide)];exact h,Fr.refl _⟩
 | true =>
  rw [hl] at eO;simp only [↓qh,xa,reduceIte,reduceEqDiff,w0,w2,yk,qf,eO,w17,h.l2];refine C3.q (quu (M:=M) h.ca h.len) λ _ H1 ⟨h1,f1⟩=>?_;have hn1:=h.eI h1 f1 (by show (n.c.sl.map iG).length<=40;rw [zb];exact h.len);obtain ⟨H2,s2,h2,f2⟩:=hn1.mz false;simp only [↓qh,xa,reduceIte,reduceEqDiff,qf,s2];exact ⟨h2,fI (pk f1) (Ci f2)⟩
def ra (H0 H:AHeap) (r b:Nat) (sv bv:AV) (n:No) (ks:List Nat) (a o y:Int) (v:AV) (H':AHeap):Prop:=(∃ ov,v=.tuple [.bool (n.cS a o).1,.bool (n.cS a o).2.1,ov,.int .i64 (n.cS a o).2.2]/\ir H H' ov (n.eD a o y).2)/\cd H0 H' r b sv bv (n.eD a o y).1 ks/\Fr (eQ r b sv bv) H H'
theorem q8a (h:cd H0 H r b sv bv n ks) (hci:CI n.lines n.c) (hk:n.au.length<=900000) (hu:n.c.us+2<=1000000) (a o y:Int):jv M Di [.ptr r 0,.int .i64 a,.int .u64 o,.int .u64 y] H (ra H0 H r b sv bv n ks a o y):=by
 refine qwb ?_;obtain ⟨w0,w2,w12,w20,w22,w30,w32,w38⟩:=qwc M ⟨none,Di⟩;simp only [↓qh,xa,reduceIte,reduceEqDiff,w0,w2];refine C3.q (KC (M:=M) h a) λ v H1 ⟨hv,hh⟩=>?_;rw [hv,hh]
 by_cases hm:n.may a
 case neg =>
  have ea:n.eD a o y=(n,[]):=by unfold No.eD;rw [qd hm]
  have ev:n.cS a o=(false,false,2):=by unfold No.cS;rw [qd hm]
  have t2:¬ (2:Int)=0:=by decide
  rw [qd hm];unfold ra;rw [ea,ev];simp only [↓qh,xa,reduceIte,reduceEqDiff,t2];exact ⟨⟨.nils,rfl,ir.nil ..⟩,h,Fr.refl _⟩
 rw [qm hm];have hl:=h.li;obtain ⟨m1,m2⟩:=hm;obtain ⟨a',rfl⟩:=kj m1;have hal:a'<1000000:=by omega
 have hmm:n.may (a':Int):=⟨m1,m2⟩
 have eln:No.ln (a':Int)=((a' / 8:Nat):Int):=rfl;have t0:=xj (show (0:Int)=0 from rfl);have eO:=h.eO;cases hlv:n.live with
 | true =>
  have ea:n.eD (a':Int) o y=(n,[]):=by unfold No.eD;rw [qm hmm,hlv];rfl
  have ev:n.cS (a':Int) o=(false,false,41):=by unfold No.cS;rw [qm hmm,hlv];rfl
  rw [hlv] at eO;unfold ra;rw [ea,ev];simp only [↓qh,xa,reduceIte,reduceEqDiff,t0,w12,qf,eO];exact ⟨⟨.nils,rfl,ir.nil ..⟩,h,Fr.refl _⟩
 | false =>
  rw [hlv] at eO;simp only [↓qh,xa,reduceIte,reduceEqDiff,t0,w12,qf,eO,w20,vV hal,w22];refine C3.q (qyj (M:=M) (line:=((a' / 8:Nat):Int)) h hci) λ v H1 ⟨hv,f1⟩=>?_;rw [hv];have hb:=h.em f1;cases ho:n.owned ((a' / 8:Nat):Int) with
  | false =>
   have ea:n.eD (a':Int) o y=n.ask 2 ((a' / 8:Nat):Int):=by
    unfold No.eD;rw [qm hmm,hlv,eln,ho];rfl
   have ev:n.cS (a':Int) o=(false,false,0):=by unfold No.cS;rw [qm hmm,hlv,eln,ho];rfl
   simp only [↓qh,xa,reduceIte,reduceEqDiff];refine C3.q (Nx (M:=M) hb hk 2 ((a' / 8:Nat):Int)) λ v H2 ⟨hms,hn,hfr⟩=>?_;unfold ra;rw [ea,ev];simp only [↓qh,xa,reduceIte,reduceEqDiff];exact ⟨⟨v,rfl,hms.1,λ q=>xt f1.next (hms.2 q)⟩,hn,fI (iB f1) hfr⟩
  | true =>
   obtain ⟨i,hp,hst⟩:=q9p ho;have hw:(n.c.word a').2=some ((n.c.en i).d.get (a' % 8)):=by unfold Ca.word;rw [hp]
   have ea:n.eD (a':Int) o y=({ n with c:=if (n.c.en i).d.get (a' % 8)=o then (n.c.word a').1.put a' y else (n.c.word a').1 },[]):=by
    unfold No.eD;rw [qm hmm,hlv,eln,ho,qd (by decide),qm rfl];simp only [ze,hw,yF]
   have ev:n.cS (a':Int) o=(decide ((n.c.en i).d.get (a' % 8)=o),true,0):=by
    unfold No.cS;rw [qm hmm,hlv,eln,ho,qd (by decide),qm rfl];simp only [ze,hw,yF]
   simp only [↓qh,xa,reduceIte,reduceEqDiff,w30,qf,hb.l2];refine C3.q (q2w (M:=M) hb.ca hci (by omega) hal) λ v H3 ⟨hv,h3,f3⟩=>?_;rw [hv];have hn:=hb.eI h3 f3 (by rw [(Is ..).1];exact h.len);unfold pB;rw [hp];have f13:Fr (eQ r b sv bv) H H3:=fI (iB f1) (pk f3)
   by_cases q:(n.c.en i).d.get (a' % 8)=o
   ·rw [qm q] at ea;rw [DG q] at ev;simp only [↓qh,xa,reduceIte,reduceEqDiff,qp,w32,xj q,qf,hn.l2];refine C3.q (q5l (M:=M) hn.ca (hci.word a') (by show (n.c.word a').1.us+1<=1000000;have:=(Is n.c a').2;omega) hal y) λ v H4 ⟨hv4,h4,f4⟩=>?_;have hn4:=hn.eI h4 f4 (by rw [(Ka ..).1,(Is ..).1];exact h.len);unfold ra;rw [ea,ev];simp only [↓qh,xa,reduceIte,reduceEqDiff,w38,xj q];exact ⟨⟨.nils,rfl,ir.nil ..⟩,hn4,fI f13 (pk f4)⟩
   ·rw [qd q] at ea;rw [Er q] at ev;unfold ra;rw [ea,ev];simp only [↓qh,xa,reduceIte,reduceEqDiff,qp,w32,q,w38];exact ⟨⟨.nils,rfl,ir.nil ..⟩,hn,f13⟩
end
end Go.Am
namespace Go.Am
open Go.Proofs Ca
open Lang (ints)
variable {M:aO} [MK M]
structure BB (b:Bu):Prop where
 N4:b.ns.length<=4
 fl:b.fl.length<=900000
 no:∀ (c:Nat) n,b.ns[c]? = some n->n.NI/\n.au.length<=900000/\n.c.us+2<=1000000
theorem Mc (n:No) (k l:Int):(n.ask k l).2.length<=1:=by unfold No.ask;split<;>simp
theorem q5b (n:No) (a:Int):(n.load a).2.2.2.1.length<=1:=by
 unfold No.load;split
 ·cases n.c.find (No.ln a) with
  | none=>exact Mc ..
  | some x=>simp
 ·simp
theorem q2p (n:No) (a y:Int):(n.store a y).2.2.1.length<=1:=by
 unfold No.store;split
 ·split
  ·simp
  ·exact Mc ..
 ·simp
theorem q79 (n:No) (a o y:Int):(n.eD a o y).2.length<=1:=by
 unfold No.eD;split
 ·split
  ·simp
  ·split
   ·simp
   ·exact Mc ..
 ·simp
theorem q43 (n:No) (x:En):(n.gone x).2.length<=1:=by unfold No.gone;split<;>simp
theorem q1g (n:No) (l:Int):(n.aQ l).2.length<=1:=by
 unfold No.aQ;split
 ·simp
 ·cases n.c.find l with
  | none=>simp
  | some x=>exact q43 ..
theorem rE (n:No) (m:Mg):(n.fill m).2.length<=1:=by
 have:∀ (n:No) st,(n.cI m st).2.length<=1:=λ n st=>by
  unfold No.cI;split
  ·exact q43 ..
  ·simp
 unfold No.fill No.fZ;generalize (if m.k=15 then (2:Int) else 1)=st;split<;>exact this _ _
theorem q47 (n:No) (m:Mg):(n.av m).2.length<=2:=by
 unfold No.av;split;· simp
 split;· simp
 split
 ·cases n.c.find m.line with
  | none=>simp
  | some x=>simp only;split<;>simp
 split;· simp
 cases n.c.find m.line with
 | some x=>simp
 | none =>
  have:=rE { n with out:=⟨0,0,0,.zero⟩ } m;simp only [qu,jx,vx];omega
section
variable {H0 H:AHeap} {B:Nat} {s:Bs} {b:Bu} {own:Nat->Nat} {c:Int} {n:No}
theorem cd.t {r b:Nat} {sv bv:AV} {n':No} {ks:List Nat} {H':AHeap} (h:cd H0 H' r b sv bv n' ks) (f:Fr (eQ r b sv bv) H H'):mh H0 H r b sv bv n' H':=⟨bv,ks,h,f,λ _ q=>.inl q⟩
theorem c6.out (h:c6 H0 H B s b own) (hb:BB b) {c:Nat} {n n':No} {A:Na} {H1:AHeap} {ov:AV} {ms:List Mg} (hn:b.ns[c]? = some n) (hA:s.ad[c]? = some A) (ht:mh H0 H A.r A.b A.sv A.bv n' H1) (hm:ir H H1 ov ms) (hl:ms.length<=2) {Q:AV->AHeap->Prop} {r:AV}
 (hQ:∀ {H'},gB H0 H B s (b.put c (n',ms)) H'->Q r H'):jv M vM [.ptr B 0,ov] H1 λ _ H'=>Q r H':=by
 obtain ⟨s',o',h1,q1,f1⟩:=h.node hn hA ht;have hfl:=hb.fl;exact (KJ (M:=M) h1 hm.1 (by show b.fl.length+ms.length<=1000000;omega)).mono λ v H' hp=>hQ (gB.then f1 q1 hp)
theorem qU (hn:b.ns[c.toNat]? = some n) (c0:0<=c):0<=c/\c<b.ns.length:=by have:=(ql.1 hn).1;omega
theorem q7q (h:c6 H0 H B s b own) (hb:BB b) (c0:0<=c) (hn:b.ns[c.toNat]? = some n) (a:Int):jv M zO [.ptr B 0,.int .i64 c,.int .i64 a] H λ v H'=>v=.tuple [.int .u64 (n.load a).2.1,.bool (n.load a).2.2.1,.int .i64 (n.load a).2.2.2.2]/\gB H0 H B s (b.put c.toNat ((n.load a).1,(n.load a).2.2.2.1)) H':=by
 refine qof ?_;obtain ⟨w0,w4,w12⟩:=qog M ⟨none,zO⟩;simp only [↓qh,xa,reduceIte,reduceEqDiff,w0];refine C3.q (qN (M:=M) h hb.N4 c) λ v H1 ⟨hh,h1,_⟩=>?_;obtain ⟨A,hA,hv⟩:=h1 (qU hn c0);rw [hv,hh];have t0:=xj (show (0:Int)=0 from rfl);obtain ⟨ni,bk,us⟩:=hb.no _ n hn;have nr:=h.no _ n A hn hA;simp only [↓qh,xa,reduceIte,reduceEqDiff,qp,w4,t0,w12];refine C3.q (q9b (M:=M) nr ni.ci bk (by omega) a) λ v H2 ⟨⟨ov,hv2,hms⟩,hnr,hf⟩=>?_;rw [hv2];simp only [↓qh,xa,reduceIte,reduceEqDiff,qp];refine C3.q (h.out hb hn hA (hnr.t hf) hms (by have:=q5b n a;omega) (Q:=λ _ H'=>gB H0 H B s (b.put c.toNat ((n.load a).1,(n.load a).2.2.2.1)) H') (r:=.nils) id) λ v H3 hp=>?_;simp only [↓qh,xa,reduceIte,reduceEqDiff];exact hp
theorem xX (h:c6 H0 H B s b own) (hb:BB b) (hc:¬ (0<=c/\c<b.ns.length)) (a:Int):jv M zO [.ptr B 0,.int .i64 c,.int .i64 a] H λ v H'=>v=.tuple [.int .u64 0,.bool false,.int .i64 2]/\H'=H:=by
 refine qof ?_;obtain ⟨w0,w4,w12⟩:=qog M ⟨none,zO⟩;simp only [↓qh,xa,reduceIte,reduceEqDiff,w0];refine C3.q (qN (M:=M) h hb.N4 c) λ v H1 ⟨hh,_,h1⟩=>?_;rw [h1 hc,hh];have t2:¬ (2:Int)=0:=by decide
 simp only [↓qh,xa,reduceIte,reduceEqDiff,qp,w4,t2]
theorem q57 (h:c6 H0 H B s b own) (hb:BB b) (c0:0<=c) (hn:b.ns[c.toNat]? = some n) (a y:Int):jv M zG [.ptr B 0,.int .i64 c,.int .i64 a,.int .u64 y] H λ v H'=>v=.tuple [.bool (n.store a y).2.1,.int .i64 (n.store a y).2.2.2]/\gB H0 H B s (b.put c.toNat ((n.store a y).1,(n.store a y).2.2.1)) H':=by
 refine qmv ?_;obtain ⟨w0,w4,w12⟩:=qmw M ⟨none,zG⟩;simp only [↓qh,xa,reduceIte,reduceEqDiff,w0];refine C3.q (qN (M:=M) h hb.N4 c) λ v H1 ⟨hh,h1,_⟩=>?_;obtain ⟨A,hA,hv⟩:=h1 (qU hn c0);rw [hv,hh];have t0:=xj (show (0:Int)=0 from rfl);obtain ⟨ni,bk,us⟩:=hb.no _ n hn;have nr:=h.no _ n A hn hA;simp only [↓qh,xa,reduceIte,reduceEqDiff,qp,w4,t0,w12];refine C3.q (q7e (M:=M) nr ni.ci bk (by omega) a y) λ v H2 ⟨⟨ov,hv2,hms⟩,hnr,hf⟩=>?_;rw [hv2];simp only [↓qh,xa,reduceIte,reduceEqDiff,qp];refine C3.q (h.out hb hn hA (hnr.t hf) hms (by have:=q2p n a y;omega) (Q:=λ _ H'=>gB H0 H B s (b.put c.toNat ((n.store a y).1,(n.store a y).2.2.1)) H') (r:=.nils) id) λ v H3 hp=>?_;simp only [↓qh,xa,reduceIte,reduceEqDiff];exact hp
theorem vJ (h:c6 H0 H B s b own) (hb:BB b) (hc:¬ (0<=c/\c<b.ns.length)) (a y:Int):jv M zG [.ptr B 0,.int .i64 c,.int .i64 a,.int .u64 y] H λ v H'=>v=.tuple [.bool false,.int .i64 2]/\H'=H:=by
 refine qmv ?_;obtain ⟨w0,w4,w12⟩:=qmw M ⟨none,zG⟩;simp only [↓qh,xa,reduceIte,reduceEqDiff,w0];refine C3.q (qN (M:=M) h hb.N4 c) λ v H1 ⟨hh,_,h1⟩=>?_;rw [h1 hc,hh];have t2:¬ (2:Int)=0:=by decide
 simp only [↓qh,xa,reduceIte,reduceEqDiff,qp,w4,t2]
theorem uT (h:c6 H0 H B s b own) (hb:BB b) (c0:0<=c) (hn:b.ns[c.toNat]? = some n) (a o y:Int):jv M AA [.ptr B 0,.int .i64 c,.int .i64 a,.int .u64 o,.int .u64 y] H λ v H'=>v=.tuple [.bool (n.cS a o).1,.bool (n.cS a o).2.1,.int .i64 (n.cS a o).2.2]/\gB H0 H B s (b.put c.toNat (n.eD a o y)) H':=by
 refine qpm ?_;obtain ⟨w0,w4,w12⟩:=qpn M ⟨none,AA⟩;simp only [↓qh,xa,reduceIte,reduceEqDiff,w0];refine C3.q (qN (M:=M) h hb.N4 c) λ v H1 ⟨hh,h1,_⟩=>?_;obtain ⟨A,hA,hv⟩:=h1 (qU hn c0);rw [hv,hh];have t0:=xj (show (0:Int)=0 from rfl);obtain ⟨ni,bk,us⟩:=hb.no _ n hn;have nr:=h.no _ n A hn hA;simp only [↓qh,xa,reduceIte,reduceEqDiff,qp,w4,t0,w12];refine C3.q (q8a (M:=M) nr ni.ci bk us a o y) λ v H2 ⟨⟨ov,hv2,hms⟩,hnr,hf⟩=>?_;rw [hv2];simp only [↓qh,xa,reduceIte,reduceEqDiff,qp];refine C3.q (h.out hb hn hA (hnr.t hf) hms (by have:=q79 n a o y;omega) (Q:=λ _ H'=>gB H0 H B s (b.put c.toNat (n.eD a o y)) H') (r:=.nils) id) λ v H3 hp=>?_;simp only [↓qh,xa,reduceIte,reduceEqDiff];exact hp
theorem Dj (h:c6 H0 H B s b own) (hb:BB b) (hc:¬ (0<=c/\c<b.ns.length)) (a o y:Int):jv M AA [.ptr B 0,.int .i64 c,.int .i64 a,.int .u64 o,.int .u64 y] H λ v H'=>v=.tuple [.bool false,.bool false,.int .i64 2]/\H'=H:=by
 refine qpm ?_;obtain ⟨w0,w4,w12⟩:=qpn M ⟨none,AA⟩;simp only [↓qh,xa,reduceIte,reduceEqDiff,w0];refine C3.q (qN (M:=M) h hb.N4 c) λ v H1 ⟨hh,_,h1⟩=>?_;rw [h1 hc,hh];have t2:¬ (2:Int)=0:=by decide
 simp only [↓qh,xa,reduceIte,reduceEqDiff,qp,w4,t2]
theorem q0y (h:c6 H0 H B s b own) (hb:BB b) (c0:0<=c) (hn:b.ns[c.toNat]? = some n) (l:Int):jv M xS [.ptr B 0,.int .i64 c,.int .i64 l] H λ v H'=>gB H0 H B s (b.put c.toNat (n.aQ l)) H':=by
 refine qn8 ?_;obtain ⟨w0,w4,w12⟩:=qn9 M ⟨none,xS⟩;simp only [↓qh,xa,reduceIte,reduceEqDiff,w0];refine C3.q (qN (M:=M) h hb.N4 c) λ v H1 ⟨hh,h1,_⟩=>?_;obtain ⟨A,hA,hv⟩:=h1 (qU hn c0);rw [hv,hh];have t0:=xj (show (0:Int)=0 from rfl);obtain ⟨ni,bk,us⟩:=hb.no _ n hn;have nr:=h.no _ n A hn hA;simp only [↓qh,xa,reduceIte,reduceEqDiff,qp,w4,t0,w12];refine C3.q (q7k (M:=M) nr ni.ci bk l) λ v H2 ⟨⟨ov,e,hv2,hms⟩,ht⟩=>?_;rw [hv2];simp only [↓qh,xa,reduceIte,reduceEqDiff,qp];refine C3.q (h.out hb hn hA ht hms (by have:=q1g n l;omega) (Q:=λ _ H'=>gB H0 H B s (b.put c.toNat (n.aQ l)) H') (r:=.nils) id) λ v H3 hp=>?_;simp only [↓qh,xa,reduceIte,reduceEqDiff];exact hp
theorem q5x (h:c6 H0 H B s b own) (hb:BB b) (hc:¬ (0<=c/\c<b.ns.length)) (l:Int):jv M xS [.ptr B 0,.int .i64 c,.int .i64 l] H λ v H'=>H'=H:=by
 refine qn8 ?_;obtain ⟨w0,w4,w12⟩:=qn9 M ⟨none,xS⟩;simp only [↓qh,xa,reduceIte,reduceEqDiff,w0];refine C3.q (qN (M:=M) h hb.N4 c) λ v H1 ⟨hh,_,h1⟩=>?_;rw [h1 hc,hh];have t2:¬ (2:Int)=0:=by decide
 simp only [↓qh,xa,reduceIte,reduceEqDiff,qp,w4,t2]
theorem q0z (h:c6 H0 H B s b own) (hb:BB b) (c0:0<=c) (hn:b.ns[c.toNat]? = some n):jv M AD [.ptr B 0,.int .i64 c] H λ v H'=>v=.bool n.live/\H'=H:=by
 refine qoc ?_;simp only [↓qh,xa,reduceIte,reduceEqDiff,qod];refine C3.q (qN (M:=M) h hb.N4 c) λ v H1 ⟨hh,h1,_⟩=>?_;obtain ⟨A,hA,hv⟩:=h1 (qU hn c0);rw [hv,hh];have nr:=h.no _ n A hn hA;simp only [↓qh,xa,reduceIte,reduceEqDiff,qp];refine C3.q (q88 (M:=M) nr) λ v H2 ⟨hv2,hh2⟩=>?_;rw [hv2,hh2];simp only [↓qh,xa,reduceIte,reduceEqDiff]
end
end Go.Am
