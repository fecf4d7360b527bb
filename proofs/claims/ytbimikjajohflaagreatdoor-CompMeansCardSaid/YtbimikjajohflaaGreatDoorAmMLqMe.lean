/- LqMe: DY SoB SoC SoD. -/
import Derived.Test.YtbimikjajohflaaGreatDoorAmMCodeMQ
import Derived.Test.YtbimikjajohflaaGreatDoorAmMLqMd
import Derived.Test.YtbimikjajohflaaGreatDoorAmMLqMa
set_option linter.unusedVariables false
set_option linter.unusedSimpArgs false
set_option linter.unusedSectionVars false
set_option maxRecDepth 100000
open Nat (reduceEqDiff)
namespace Go.Am
open Lang Go.Proofs
variable {M:aO} [MK M]
abbrev fD (x:Int):List AV:=[.int .u64 x]
theorem qW (x:Int):(fD x).length=1:=rfl
structure rY where
 H0:AHeap
 r:Nat
 cv:AV
def gI (cv wv bv:AV) (m:SM) (bl bb be:Int):List AV :=
 cv::wv::(m.rs.map uC++(.int .i64 m.pc::.int .i64 (m.left:Nat)::.int .i64 (m.aN:Nat)::.int .i64 (m.err:Nat)::bv::(m.mD.map uC ++ [.int .i64 m.nX,.int .i64 bl,.int .i64 bb,.int .i64 be,.bool m.cr,.bool m.over])))
theorem eJ {l:List Int} (h:l.length=8):∃ v0 v1 v2 v3 v4 v5 v6 v7,l=[v0,v1,v2,v3,v4,v5,v6,v7]:=by
 match l,h with
 | [a,b,c,d,e,f,g,i],_=>exact ⟨a,b,c,d,e,f,g,i,rfl⟩
structure dY (c:rY) (H:AHeap) (wv bv:AV) (m:SM):Prop where
 row:∃ bl bb be,H.get c.r=some (OR (gI c.cv wv bv m bl bb be) zq)
 lo:c.H0.next<=c.r
 hi:c.r<H.next
 fr:Fr Em c.H0 H
 wo:dH fD vq 1 H wv m.w
 wf:∀ b,bL wv b->c.H0.next<=b/\b ≠ c.r
 bo:dH fD vq 1 H bv m.bw
 bf:∀ b,bL bv b->c.H0.next<=b/\b ≠ c.r /\ ¬ bL wv b
 r8:m.rs.length=8
 b8:m.mD.length=8
def oA (c:rY) (wv:AV):Nat->Prop:=λ b=>b=c.r\/bL wv b
section
variable {c:rY} {H H':AHeap} {wv bv:AV} {m:SM}
theorem dY.em (h:dY c H wv bv m) (f:Fr Em H H'):dY c H' wv bv m :=
 ⟨by rw [f.aj _ h.hi id];exact h.row,h.lo,qe h.hi f.next,h.fr.trans f λ _ q=>q.elim,Own.em h.wo f,h.wf,Own.em h.bo f,h.bf,h.r8,h.b8⟩
theorem Bq {cv wv bv:AV} {m:SM} {bl bb be:Int} (h:m.rs.length=8) (h':m.mD.length=8):(gI cv wv bv m bl bb be)[0]? = some cv/\(gI cv wv bv m bl bb be)[1]? = some wv/\(gI cv wv bv m bl bb be)[10]? = some (.int .i64 m.pc)/\(gI cv wv bv m bl bb be)[11]? = some (.int .i64 (m.left:Nat))/\(gI cv wv bv m bl bb be)[12]? = some (.int .i64 (m.aN:Nat)) /\
 (gI cv wv bv m bl bb be)[14]? = some bv/\(gI cv wv bv m bl bb be)[23]? = some (.int .i64 m.nX)/\(gI cv wv bv m bl bb be)[27]? = some (.bool m.cr)/\(gI cv wv bv m bl bb be)[28]? = some (.bool m.over)/\((gI cv wv bv m bl bb be).drop 2).take 8=m.rs.map uC/\((gI cv wv bv m bl bb be).drop 15).take 8=m.mD.map uC/\(gI cv wv bv m bl bb be).length=29:=by
 obtain ⟨a0,a1,a2,a3,a4,a5,a6,a7,e⟩:=eJ h;obtain ⟨b0,b1,b2,b3,b4,b5,b6,b7,e'⟩:=eJ h';unfold gI;rw [e,e'];exact ⟨rfl,rfl,rfl,rfl,rfl,rfl,rfl,rfl,rfl,rfl,rfl,rfl⟩
theorem dY.ld (h:dY c H wv bv m):Op.aa [.ptr c.r 0] H=some c.cv/\Op.aa [.ptr c.r 1] H=some wv/\Op.aa [.ptr c.r 10] H=some (.int .i64 m.pc)/\Op.aa [.ptr c.r 11] H=some (.int .i64 (m.left:Nat))/\Op.aa [.ptr c.r 12] H=some (.int .i64 (m.aN:Nat)) /\
 Op.aa [.ptr c.r 14] H=some bv/\Op.aa [.ptr c.r 23] H=some (.int .i64 m.nX)/\Op.aa [.ptr c.r 27] H=some (.bool m.cr)/\Op.aa [.ptr c.r 28] H=some (.bool m.over)/\Op.au 8 [.ptr c.r 2] H=some (.agg (m.rs.map uC))/\Op.au 8 [.ptr c.r 15] H=some (.agg (m.mD.map uC)):=by
 obtain ⟨bl,bb,be,hr⟩:=h.row;obtain ⟨q0,q1,q2,q3,q4,q5,q6,q7,q8,q9,q10,q11⟩:=Bq (cv:=c.cv) (wv:=wv) (bv:=bv) (bl:=bl) (bb:=bb) (be:=be) h.r8 h.b8;have l:=λ o=>j8 (qy hr) o;exact ⟨(l 0).trans q0,(l 1).trans q1,(l 10).trans q2,(l 11).trans q3,(l 12).trans q4,(l 14).trans q5,(l 23).trans q6,(l 27).trans q7,(l 28).trans q8,by rw [mg (qy hr) (by rw [q11];decide),q9],by rw [mg (qy hr) (by rw [q11];decide),q10]⟩
theorem dY.put (h:dY c H wv bv m) (m':SM) (hw:m'.w=m.w) (hb:m'.bw=m.bw) (r8:m'.rs.length=8) (b8:m'.mD.length=8) (bl bb be:Int) :
 dY c (H.set c.r (OR (gI c.cv wv bv m' bl bb be) zq)) wv bv m'/\Fr (On c.r) H (H.set c.r (OR (gI c.cv wv bv m' bl bb be) zq)):=by
 have f:Fr (On c.r) H (H.set c.r (OR (gI c.cv wv bv m' bl bb be) zq)):=(Fr.refl H).set (W:=On c.r) (.inl rfl) _;refine ⟨⟨⟨bl,bb,be,xd ..⟩,h.lo,h.hi,h.fr.trans f (λ x (q:x=c.r)=>.inr (by rw [q];exact h.lo)),?_,h.wf,?_,h.bf,r8,b8⟩,f⟩
 ·rw [hw];exact Own.fr h.wo f λ x hx (q:x=c.r)=>(h.wf x hx).2 q
 ·rw [hb];exact Own.fr h.bo f λ x hx (q:x=c.r)=>(h.bf x hx).2.1 q
theorem dY.st (h:dY c H wv bv m) (o:Nat) (v:AV) (m':SM) (hv:aD v=true) (ho:o<29) (hc:∀ bl bb be,(gI c.cv wv bv m bl bb be).take o ++ [v]++(gI c.cv wv bv m bl bb be).drop (o+1)=gI c.cv wv bv m' bl bb be) (hw:m'.w=m.w) (hb:m'.bw=m.bw) (r8:m'.rs.length=8) (b8:m'.mD.length=8) :
 ∃ H',Op.store 1 [.ptr c.r o,v] H=some (.undef,H')/\dY c H' wv bv m'/\Fr (On c.r) H H':=by
 obtain ⟨bl,bb,be,hr⟩:=h.row;have q11:=(Bq (cv:=c.cv) (wv:=wv) (bv:=bv) (bl:=bl) (bb:=bb) (be:=be) h.r8 h.b8).2.2.2.2.2.2.2.2.2.2.2;have oc:v.cells=[v]:=by cases v<;>first|rfl|cases hv
 have st:=y9 hr (o:=o) (n:=1) (v:=v) (by rw [oc];rfl) (by rw [q11];omega) (by rw [oc,mU,C2,hv];rfl);rw [oc,hc] at st;obtain ⟨n1,n2⟩:=h.put m' hw hb r8 b8 bl bb be;exact ⟨_,st,n1,n2⟩
theorem dY.pc (h:dY c H wv bv m) (p:Int):∃ H',Op.store 1 [.ptr c.r 10,.int .i64 p] H=some (.undef,H')/\dY c H' wv bv { m with pc:=p }/\Fr (On c.r) H H':=by
 refine h.st 10 _ _ rfl (by decide) (λ bl bb be=>?_) rfl rfl h.r8 h.b8;obtain ⟨a0,a1,a2,a3,a4,a5,a6,a7,e⟩:=eJ h.r8;unfold gI;simp only [e];rfl
theorem dY.zE (h:dY c H wv bv m) (p:Nat):∃ H',Op.store 1 [.ptr c.r 11,.int .i64 (p:Nat)] H=some (.undef,H')/\dY c H' wv bv { m with left:=p }/\Fr (On c.r) H H':=by
 refine h.st 11 _ _ rfl (by decide) (λ bl bb be=>?_) rfl rfl h.r8 h.b8;obtain ⟨a0,a1,a2,a3,a4,a5,a6,a7,e⟩:=eJ h.r8;unfold gI;simp only [e];rfl
theorem dY.DG (h:dY c H wv bv m) (p:Nat):∃ H',Op.store 1 [.ptr c.r 12,.int .i64 (p:Nat)] H=some (.undef,H')/\dY c H' wv bv { m with aN:=p }/\Fr (On c.r) H H':=by
 refine h.st 12 _ _ rfl (by decide) (λ bl bb be=>?_) rfl rfl h.r8 h.b8;obtain ⟨a0,a1,a2,a3,a4,a5,a6,a7,e⟩:=eJ h.r8;unfold gI;simp only [e];rfl
theorem dY.B8 (h:dY c H wv bv m) (p:Bool):∃ H',Op.store 1 [.ptr c.r 27,.bool p] H=some (.undef,H')/\dY c H' wv bv { m with cr:=p }/\Fr (On c.r) H H':=by
 refine h.st 27 _ _ rfl (by decide) (λ bl bb be=>?_) rfl rfl h.r8 h.b8;obtain ⟨a0,a1,a2,a3,a4,a5,a6,a7,e⟩:=eJ h.r8;obtain ⟨b0,b1,b2,b3,b4,b5,b6,b7,e'⟩:=eJ h.b8;unfold gI;simp only [e,e'];rfl
theorem dY.wA (h:dY c H wv bv m) {k:Nat} (hk:k<8) (v:Int):∃ H',Op.store 1 [.ptr c.r (2+k),.int .u64 v] H=some (.undef,H')/\dY c H' wv bv { m with rs:=m.rs.set k v }/\Fr (On c.r) H H':=by
 refine h.st (2+k) _ _ rfl (by omega) (λ bl bb be=>?_) rfl rfl (by simpa using h.r8) h.b8;obtain ⟨a0,a1,a2,a3,a4,a5,a6,a7,e⟩:=eJ h.r8;unfold gI;simp only [e];rcases (show k=0\/k=1\/k=2\/k=3\/k=4\/k=5\/k=6\/k=7 by omega) with rfl|rfl|rfl|rfl|rfl|rfl|rfl|rfl<;>rfl
theorem dY.C6 (h:dY c H wv bv m) {i:Nat} (hi:i<m.w.length) (v:Int):∃ H',Op.store 1 [.ptr (dK wv) (eU 1 wv i),.int .u64 v] H=some (.undef,H')/\dY c H' wv bv { m with w:=m.w.set i v }/\Fr (bL wv) H H':=by
 obtain ⟨x,hx⟩:∃ x,m.w[i]? = some x:=⟨m.w[i],by simp [hi]⟩
 obtain ⟨H',hst,hown,hf⟩:=dH.pj qW h.wo hx (j:=0) (by omega) (u:=.int .u64 v) rfl (y:=v) rfl;refine ⟨H',hst,⟨?_,h.lo,qe h.hi hf.next,h.fr.trans hf (λ x hx=>.inr (h.wf x hx).1),hown,h.wf,Own.fr h.bo hf λ x hx q=>(h.bf x hx).2.2 q,h.bf,h.r8,h.b8⟩,hf⟩;obtain ⟨bl,bb,be,hr⟩:=h.row;exact ⟨bl,bb,be,by rw [hf.aj _ h.hi λ q=>(h.wf _ q).2 rfl];exact hr⟩
end
end Go.Am
namespace Go.Am
open Lang Go.Proofs
variable {M:aO} [MK M]
theorem sk (f:i7):AV.cells (.agg (bD f))=bD f:=z7 _
structure kJ (f:i7) (b:Nat) (H:AHeap):Prop where
 get:H.get b=some (OR (bD f) xp)
 lt:b<H.next
theorem kJ.em {f:i7} {b:Nat} {H H':AHeap} (h:kJ f b H) (q:Fr Em H H'):kJ f b H':=⟨by rw [q.aj _ h.lt id];exact h.get,qe h.lt q.next⟩
theorem kJ.off {f:i7} {b:Nat} {H H':AHeap} {W:Nat->Prop} (h:kJ f b H) (q:Fr W H H') (hw:¬ W b):kJ f b H':=⟨by rw [q.aj _ h.lt hw];exact h.get,qe h.lt q.next⟩
theorem kJ.ld {f:i7} {b:Nat} {H:AHeap} (h:kJ f b H):Op.aa [.ptr b 0] H=some (.int .i64 f.kind)/\Op.aa [.ptr b 1] H=some (.int .i64 f.next)/\Op.aa [.ptr b 2] H=some (.int .i64 f.mq)/\Op.aa [.ptr b 3] H=some (.int .u64 f.value)/\Op.aa [.ptr b 4] H=some (.int .u64 f.addr)/\Op.au 5 [.ptr b 0] H=some (.agg (bD f)):=by
 have l:=λ o=>j8 (qy h.get) o;exact ⟨l 0,l 1,l 2,l 3,l 4,JO h.get⟩
theorem kJ.new (f:i7) (H:AHeap):kJ f H.next (H.alloc (OR (bD f) xp)):=⟨qp ..,by rw [xk];omega⟩
section
variable {c:rY} {H:AHeap} {wv bv:AV} {m:SM} {f:i7}
def Pn (c:rY) (H:AHeap) (wv bv:AV) (m:SM) (W:Nat->Prop) (p:Prop) (m':SM) (v:AV) (H':AHeap):Prop:=Fr W H H'/\(p/\v=.bool true/\dY c H' wv bv m' \/ ¬ p/\v=.bool false/\dY c H' wv bv m)
theorem Gc (h:dY c H wv bv m):ye M jb [.ptr c.r 0,.agg (bD f)] H λ v H'=>v=.bool true/\dY c H' wv bv { m with pc:=f.next }/\Fr (On c.r) H H':=by
 refine qs9 ?_;obtain ⟨H1,e1⟩:∃ X,X=H.alloc (OR (bD f) xp):=⟨_,rfl⟩
 have f1:Fr Em H H1:=by rw [e1];exact (Fr.refl H).alloc _
 have g1:kJ f H.next H1:=by rw [e1];exact kJ.new f H
 obtain ⟨l0,l1,l2,l3,l4,l5⟩:=g1.ld;obtain ⟨H2,st,h2,f2⟩:=(h.em f1).pc f.next
 simp only [↓qh,qq,reduceIte,reduceEqDiff,qta,sk,<-e1,l1,qi,st];exact ⟨h2,(f1.mono λ _ _ q=>q.elim).trans f2 λ x q=>.inl q⟩
theorem sE (h:dY c H wv bv m) {k:Nat} (hk:k<8) (hr:f.mq=(k:Int)):ye M vh [.ptr c.r 0,.agg (bD f)] H λ v H'=>v=.bool true/\dY c H' wv bv { m with rs:=m.rs.set k f.value,pc:=f.next }/\Fr (On c.r) H H':=by
 refine qux ?_;obtain ⟨H1,e1⟩:∃ X,X=H.alloc (OR (bD f) xp):=⟨_,rfl⟩
 have f1:Fr Em H H1:=by rw [e1];exact (Fr.refl H).alloc _
 have g1:kJ f H.next H1:=by rw [e1];exact kJ.new f H
 obtain ⟨l0,l1,l2,l3,l4,l5⟩:=g1.ld;obtain ⟨H2,st,h2,f2⟩:=(h.em f1).wA hk f.value;have hi:=h.hi;have g2:=(g1.off f2 (λ (q:H.next=c.r)=>by omega)).ld;have ix:Op.bp 8 1 [.ptr c.r 2,.int .i64 f.mq]=some (.ptr c.r (2+k)):=by
  simp only [Op.bp];rw [xZ (i:=k) hr hk];simp
 simp only [↓qh,qq,reduceIte,reduceEqDiff,quy,sk,<-e1,l2,l3,qi,ix,st,g2.2.2.2.2.2];refine C3.q (Gc (M:=M) (f:=f) h2) λ v H3 ⟨hv,h3,f3⟩=>?_;subst hv;simp only [↓qh,qq,reduceIte,reduceEqDiff];exact ⟨h3,((f1.mono λ _ _ q=>q.elim).trans f2 λ x q=>.inl q).trans f3 λ x q=>.inl q⟩
theorem xe5 (h:dY c H wv bv m) (hl:m.w.length<=4096) (ha:lZ f.addr) {k:Nat} (hk:k<8) (hr:f.mq=(k:Int)):ye M k9 [.ptr c.r 0,.agg (bD f)] H (Pn c H wv bv m (On c.r) (f.addr<m.w.length) { m with rs:=m.rs.set k (m.w.getD f.addr.toNat 0),pc:=f.next }):=by
 refine qs6 ?_;obtain ⟨w0,w2,w10⟩:=qs7 M ⟨none,k9⟩;obtain ⟨H1,e1⟩:∃ X,X=H.alloc (OR (bD f) xp):=⟨_,rfl⟩
 have f1:Fr Em H H1:=by rw [e1];exact (Fr.refl H).alloc _
 have g1:kJ f H.next H1:=by rw [e1];exact kJ.new f H
 obtain ⟨l0,l1,l2,l3,l4,l5⟩:=g1.ld;have h1:=h.em f1;have r1:Op.aa [.ptr c.r 1] H1=some wv:=h1.ld.2.1;have ln:=(dH.sl h1.wo).len;have wl:ae .u64 ((m.w.length:Nat):Int)=(m.w.length:Nat):=ww (by omega) (by omega)
 by_cases hq:f.addr<m.w.length
 ·have q1:¬ ((m.w.length:Nat):Int)<=f.addr:=by omega
  have ha0:=ha.1;obtain ⟨x,hx⟩:∃ x,m.w[f.addr.toNat]? = some x:=⟨m.w[f.addr.toNat]'(by omega),by simp [show f.addr.toNat<m.w.length by omega]⟩
  have gd:m.w.getD f.addr.toNat 0=x:=by rw [yf,hx];rfl
  have idx:=(dH.sl h1.wo).idx hx (by omega) .u64 (z:=f.addr);have lx:Op.aa [.ptr (dK wv) (eU 1 wv f.addr.toNat)] H1=some (.int .u64 x):=(dH.sl h1.wo).gU qW hx (by decide);obtain ⟨H2,st,h2,f2⟩:=h1.wA hk x;have hi:=h.hi;have g2:=(g1.off f2 (λ (q:H.next=c.r)=>by omega)).ld;have ix:Op.bp 8 1 [.ptr c.r 2,.int .i64 f.mq]=some (.ptr c.r (2+k)):=by
   simp only [Op.bp];rw [xZ (i:=k) hr hk];simp
  simp only [↓qh,qq,reduceIte,reduceEqDiff,w0,sk,<-e1,w2,l4,qi,r1,ln,wl,q1,w10,l2,idx,lx,ix,st,g2.2.2.2.2.2];refine C3.q (Gc (M:=M) (f:=f) h2) λ v H3 ⟨hv,h3,f3⟩=>?_;subst hv;simp only [↓qh,qq,reduceIte,reduceEqDiff];exact ⟨((f1.mono λ _ _ q=>q.elim).trans f2 λ x q=>.inl q).trans f3 λ x q=>.inl q,.inl ⟨hq,rfl,by rw [gd];exact h3⟩⟩
 ·have q1:((m.w.length:Nat):Int)<=f.addr:=by omega
  simp only [↓qh,qq,reduceIte,reduceEqDiff,w0,sk,<-e1,w2,l4,qi,r1,ln,wl,q1];exact ⟨f1.mono λ _ _ q=>q.elim,.inr ⟨hq,rfl,h1⟩⟩
theorem xb6 (h:dY c H wv bv m) (hl:m.w.length<=4096) (ha:lZ f.addr):ye M ko [.ptr c.r 0,.agg (bD f)] H (Pn c H wv bv m (oA c wv) (f.addr<m.w.length) { m with w:=m.w.set f.addr.toNat f.value,pc:=f.next }):=by
 refine qr1 ?_;obtain ⟨w0,w2,w10⟩:=qr2 M ⟨none,ko⟩;obtain ⟨H1,e1⟩:∃ X,X=H.alloc (OR (bD f) xp):=⟨_,rfl⟩
 have f1:Fr Em H H1:=by rw [e1];exact (Fr.refl H).alloc _
 have g1:kJ f H.next H1:=by rw [e1];exact kJ.new f H
 obtain ⟨l0,l1,l2,l3,l4,l5⟩:=g1.ld;have h1:=h.em f1;have r1:Op.aa [.ptr c.r 1] H1=some wv:=h1.ld.2.1;have ln:=(dH.sl h1.wo).len;have wl:ae .u64 ((m.w.length:Nat):Int)=(m.w.length:Nat):=ww (by omega) (by omega)
 by_cases hq:f.addr<m.w.length
 ·have q1:¬ ((m.w.length:Nat):Int)<=f.addr:=by omega
  have ha0:=ha.1;obtain ⟨x,hx⟩:∃ x,m.w[f.addr.toNat]? = some x:=⟨m.w[f.addr.toNat]'(by omega),by simp [show f.addr.toNat<m.w.length by omega]⟩
  have idx:=(dH.sl h1.wo).idx hx (by omega) .u64 (z:=f.addr);obtain ⟨H2,st,h2,f2⟩:=h1.C6 (i:=f.addr.toNat) (by omega) f.value;have aT:=Own.lt h.wo;have g2:=(g1.off f2 (λ (q:bL wv H.next)=>by have:=aT _ q;omega)).ld;simp only [↓qh,qq,reduceIte,reduceEqDiff,w0,sk,<-e1,w2,l4,qi,r1,ln,wl,q1,w10,l3,idx,st,g2.2.2.2.2.2];refine C3.q (Gc (M:=M) (f:=f) h2) λ v H3 ⟨hv,h3,f3⟩=>?_;subst hv;simp only [↓qh,qq,reduceIte,reduceEqDiff];exact ⟨((f1.mono λ _ _ q=>q.elim).trans f2 λ x q=>.inl (.inr q)).trans f3 λ x q=>.inl (.inl q),.inl ⟨hq,rfl,h3⟩⟩
 ·have q1:((m.w.length:Nat):Int)<=f.addr:=by omega
  simp only [↓qh,qq,reduceIte,reduceEqDiff,w0,sk,<-e1,w2,l4,qi,r1,ln,wl,q1];exact ⟨f1.mono λ _ _ q=>q.elim,.inr ⟨hq,rfl,h1⟩⟩
theorem q77 (h:dY c H wv bv m) (hb:m.aN<=10000000):ye M j7 [.ptr c.r 0,.agg (bD f)] H (Pn c H wv bv m (On c.r) (m.cr=true) { m with cr:=false,aN:=m.aN+1,pc:=f.next }):=by
 refine qqo ?_;obtain ⟨w0,w2,w10⟩:=qqp M ⟨none,j7⟩;obtain ⟨H1,e1⟩:∃ X,X=H.alloc (OR (bD f) xp):=⟨_,rfl⟩
 have f1:Fr Em H H1:=by rw [e1];exact (Fr.refl H).alloc _
 have g1:kJ f H.next H1:=by rw [e1];exact kJ.new f H
 have h1:=h.em f1;have r27:Op.aa [.ptr c.r 27] H1=some (.bool m.cr):=h1.ld.2.2.2.2.2.2.2.1;cases hin:m.cr with
 | true =>
  rw [hin] at r27;obtain ⟨H2,st,h2,f2⟩:=h1.B8 false;have r12:Op.aa [.ptr c.r 12] H2=some (.int .i64 (m.aN:Nat)):=h2.ld.2.2.2.2.1;have wb:ae .i64 ((m.aN:Int)+1)=((m.aN+1:Nat):Int):=by rw [zk (by omega) (by omega)];omega
  obtain ⟨H3,st3,h3,f3⟩:=h2.DG (m.aN+1);have hi:=h.hi;have g3:=((g1.off f2 (λ (q:H.next=c.r)=>by omega)).off f3 (λ (q:H.next=c.r)=>by omega)).ld;simp only [↓qh,qq,reduceIte,reduceEqDiff,w0,sk,<-e1,w2,qi,r27,w10,st,r12,wb,st3,g3.2.2.2.2.2];refine C3.q (Gc (M:=M) (f:=f) h3) λ v H4 ⟨hv,h4,f4⟩=>?_;subst hv;simp only [↓qh,qq,reduceIte,reduceEqDiff];exact ⟨(((f1.mono λ _ _ q=>q.elim).trans f2 λ x q=>.inl q).trans f3 λ x q=>.inl q).trans f4 λ x q=>.inl q,.inl ⟨by first|exact hin|trivial,rfl,h4⟩⟩
 | false =>
  rw [hin] at r27;simp only [↓qh,qq,reduceIte,reduceEqDiff,w0,sk,<-e1,w2,qi,r27];exact ⟨f1.mono λ _ _ q=>q.elim,.inr ⟨by first|decide|(rw [hin];decide),rfl,h1⟩⟩
def nj (c:rY) (V:Nat->Prop) (H:AHeap) (m:SM):Prop:=∃ wv bv bl bb be,V c.r/\(∀ b,bL wv b->V b/\b ≠ c.r)/\H.get c.r=some (OR (gI c.cv wv bv m bl bb be) zq)/\dH fD vq 1 H wv m.w/\m.rs.length=8/\m.mD.length=8
theorem Ey {H:AHeap} {b e:Nat} {row:List AV} (h:H.get b=some (OR row e)) {o:Nat} (ho:o<row.length) {v:AV} (hv:aD v=true):Op.store 1 [.ptr b o,v] H=some (.undef,H.set b (OR (row.set o v) e)):=by
 have oc:v.cells=[v]:=by cases v<;>first|rfl|cases hv
 have st:=y9 h (o:=o) (n:=1) (v:=v) (by rw [oc];rfl) (by omega) (by rw [oc,mU,C2,hv];rfl);rw [st,oc,ym,qk ho,qt];rfl
theorem Bh {H:AHeap} {b e:Nat} {row:List AV} (h:H.get b=some (OR row e)) {o:Nat} {l:List Int} (hl:l.length=8) (ho:o+8<=row.length):Op.store 8 [.ptr b o,.agg (l.map uC)] H=some (.undef,H.set b (OR (row.take o++l.map uC++row.drop (o+8)) e)):=by
 have st:=y9 h (o:=o) (n:=8) (v:=.agg (l.map uC)) (by rw [z7];simpa using hl) (by omega) (by rw [z7,mU,List.all_map];simp [uC,aD]);rw [st,z7]
theorem GK {H:AHeap} {b e:Nat} {row:List AV}:(H.set b (OR row e)).get b=some (OR row e):=xd ..
theorem JE (h:dY c H wv bv m) (e:Nat):ye M j9 [.ptr c.r 0,.int .i64 (e:Nat)] H λ v H'=>nj c (λ b=>b=c.r\/bL wv b\/bL bv b) H' (m.fin e)/\Fr (On c.r) H H':=by
 refine quu ?_;obtain ⟨w0,w6,w4⟩:=quv M ⟨none,j9⟩;obtain ⟨bl,bb,be,hr⟩:=h.row;obtain ⟨r0,r1,r10,r11,r12,r14,r23,r27,r28,rr,rb⟩:=h.ld;have len:=(Bq (cv:=c.cv) (wv:=wv) (bv:=bv) (bl:=bl) (bb:=bb) (be:=be) h.r8 h.b8).2.2.2.2.2.2.2.2.2.2.2;obtain ⟨a0,a1,a2,a3,a4,a5,a6,a7,e1⟩:=eJ h.r8;obtain ⟨b0,b1,b2,b3,b4,b5,b6,b7,e2⟩:=eJ h.b8;have ob:aD bv=true:=(dH.sl h.bo).one;obtain ⟨row,hrow⟩:∃ x,x=gI c.cv wv bv m bl bb be:=⟨_,rfl⟩
 rw [<-hrow] at hr len
 by_cases hq:m.cr=true/\e ≠ 0
 ·obtain ⟨hin,he⟩:=hq;rw [hin] at r27;have q1:¬ ((e:Nat):Int)=0:=by omega
  have s1:=Ey hr (o:=1) (by omega) ob;have s2:=Bh (GK (H:=H) (b:=c.r) (e:=zq) (row:=row.set 1 bv)) (o:=2) h.b8 (by simp;omega);obtain ⟨H1,d1⟩:∃ X,X=H.set c.r (OR (row.set 1 bv) zq):=⟨_,rfl⟩
  rw [<-d1] at s1 s2;obtain ⟨H2,d2⟩:∃ X,X=H1.set c.r (OR ((row.set 1 bv).take 2++m.mD.map uC++(row.set 1 bv).drop (2+8)) zq):=⟨_,rfl⟩
  rw [<-d2] at s2;have g2:H2.get c.r=some (OR ((row.set 1 bv).take 2++m.mD.map uC++(row.set 1 bv).drop (2+8)) zq):=by rw [d2];exact GK
  obtain ⟨row2,hrow2⟩:∃ x,x=(row.set 1 bv).take 2++m.mD.map uC++(row.set 1 bv).drop (2+8):=⟨_,rfl⟩
  have b8:=h.b8;have gu:row2.length=29:=by rw [hrow2];simp;omega
  rw [<-hrow2] at g2;have s3:=Ey g2 (o:=10) (by omega) (v:=.int .i64 m.nX) rfl;have s4:=Ey (GK (H:=H2) (b:=c.r) (e:=zq) (row:=row2.set 10 (.int .i64 m.nX))) (o:=13) (by simp;omega) (v:=.int .i64 (e:Nat)) rfl;obtain ⟨H3,d3⟩:∃ X,X=H2.set c.r (OR (row2.set 10 (.int .i64 m.nX)) zq):=⟨_,rfl⟩
  rw [<-d3] at s3 s4;have s5:=Ey (GK (H:=H3) (b:=c.r) (e:=zq) (row:=(row2.set 10 (.int .i64 m.nX)).set 13 (.int .i64 (e:Nat)))) (o:=28) (by simp;omega) (v:=.bool true) rfl;obtain ⟨H4,d4⟩:∃ X,X=H3.set c.r (OR ((row2.set 10 (.int .i64 m.nX)).set 13 (.int .i64 (e:Nat))) zq):=⟨_,rfl⟩
  rw [<-d4] at s4 s5;simp only [↓qh,qq,reduceIte,reduceEqDiff,w0,qi,r27,q1,w4,r14,rb,r23,s1,s2,s3,w6,s4,s5];have f1:Fr (On c.r) H H1:=by rw [d1];exact (Fr.refl H).set (W:=On c.r) (.inl rfl) _
  have f2:Fr (On c.r) H H2:=by rw [d2];exact f1.set (W:=On c.r) (.inl rfl) _
  have f3:Fr (On c.r) H H3:=by rw [d3];exact f2.set (W:=On c.r) (.inl rfl) _
  have f4:Fr (On c.r) H H4:=by rw [d4];exact f3.set (W:=On c.r) (.inl rfl) _
  have f5:Fr (On c.r) H (H4.set c.r (OR (((row2.set 10 (.int .i64 m.nX)).set 13 (.int .i64 (e:Nat))).set 28 (.bool true)) zq)):=f4.set (W:=On c.r) (.inl rfl) _;refine ⟨⟨bv,bv,bl,bb,be,.inl rfl,λ b q=>⟨.inr (.inr q),(h.bf b q).2.1⟩,?_,?_,?_,?_⟩,f5⟩
  ·rw [xd,hrow2,hrow];unfold SM.fin;rw [qk ⟨hin,he⟩];unfold gI;simp only [e1,e2];rfl
  ·unfold SM.fin;rw [qk ⟨hin,he⟩];exact Own.fr h.bo f5 λ x hx (q:x=c.r)=>(h.bf x hx).2.1 q
  ·unfold SM.fin;rw [qk ⟨hin,he⟩];exact h.b8
  ·unfold SM.fin;rw [qk ⟨hin,he⟩];exact h.b8
 ·have s4:=Ey hr (o:=13) (by omega) (v:=.int .i64 (e:Nat)) rfl;have s5:=Ey (GK (H:=H) (b:=c.r) (e:=zq) (row:=row.set 13 (.int .i64 (e:Nat)))) (o:=28) (by simp;omega) (v:=.bool true) rfl;obtain ⟨H4,d4⟩:∃ X,X=H.set c.r (OR (row.set 13 (.int .i64 (e:Nat))) zq):=⟨_,rfl⟩
  rw [<-d4] at s4 s5;have f4:Fr (On c.r) H H4:=by rw [d4];exact (Fr.refl H).set (W:=On c.r) (.inl rfl) _
  have f5:Fr (On c.r) H (H4.set c.r (OR ((row.set 13 (.int .i64 (e:Nat))).set 28 (.bool true)) zq)):=f4.set (W:=On c.r) (.inl rfl) _;have fin:nj c (λ b=>b=c.r\/bL wv b\/bL bv b) (H4.set c.r (OR ((row.set 13 (.int .i64 (e:Nat))).set 28 (.bool true)) zq)) (m.fin e)/\Fr (On c.r) H (H4.set c.r (OR ((row.set 13 (.int .i64 (e:Nat))).set 28 (.bool true)) zq)):=by
   refine ⟨⟨wv,bv,bl,bb,be,.inl rfl,λ b q=>⟨.inr (.inl q),(h.wf b q).2⟩,?_,?_,?_,?_⟩,f5⟩
   ·rw [xd,hrow];unfold SM.fin;rw [qc hq];unfold gI;simp only [e1,e2];rfl
   ·unfold SM.fin;rw [qc hq];exact Own.fr h.wo f5 λ x hx (q:x=c.r)=>(h.wf x hx).2 q
   ·unfold SM.fin;rw [qc hq];exact h.r8
   ·unfold SM.fin;rw [qc hq];exact h.b8
  cases hin:m.cr with
  | false =>
   rw [hin] at r27;simp only [↓qh,qq,reduceIte,reduceEqDiff,w0,qi,r27,w6,s4,s5];exact fin
  | true =>
   rw [hin] at r27;have he:e=0:=Fv.1 λ q=>hq ⟨hin,q⟩;have q1:((e:Nat):Int)=0:=by omega
   simp only [↓qh,qq,reduceIte,reduceEqDiff,w0,qi,r27,j0 q1,w6,s4,s5];exact fin
theorem xe3 (h:dY c H wv bv m):ye M kz [.ptr c.r 0,.agg (bD f)] H λ v H'=>Fr (On c.r) H H'/\v=.bool (!m.cr)/\(m.cr=true->dY c H' wv bv m)/\(m.cr=false->nj c (λ b=>b=c.r\/bL wv b\/bL bv b) H' (m.fin 0)):=by
 refine qs3 ?_;obtain ⟨w0,w2,w8⟩:=qs4 M ⟨none,kz⟩;obtain ⟨H1,e1⟩:∃ X,X=H.alloc (OR (bD f) xp):=⟨_,rfl⟩
 have f1:Fr Em H H1:=by rw [e1];exact (Fr.refl H).alloc _
 have h1:=h.em f1;have r27:Op.aa [.ptr c.r 27] H1=some (.bool m.cr):=h1.ld.2.2.2.2.2.2.2.1;cases hin:m.cr with
 | true =>
  rw [hin] at r27;simp only [↓qh,qq,reduceIte,reduceEqDiff,w0,sk,<-e1,w2,qi,r27,w8];exact ⟨f1.mono λ _ _ q=>q.elim,λ _=>h1,λ q=>by cases q⟩
 | false =>
  rw [hin] at r27;simp only [↓qh,qq,reduceIte,reduceEqDiff,w0,sk,<-e1,w2,qi,r27];refine C3.q (JE (M:=M) h1 0) λ v H2 ⟨h2,f2⟩=>?_;have hf:(m.fin 0).cr=false:=by unfold SM.fin;rw [qc (λ q=>q.2 rfl)];exact hin
  have r27':Op.aa [.ptr c.r 27] H2=some (.bool false):=by
   obtain ⟨wv',bv',bl,bb,be,-,-,hr,-,q8,q9⟩:=h2;rw [j8 (qy hr),(Bq q8 q9).2.2.2.2.2.2.2.1,hf]
  simp only [↓qh,qq,reduceIte,reduceEqDiff,w8,qi,r27'];exact ⟨(f1.mono λ _ _ q=>q.elim).trans f2 λ x q=>.inl q,λ q=>(by cases q),λ _=>h2⟩
theorem bsV (e:Nat) (zero:List AV):Op.buildSlice e 0 zero [] []=some (.row [] e (0,0) true,Op.sliceTo 0 0):=rfl
theorem JS (H:AHeap):Op.eq .slice false [.nils,.nils] H=some (.bool true):=rfl
theorem DW {H:AHeap} {size:Nat} {v:AV} {n:Nat} {cells:List AV} (h:Sl H size v n cells) (hv:v ≠ .nils) (H':AHeap):Op.eq .slice false [v,.nils] H'=some (.bool false):=by
 obtain ⟨_,h⟩:=h;cases v<;>first|exact (hv rfl).elim|rfl|exact h.elim
theorem HC (l:List Int):bh (l.flatMap fD)=true:=by rw [mU,List.all_flatMap];simp [fD,aD]
theorem qym {H:AHeap} {a:AV} {ws:List Int} (ha:cU fD 1 H a ws) (hl:ws.length<=200000000):ye M kx [a] H λ v H'=>iN fD vq 1 H H' v ws:=by
 refine qkg ?_
 by_cases hn:a=.nils
 ·subst hn;have:ws=[]:=by obtain ⟨_,h⟩:=ha;exact FH.1 h
  subst this;simp only [↓qh,qq,reduceIte,reduceEqDiff,FQ,JS];exact iN.nil H
 ·simp only [↓qh,qq,reduceIte,reduceEqDiff,FQ,DW ha hn,bsV];have hf1:Fr Em H (H.alloc (.row [] vq (0,0) true)):=(Fr.refl H).alloc _;refine q8r (e:=vq) (n:=0) (cells:=[]) ⟨rfl,.inl ⟨rfl,.inr ⟨H.next,rfl,by rw [xk];omega⟩⟩⟩ (ha.em hf1) (HC ws) (by omega) (by omega) (by omega) λ v' H2 hv' hf hfr=>?_;simp only [↓qh,qq,reduceIte,reduceEqDiff,FQ];rw [x6,zn] at hv';exact ⟨hv',hf1.trans hf λ x hx=>.inr (by rw [hx.2];exact qf _),λ b hb=>(hfr b hb).elim (λ q=>by rw [q.2];exact qf _) λ q=>xz hf1.next q⟩
theorem xb5 (h:dY c H wv bv m) (hl:m.w.length<=4096):ye M km [.ptr c.r 0,.agg (bD f)] H λ v H'=>∃ bv',Fr (On c.r) H H'/\(∀ b,bL bv' b->bL bv b\/H.next<=b) /\
 (v=.bool (!m.cr)/\(m.cr=true->dY c H' wv bv' m)/\(m.cr=false->dY c H' wv bv' { m with cr:=true,pc:=f.next,bw:=m.w,mD:=m.rs,nX:=f.next })):=by
 refine qrv ?_;obtain ⟨w0,w2,w10⟩:=qrw M ⟨none,km⟩;obtain ⟨H1,e1⟩:∃ X,X=H.alloc (OR (bD f) xp):=⟨_,rfl⟩
 have f1:Fr Em H H1:=by rw [e1];exact (Fr.refl H).alloc _
 have g1:kJ f H.next H1:=by rw [e1];exact kJ.new f H
 have h1:=h.em f1;have r27:Op.aa [.ptr c.r 27] H1=some (.bool m.cr):=h1.ld.2.2.2.2.2.2.2.1;cases hin:m.cr with
 | true =>
  rw [hin] at r27;simp only [↓qh,qq,reduceIte,reduceEqDiff,w0,sk,<-e1,w2,qi,r27];exact ⟨bv,f1.mono λ _ _ q=>q.elim,λ b q=>.inl q,λ _=>h1,λ q=>by cases q⟩
 | false =>
  rw [hin] at r27;obtain ⟨H2,st,h2,f2⟩:=h1.B8 true;have hi:=h.hi;have g2:=(g1.off f2 (λ (q:H.next=c.r)=>by omega)).ld;simp only [↓qh,qq,reduceIte,reduceEqDiff,w0,sk,<-e1,w2,qi,r27,w10,st,g2.2.2.2.2.2];refine C3.q (Gc (M:=M) (f:=f) h2) λ v H3 ⟨hv,h3,f3⟩=>?_;obtain ⟨bl,bb,be,hr⟩:=h3.row;obtain ⟨a0,a1,a2,a3,a4,a5,a6,a7,ea⟩:=eJ h.r8;obtain ⟨b0,b1,b2,b3,b4,b5,b6,b7,eb⟩:=eJ h.b8;have ow:aD wv=true:=(dH.sl h.wo).one;obtain ⟨row,hrow⟩:∃ x,x=gI c.cv wv bv { m with cr:=true,pc:=f.next } bl bb be:=⟨_,rfl⟩
  have hr:H3.get c.r=some (OR row zq):=by rw [hrow];exact hr
  have len:row.length=29:=by rw [hrow];exact (Bq (m:={ m with cr:=true,pc:=f.next }) h.r8 h.b8).2.2.2.2.2.2.2.2.2.2.2
  have l13:Op.au 13 [.ptr c.r 1] H3=some (.agg ((row.drop 1).take 13)):=by rw [mg (qy hr) (by rw [len];decide)]
  have all13:bh ((row.drop 1).take 13)=true:=by
   rw [hrow];unfold gI;simp only [ea,eb];show bh [wv,uC a0,uC a1,uC a2,uC a3,uC a4,uC a5,uC a6,uC a7,.int .i64 f.next,.int .i64 (m.left:Nat),.int .i64 (m.aN:Nat),.int .i64 (m.err:Nat)]=true;rw [mU,C2,ow];rfl
  have mz:=y9 hr (o:=14) (n:=13) (v:=.agg ((row.drop 1).take 13)) (by rw [z7,ky,tY,len];decide) (by rw [len];decide) (by rw [z7];exact all13);rw [z7] at mz;obtain ⟨row4,hrow4⟩:∃ x,x=row.take 14++(row.drop 1).take 13++row.drop (14+13):=⟨_,rfl⟩
  rw [<-hrow4] at mz;obtain ⟨H4,d4⟩:∃ X,X=H3.set c.r (OR row4 zq):=⟨_,rfl⟩
  have g4:H4.get c.r=some (OR row4 zq):=by rw [d4];exact GK
  have len4:row4.length=29:=by rw [hrow4];simp [len]
  have w4':row4[1]? = some wv:=by rw [hrow4,hrow];unfold gI;simp only [ea,eb];rfl
  have l1:Op.aa [.ptr c.r 1] H4=some wv:=by rw [j8 (qy g4),w4']
  have mz:Op.store 13 [.ptr c.r 14,.agg ((row.drop 1).take 13)] H3=some (.undef,H4):=by rw [d4];exact mz
  have f4:Fr (On c.r) H3 H4:=by rw [d4];exact (Fr.refl H3).set (W:=On c.r) (.inl rfl) _
  have wo4:dH fD vq 1 H4 wv m.w:=Own.fr h3.wo f4 λ x hx (q:x=c.r)=>(h.wf x hx).2 q;simp only [↓qh,qq,reduceIte,reduceEqDiff,qi,l13,mz,l1];refine C3.q (qym (M:=M) (dH.sl wo4) (by omega)) λ bv' H5 hn=>?_;have n4:H.next<=H4.next:=xz f1.next (xz f2.next (xz f3.next f4.next))
  have hi4:c.r<H4.next:=qe hi n4
  have ob:aD bv'=true:=hn.sl.one;have g5:H5.get c.r=some (OR row4 zq):=by rw [hn.fr.aj _ hi4 id];exact g4
  have st5:=Ey g5 (o:=14) (by omega) ob;simp only [↓qh,qq,reduceIte,reduceEqDiff,qi,st5];obtain ⟨H6,d6⟩:∃ X,X=H5.set c.r (OR (row4.set 14 bv') zq):=⟨_,rfl⟩
  rw [<-d6];have f6:Fr (On c.r) H5 H6:=by rw [d6];exact (Fr.refl H5).set (W:=On c.r) (.inl rfl) _
  have f16:Fr (On c.r) H H6:=(((((f1.mono λ _ _ q=>q.elim).trans f2 λ x q=>.inl q).trans f3 λ x q=>.inl q).trans f4 λ x q=>.inl q).trans hn.fr λ x q=>q.elim).trans f6 λ x q=>.inl q;have hfresh:∀ b,bL bv' b->H4.next<=b:=hn.fresh
  have h0:=h.fr.next
  refine ⟨bv',f16,λ b q=>.inr (xz n4 (hfresh b q)),λ q=>(by cases q),λ _=>⟨?_,h.lo,qe hi f16.next,h.fr.trans f16 λ x (q:x=c.r)=>.inr (by rw [q];exact h.lo),?_,h.wf,?_,?_,h.r8,h.r8⟩⟩
  ·refine ⟨(m.left:Nat),(m.aN:Nat),(m.err:Nat),?_⟩;rw [d6,xd,hrow4,hrow];unfold gI;simp only [ea,eb];rfl
  ·exact Own.fr (Own.em wo4 hn.fr) f6 λ x hx (q:x=c.r)=>(h.wf x hx).2 q
  ·exact Own.fr hn.own f6 λ x hx (q:x=c.r)=>by have:=hfresh x hx;omega
  ·intro b q;have:=hfresh b q;refine ⟨by omega,by omega,λ w=>?_⟩;have:=Own.lt h.wo b w;omega
end
end Go.Am
namespace Go.Am
open Lang Go.Proofs
variable {M:aO} [MK M]
structure oi (f:i7):Prop where
 kind:f.kind=0\/f.kind=1\/f.kind=2\/f.kind=3\/f.kind=4\/f.kind=5\/f.kind=6\/f.kind=7
 mq:f.kind=1\/f.kind=3->0<=f.mq/\f.mq<8
 val:lZ f.value
 addr:lZ f.addr
theorem fc:lZ 0:=⟨Int.le_refl _,by decide⟩
theorem Kn (n:Int):lZ (ae .u64 n):=by rw [BV];constructor<;>omega
theorem AJ (o:Nat) (x y:Int):lZ (jX o x y):=by unfold jX;(repeat' split)<;>exact Kn _
theorem xdg (i:bB) {rs:List Int} {pc:Int} (h8:rs.length=8) (hr:∀ x ∈ rs,lZ x):oi (i.bZ rs pc):=by
 have e0:oi fS:=⟨.inl rfl,λ q=>q.elim (λ q=>by cases q) λ q=>(by cases q),fc,fc⟩
 have eg:∀ q,oi (dW i pc q):=λ q=>by
  unfold dW;split
  ·split
   ·exact e0
   ·exact ⟨.inr (.inr (.inl rfl)),λ q=>q.elim (λ q=>by cases q) λ q=>(by cases q),fc,fc⟩
  ·exact ⟨.inr (.inr (.inl rfl)),λ q=>q.elim (λ q=>by cases q) λ q=>(by cases q),fc,fc⟩
 unfold bB.bZ
 by_cases hb:¬ i.eE\/pc<0\/1024<=pc
 ·rw [qk hb];exact e0
 rw [qc hb];have hl:i.eE:=Fv.1 λ q=>hb (.inl q);have hop:1<=i.op/\i.op<=18:=⟨hl.1,hl.2.1⟩
 have ha:(2<=i.op/\i.op<=11)->0<=i.a/\i.a<8:=λ q=>by
  refine hl.2.2.1 ?_;have:i.op.toNat=2\/i.op.toNat=3\/(4<=i.op.toNat/\i.op.toNat<=10)\/i.op.toNat=11:=by omega
  unfold gJ;rcases this with h|h|h|h
  ·rw [h];decide
  ·rw [h];decide
  ·rw [qc (by omega),qc (by omega),qk h];decide
  ·rw [h];decide
 have st:∀ v,(2<=i.op/\i.op<=11)->lZ v->oi ⟨1,pc+1,i.a,v,0⟩:=λ v q hv=>⟨.inr (.inl rfl),λ _=>ha q,hv,fc⟩
 refine wK (λ h=>⟨.inr (.inr (.inr (.inr (.inr (.inr (.inr rfl)))))),λ q=>q.elim (λ q=>by cases q) λ q=>(by cases q),fc,fc⟩) λ h1=>?_;refine wK (λ h=>st _ (by omega) (Kn _)) λ h2=>?_;refine wK (λ h=>st _ (by omega) (J1 h8 hr _)) λ h3=>?_;refine wK (λ h=>st _ (by omega) (AJ _ _ _)) λ h4=>?_;refine wK (λ h=>⟨.inr (.inr (.inr (.inl rfl))),λ _=>ha (by omega),fc,Kn _⟩) λ h5=>?_;refine wK (λ h=>⟨.inr (.inr (.inr (.inr (.inl rfl)))),λ q=>q.elim (λ q=>by cases q) λ q=>(by cases q),J1 h8 hr _,Kn _⟩) λ h6=>?_;refine wK (λ h=>eg _) λ h7=>?_;refine wK (λ h=>eg _) λ h7=>?_;refine wK (λ h=>eg _) λ h7=>?_;refine wK (λ h=>eg _) λ h7=>?_;refine wK (λ h=>⟨.inr (.inr (.inr (.inr (.inr (.inl rfl))))),λ q=>q.elim (λ q=>by cases q) λ q=>(by cases q),fc,fc⟩) λ h8=>?_;exact ⟨.inr (.inr (.inr (.inr (.inr (.inr (.inl rfl)))))),λ q=>q.elim (λ q=>by cases q) λ q=>(by cases q),fc,fc⟩
structure Lang.SM.bC (m:SM):Prop where
 ok:m.ok
 wl:m.w.length<=4096
 bl:m.bw.length<=4096
 wr:∀ x ∈ m.w,lZ x
 rr:∀ x ∈ m.rs,lZ x
 br:∀ x ∈ m.bw,lZ x
 qr:∀ x ∈ m.mD,lZ x
 fl:m.left+m.aN<=2000000
theorem la {l:List Int} {k:Nat} {v x:Int} (h:x ∈ l.set k v):x ∈ l\/x=v:=by
 rcases List.mem_or_eq_of_mem_set h with q|q
 ·exact .inl q
 ·exact .inr q
theorem Lang.SM.bC.fin {m:SM} (h:m.bC) (e:Nat):(m.fin e).bC:=by
 have ho:=SM.sQ h.ok e;unfold SM.fin at *;split
 ·rename_i q;rw [qk q] at ho;exact ⟨ho,h.bl,h.bl,h.br,h.qr,h.br,h.qr,h.fl⟩
 ·rename_i q;rw [qc q] at ho;exact ⟨ho,h.wl,h.bl,h.wr,h.rr,h.br,h.qr,h.fl⟩
theorem Lang.SM.bC.bQ {m x:SM} (h:m.bC) (hl:m.left+m.aN+1<=2000000) {f:i7} (hf:oi f) (hn:0<=f.next/\f.next<=1024) (he:m.bQ f=some x):x.bC:=by
 have ho:=SM.C7 h.ok hn.1 hn.2 he;have hg:=λ i=>show lZ (m.w.getD i 0) from by
  rw [yf];cases hq:m.w[i]? with
  | none=>exact fc
  | some y=>exact h.wr y (xv hq)
 unfold SM.bQ at he
 by_cases k1:f.kind=1
 ·rw [qk k1] at he;injection he with he;subst he
  exact ⟨ho,h.wl,h.bl,h.wr,λ x q=>(la q).elim (h.rr x) λ q=>by rw [q];exact hf.val,h.br,h.qr,h.fl⟩
 rw [qc k1] at he
 by_cases k2:f.kind=2
 ·rw [qk k2] at he;injection he with he;subst he
  exact ⟨ho,h.wl,h.bl,h.wr,h.rr,h.br,h.qr,h.fl⟩
 rw [qc k2] at he
 by_cases k3:f.kind=3
 ·rw [qk k3] at he;split at he
  ·injection he with he;subst he
   exact ⟨ho,h.wl,h.bl,h.wr,λ x q=>(la q).elim (h.rr x) λ q=>by rw [q];exact hg _,h.br,h.qr,h.fl⟩
  ·cases he
 rw [qc k3] at he
 by_cases k4:f.kind=4
 ·rw [qk k4] at he;split at he
  ·injection he with he;subst he
   exact ⟨ho,by simpa using h.wl,h.bl,λ x q=>(la q).elim (h.wr x) λ q=>by rw [q];exact hf.val,h.rr,h.br,h.qr,h.fl⟩
  ·cases he
 rw [qc k4] at he
 by_cases k5:f.kind=5
 ·rw [qk k5] at he;split at he
  ·cases he
  ·injection he with he;subst he
   exact ⟨ho,h.wl,h.wl,h.wr,h.rr,h.wr,h.rr,h.fl⟩
 rw [qc k5] at he
 by_cases k6:f.kind=6
 ·rw [qk k6] at he;split at he
  ·injection he with he;subst he
   exact ⟨ho,h.wl,h.bl,h.wr,h.rr,h.br,h.qr,by show m.left+(m.aN+1)<=2000000;omega⟩
  ·cases he
 rw [qc k6] at he
 by_cases k7:f.kind=7
 ·rw [qk k7] at he;split at he
  ·cases he
  ·injection he with he;subst he;exact h.fin 0
 ·rw [qc k7] at he;cases he
theorem Lang.SM.bC.take {m:SM} (h:m.bC) (hl:m.left+m.aN+1<=2000000) (code:List bB):(m.take code).bC:=by
 unfold SM.take;cases code[m.pc.toNat]? with
 | none=>exact h.fin _
 | some i =>
  simp only;cases he:m.bQ (i.bZ m.rs m.pc) with
  | none=>exact h.fin _
  | some x=>exact h.bQ hl (xdg i h.ok.r8 h.rr) (xdf i m.rs h.ok.p0 h.ok.p1) he
theorem gD {H:AHeap} {b:Nat} {es:List (AV × AV × Nat)} {k:Nat} (h:H.get b=some (.map es k)) {key:Int} {v:AV} (hk:findKey .int (.int .i64 key) es 0=some none):Op.mapUpdate .int [.map b,.int .i64 key,v] H=some (.undef,H.set b (.map (es ++ [(.int .i64 key,v,k)]) (k+1))):=by
 have hm:H.dZ b=some (es,k):=by simp [AHeap.dZ,h]
 simp only [Op.mapUpdate,ct,ql,hm,qd,hk]
def es7 (v1 v2 v3 v4 v5 v6 v7:AV):List (AV × AV × Nat):=[(.int .i64 1,v1,0),(.int .i64 2,v2,1),(.int .i64 3,v3,2),(.int .i64 4,v4,3),(.int .i64 5,v5,4),(.int .i64 6,v6,5),(.int .i64 7,v7,6)]
theorem JJ (H:AHeap) (v1 v2 v3 v4 v5 v6 v7:AV):∃ H1 H2 H3 H4 H5 H6 H7,Op.mapUpdate .int [.map H.next,.int .i64 1,v1] (H.alloc (.map [] 0))=some (.undef,H1)/\Op.mapUpdate .int [.map H.next,.int .i64 2,v2] H1=some (.undef,H2)/\Op.mapUpdate .int [.map H.next,.int .i64 3,v3] H2=some (.undef,H3) /\
 Op.mapUpdate .int [.map H.next,.int .i64 4,v4] H3=some (.undef,H4)/\Op.mapUpdate .int [.map H.next,.int .i64 5,v5] H4=some (.undef,H5)/\Op.mapUpdate .int [.map H.next,.int .i64 6,v6] H5=some (.undef,H6)/\Op.mapUpdate .int [.map H.next,.int .i64 7,v7] H6=some (.undef,H7)/\Fr Em H H7/\H7.get H.next=some (.map (es7 v1 v2 v3 v4 v5 v6 v7) 7):=by
 have f0:Fr Em H (H.alloc (.map [] 0)):=(Fr.refl H).alloc _;have s:∀ {Hx:AHeap} (o:bg),Fr Em H Hx->Fr Em H (Hx.set H.next o):=λ o f=>f.set (.inr (qf _)) o;exact ⟨_,_,_,_,_,_,_,gD (qp ..) rfl,gD (xd ..) rfl,gD (xd ..) rfl,gD (xd ..) rfl,gD (xd ..) rfl,gD (xd ..) rfl,gD (xd ..) rfl,s _ (s _ (s _ (s _ (s _ (s _ (s _ f0)))))),xd ..⟩
theorem xN {H:AHeap} {b:Nat} {es:List (AV × AV × Nat)} {k:Nat} (h:H.get b=some (.map es k)) (key:Int):Op.lookup .int .nilf true [.map b,.int .i64 key] H=(findKey .int (.int .i64 key) es 0).bind λ r=>match r with
 | some p=>some (.tuple [p.2,.bool true])
 | none=>some (.tuple [.nilf,.bool false]):=by
 have hm:H.dZ b=some (es,k):=by simp [AHeap.dZ,h]
 simp only [Op.lookup,ct,ql,hm,qd];rfl
end Go.Am
namespace Go.Am
open Lang Go.Proofs
variable {M:aO} [MK M]
theorem uJ (i:bB):(gn i).length=5:=rfl
def L5 (c:rY) (H:AHeap) (wv bv:AV) (m':SM) (H':AHeap):Prop:=∃ bv',Fr (oA c wv) H H'/\(∀ b,bL bv' b->(bL bv b\/H.next<=b)/\b<H'.next) /\
 (m'.over=false->dY c H' wv bv' m')/\(m'.over=true->nj c (λ b=>b=c.r\/bL wv b\/bL bv' b) H' m')
section
variable {c:rY} {H:AHeap} {wv bv:AV} {m:SM} {code:List bB}
theorem q4t {H1:AHeap} {bv1:AV} (h1:dY c H1 wv bv1 m) (f1:Fr (oA c wv) H H1) (hb:∀ b,bL bv1 b->bL bv b\/H.next<=b) (e:Nat):ye M j9 [.ptr c.r 0,.int .i64 (e:Nat)] H1 λ _ H'=>L5 c H wv bv (m.fin e) H' :=
 (JE (M:=M) h1 e).mono λ v H' ⟨q1,q2⟩=>⟨bv1,f1.trans q2 λ x q=>.inl (.inl q),λ b q=>⟨hb b q,qe (Own.lt h1.bo b q) q2.next⟩,λ q=>(by rw [SM.iY] at q;cases q),λ _=>q1⟩
theorem q6d (h:dY c H wv bv m) (hg:m.bC) (ho:m.over=false) (hb2:m.aN<=10000000) (hs:xD c.H0) (hc:cU gn 5 c.H0 c.cv code):ye M EF [.ptr c.r 0,.int .i64 m.pc] H λ _ H'=>L5 c H wv bv (m.take code) H':=by
 refine qtc ?_;obtain ⟨w0,w8,w12⟩:=qtd M ⟨none,EF⟩;have r0:Op.aa [.ptr c.r 0] H=some c.cv:=h.ld.1;have ln:Op.aS [c.cv]=some (.int .i64 (code.length:Nat)):=hc.len;have p0:=hg.ok.p0;have self:Fr (oA c wv) H H:=Fr.refl H
 by_cases hq:(code.length:Int)<=m.pc
 ·have e:m.take code=m.fin 111:=by unfold SM.take;rw [je (by omega)]
  rw [e];simp only [↓qh,qq,reduceIte,reduceEqDiff,w0,qi,r0,ln,hq];refine C3.q (q4t (M:=M) h self (λ b q=>.inl q) 111) λ v H1 hx=>?_;simp only [↓qh,qq,reduceIte,reduceEqDiff];exact hx
 have q1:¬ (code.length:Int)<=m.pc:=hq;obtain ⟨i,hi⟩:∃ i,code[m.pc.toNat]? = some i:=⟨code[m.pc.toNat]'(by omega),by simp [show m.pc.toNat<code.length by omega]⟩
 have hcH:=hc.em h.fr;have idx:=hcH.idx hi (z:=m.pc) (by omega) .i64;have lc:=hcH.au uJ (by decide) hi;have rr:Op.au 8 [.ptr c.r 2] H=some (.agg (m.rs.map uC)):=h.ld.2.2.2.2.2.2.2.2.2.1;have ht:m.take code=(m.bQ (i.bZ m.rs m.pc)).getD (m.fin 111):=by unfold SM.take;rw [hi]
 rw [ht];simp only [↓qh,qq,reduceIte,reduceEqDiff,w0,qi,r0,ln,q1,w8,idx,lc,rr];refine C3.q (Aq (M:=M) (hs.em h.fr) h.r8 hg.rr) λ v H1 ⟨hv,f1⟩=>?_;subst hv;have eo:=xdg i (pc:=m.pc) h.r8 hg.rr;obtain ⟨f,hf⟩:∃ f,f=i.bZ m.rs m.pc:=⟨_,rfl⟩
 rw [<-hf] at eo ⊢;obtain ⟨H2,e2⟩:∃ X,X=H1.alloc (OR (bD fS) xp):=⟨_,rfl⟩
 have f2:Fr Em H1 H2:=by rw [e2];exact (Fr.refl H1).alloc _
 have g2:H2.get H1.next=some (OR (bD fS) xp):=by rw [e2,qp]
 have n2:H2.next=H1.next+1:=by rw [e2,xk]
 have st2:=BF (f:=f) g2;obtain ⟨H3,e3⟩:∃ X,X=H2.set H1.next (OR (bD f) xp):=⟨_,rfl⟩
 rw [<-e3] at st2;have f3:Fr Em H1 H3:=by rw [e3];exact f2.set (.inr (qf _)) _
 have n3:H3.next=H1.next+1:=by rw [e3];exact n2
 have g3:H3.get H1.next=some (OR (bD f) xp):=by rw [e3];exact xd ..
 have mkm:Op.mkMap []=some (.map [] 0,.map):=rfl;have k1:Op.bm vh 1 [.ptr c.r 0]=some (.fn (.func vh) [.ptr c.r 0] []):=rfl;have k2:Op.bm jb 1 [.ptr c.r 0]=some (.fn (.func jb) [.ptr c.r 0] []):=rfl;have k3:Op.bm k9 1 [.ptr c.r 0]=some (.fn (.func k9) [.ptr c.r 0] []):=rfl;have k4:Op.bm ko 1 [.ptr c.r 0]=some (.fn (.func ko) [.ptr c.r 0] []):=rfl;have k5:Op.bm km 1 [.ptr c.r 0]=some (.fn (.func km) [.ptr c.r 0] []):=rfl;have k6:Op.bm j7 1 [.ptr c.r 0]=some (.fn (.func j7) [.ptr c.r 0] []):=rfl;have k7:Op.bm kz 1 [.ptr c.r 0]=some (.fn (.func kz) [.ptr c.r 0] []):=rfl;obtain ⟨G1,G2,G3,G4,G5,G6,G7,u1,u2,u3,u4,u5,u6,u7,fG,gG⟩:=JJ H3 (.fn (.func vh) [.ptr c.r 0] []) (.fn (.func jb) [.ptr c.r 0] []) (.fn (.func k9) [.ptr c.r 0] []) (.fn (.func ko) [.ptr c.r 0] []) (.fn (.func km) [.ptr c.r 0] []) (.fn (.func j7) [.ptr c.r 0] []) (.fn (.func kz) [.ptr c.r 0] []);have f7:Fr Em H G7:=(f1.trans f3 λ _ q=>q.elim).trans fG λ _ q=>q.elim;have e7:kJ f H1.next G7:=(kJ.em ⟨g3,by omega⟩ fG)
 obtain ⟨l0,l1,l2,l3,l4,l5⟩:=e7.ld;have h7:=h.em f7;have self7:Fr (oA c wv) H G7:=f7.mono λ _ _ q=>q.elim;have n7:=f7.next
 simp only [↓qh,qq,reduceIte,reduceEqDiff,jM,<-e2,st2,mkm,z9,zt,zm,xq,u1,u2,u3,u4,u5,u6,u7,w12,l0];have lk7:=xN gG;have tk:∀ {bv':AV} {x:SM} {H':AHeap},m.bQ f=some x->x.over=false->dY c H' wv bv' x->Fr (oA c wv) G7 H'->(∀ b,bL bv' b->bL bv b\/H.next<=b)->L5 c H wv bv ((m.bQ f).getD (m.fin 111)) H':=λ {bv' x H'} hx hxo hr hfr hbb =>
  ⟨bv',self7.trans hfr λ b q=>.inl q,λ b q=>⟨hbb b q,Own.lt hr.bo b q⟩,λ _=>by rw [hx];exact hr,λ q=>by rw [hx] at q;rw [show (some x).getD (m.fin 111)=x from rfl,hxo] at q;cases q⟩
 have no:∀ {bv':AV} {H':AHeap},m.bQ f=none->dY c H' wv bv' m->Fr (oA c wv) G7 H'->(∀ b,bL bv' b->bL bv b\/H.next<=b)->ye M j9 [.ptr c.r 0,.int .i64 (111:Nat)] H' λ _ H''=>L5 c H wv bv ((m.bQ f).getD (m.fin 111)) H'':=λ {bv' H'} hx hr hfr hbb=>by
  rw [hx];exact q4t (M:=M) hr (self7.trans hfr λ b q=>.inl q) hbb 111
 have own:∀ b,bL bv b->bL bv b\/H.next<=b:=λ b q=>.inl q
 have frR:∀ {Ha Hb:AHeap},Fr (On c.r) Ha Hb->Fr (oA c wv) Ha Hb:=λ q=>q.mono λ b _ w=>.inl w;rcases eo.kind with k|k|k|k|k|k|k|k
 ·have lk:Op.lookup .int .nilf true [.map H3.next,.int .i64 f.kind] G7=some (.tuple [.nilf,.bool false]):=by rw [lk7,k];rfl
  have he:m.bQ f=none:=by unfold SM.bQ;rw [k];rfl
  simp only [↓qh,qq,reduceIte,reduceEqDiff,lk,zo];refine C3.q (no he h7 (Fr.refl _) own) λ v Hx hx=>?_;simp only [↓qh,qq,reduceIte,reduceEqDiff];exact hx
 ·obtain ⟨a0,a1⟩:=eo.mq (.inl k);have lk:Op.lookup .int .nilf true [.map H3.next,.int .i64 f.kind] G7=some (.tuple [.fn (.func vh) [.ptr c.r 0] [],.bool true]):=by rw [lk7,k];rfl
  have he:m.bQ f=some { m with rs:=m.rs.set f.mq.toNat f.value,pc:=f.next }:=by unfold SM.bQ;rw [qk k]
  simp only [↓qh,qq,reduceIte,reduceEqDiff,lk,zo,l5];refine C3.q (sE (M:=M) h7 (f:=f) (k:=f.mq.toNat) (by omega) (by omega)) λ v Hx ⟨hv,hx,fx⟩=>?_;subst hv;simp only [↓qh,qq,reduceIte,reduceEqDiff];exact tk he ho hx (frR fx) own
 ·have lk:Op.lookup .int .nilf true [.map H3.next,.int .i64 f.kind] G7=some (.tuple [.fn (.func jb) [.ptr c.r 0] [],.bool true]):=by rw [lk7,k];rfl
  have he:m.bQ f=some { m with pc:=f.next }:=by unfold SM.bQ;rw [qc (by rw [k];decide),qk k]
  simp only [↓qh,qq,reduceIte,reduceEqDiff,lk,zo,l5];refine C3.q (Gc (M:=M) h7 (f:=f)) λ v Hx ⟨hv,hx,fx⟩=>?_;subst hv;simp only [↓qh,qq,reduceIte,reduceEqDiff];exact tk he ho hx (frR fx) own
 ·obtain ⟨a0,a1⟩:=eo.mq (.inr k);have lk:Op.lookup .int .nilf true [.map H3.next,.int .i64 f.kind] G7=some (.tuple [.fn (.func k9) [.ptr c.r 0] [],.bool true]):=by rw [lk7,k];rfl
  simp only [↓qh,qq,reduceIte,reduceEqDiff,lk,zo,l5];refine C3.q (xe5 (M:=M) h7 hg.wl eo.addr (f:=f) (k:=f.mq.toNat) (by omega) (by omega)) λ v Hx ⟨fx,hx⟩=>?_;rcases hx with ⟨q,hv,hx⟩|⟨q,hv,hx⟩
  ·have he:m.bQ f=some { m with rs:=m.rs.set f.mq.toNat (m.w.getD f.addr.toNat 0),pc:=f.next }:=by unfold SM.bQ;rw [qc (by rw [k];decide),qc (by rw [k];decide),qk k,qk q]
   subst hv;simp only [↓qh,qq,reduceIte,reduceEqDiff];exact tk he ho hx (frR fx) own
  ·have he:m.bQ f=none:=by unfold SM.bQ;rw [qc (by rw [k];decide),qc (by rw [k];decide),qk k,qc q]
   subst hv;simp only [↓qh,qq,reduceIte,reduceEqDiff];refine C3.q (no he hx (frR fx) own) λ v Hx hx=>?_;simp only [↓qh,qq,reduceIte,reduceEqDiff];exact hx
 ·have lk:Op.lookup .int .nilf true [.map H3.next,.int .i64 f.kind] G7=some (.tuple [.fn (.func ko) [.ptr c.r 0] [],.bool true]):=by rw [lk7,k];rfl
  simp only [↓qh,qq,reduceIte,reduceEqDiff,lk,zo,l5];refine C3.q (xb6 (M:=M) h7 hg.wl eo.addr (f:=f)) λ v Hx ⟨fx,hx⟩=>?_;rcases hx with ⟨q,hv,hx⟩|⟨q,hv,hx⟩
  ·have he:m.bQ f=some { m with w:=m.w.set f.addr.toNat f.value,pc:=f.next }:=by unfold SM.bQ;rw [qc (by rw [k];decide),qc (by rw [k];decide),qc (by rw [k];decide),qk k,qk q]
   subst hv;simp only [↓qh,qq,reduceIte,reduceEqDiff];exact tk he ho hx fx own
  ·have he:m.bQ f=none:=by unfold SM.bQ;rw [qc (by rw [k];decide),qc (by rw [k];decide),qc (by rw [k];decide),qk k,qc q]
   subst hv;simp only [↓qh,qq,reduceIte,reduceEqDiff];refine C3.q (no he hx fx own) λ v Hx hx=>?_;simp only [↓qh,qq,reduceIte,reduceEqDiff];exact hx
 ·have lk:Op.lookup .int .nilf true [.map H3.next,.int .i64 f.kind] G7=some (.tuple [.fn (.func km) [.ptr c.r 0] [],.bool true]):=by rw [lk7,k];rfl
  simp only [↓qh,qq,reduceIte,reduceEqDiff,lk,zo,l5];refine C3.q (xb5 (M:=M) h7 hg.wl (f:=f)) λ v Hx ⟨bv',fx,hbv,hv,hx,hy⟩=>?_;subst hv;have ownb:∀ b,bL bv' b->bL bv b\/H.next<=b:=λ b q=>(hbv b q).imp id λ q=>xz n7 q
  cases hin:m.cr with
  | true =>
   have he:m.bQ f=none:=by unfold SM.bQ;rw [qc (by rw [k];decide),qc (by rw [k];decide),qc (by rw [k];decide),qc (by rw [k];decide),qk k,qk hin]
   simp only [↓qh,qq,reduceIte,reduceEqDiff];refine C3.q (no he (hx hin) (frR fx) ownb) λ v Hx hx=>?_;simp only [↓qh,qq,reduceIte,reduceEqDiff];exact hx
  | false =>
   have he:m.bQ f=some { m with cr:=true,pc:=f.next,bw:=m.w,mD:=m.rs,nX:=f.next }:=by unfold SM.bQ;rw [qc (by rw [k];decide),qc (by rw [k];decide),qc (by rw [k];decide),qc (by rw [k];decide),qk k,qc (by rw [hin];decide)]
   simp only [↓qh,qq,reduceIte,reduceEqDiff];exact tk he ho (hy hin) (frR fx) ownb
 ·have lk:Op.lookup .int .nilf true [.map H3.next,.int .i64 f.kind] G7=some (.tuple [.fn (.func j7) [.ptr c.r 0] [],.bool true]):=by rw [lk7,k];rfl
  simp only [↓qh,qq,reduceIte,reduceEqDiff,lk,zo,l5];refine C3.q (q77 (M:=M) h7 hb2 (f:=f)) λ v Hx ⟨fx,hx⟩=>?_;rcases hx with ⟨q,hv,hx⟩|⟨q,hv,hx⟩
  ·have he:m.bQ f=some { m with cr:=false,aN:=m.aN+1,pc:=f.next }:=by unfold SM.bQ;rw [qc (by rw [k];decide),qc (by rw [k];decide),qc (by rw [k];decide),qc (by rw [k];decide),qc (by rw [k];decide),qk k,qk q]
   subst hv;simp only [↓qh,qq,reduceIte,reduceEqDiff];exact tk he ho hx (frR fx) own
  ·have he:m.bQ f=none:=by unfold SM.bQ;rw [qc (by rw [k];decide),qc (by rw [k];decide),qc (by rw [k];decide),qc (by rw [k];decide),qc (by rw [k];decide),qk k,qc q]
   subst hv;simp only [↓qh,qq,reduceIte,reduceEqDiff];refine C3.q (no he hx (frR fx) own) λ v Hx hx=>?_;simp only [↓qh,qq,reduceIte,reduceEqDiff];exact hx
 ·have lk:Op.lookup .int .nilf true [.map H3.next,.int .i64 f.kind] G7=some (.tuple [.fn (.func kz) [.ptr c.r 0] [],.bool true]):=by rw [lk7,k];rfl
  simp only [↓qh,qq,reduceIte,reduceEqDiff,lk,zo,l5];refine C3.q (xe3 (M:=M) h7 (f:=f)) λ v Hx ⟨fx,hv,hx,hy⟩=>?_;subst hv;cases hin:m.cr with
  | true =>
   have he:m.bQ f=none:=by unfold SM.bQ;rw [qc (by rw [k];decide),qc (by rw [k];decide),qc (by rw [k];decide),qc (by rw [k];decide),qc (by rw [k];decide),qc (by rw [k];decide),qk k,qk hin]
   simp only [↓qh,qq,reduceIte,reduceEqDiff];refine C3.q (no he (hx hin) (frR fx) own) λ v Hx hx=>?_;simp only [↓qh,qq,reduceIte,reduceEqDiff];exact hx
  | false =>
   have he:m.bQ f=some (m.fin 0):=by unfold SM.bQ;rw [qc (by rw [k];decide),qc (by rw [k];decide),qc (by rw [k];decide),qc (by rw [k];decide),qc (by rw [k];decide),qc (by rw [k];decide),qk k,qc (by rw [hin];decide)]
   simp only [↓qh,qq,reduceIte,reduceEqDiff];rw [he];exact ⟨bv,self7.trans (frR fx) λ b q=>.inl q,λ b q=>⟨own b q,qe (Own.lt h7.bo b q) fx.next⟩,λ q=>(by rw [show (some (m.fin 0)).getD (m.fin 111)=m.fin 0 from rfl,SM.iY] at q;cases q),λ _=>hy hin⟩
end
end Go.Am
