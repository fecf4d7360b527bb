/- LqR3: SoA SoB SoC SoD. -/
import Derived.Test.YtbimikjajohflaaGreatDoorAmRCodeR
import Derived.Test.YtbimikjajohflaaGreatDoorAmRLqR2
import Derived.Test.YtbimikjajohflaaGreatDoorAmRLqR1
set_option linter.unusedVariables false
set_option linter.unusedSimpArgs false
set_option linter.unusedSectionVars false
set_option maxRecDepth 100000
namespace Go.Am
open Lang Go.Proofs
variable {M:Mac} [MK M]
abbrev encW (x:Int):List AV:=[.int .u64 x]
theorem qio (x:Int):(encW x).length=1:=rfl
structure SoK where
 H0:AHeap
 r:Nat
 cv:AV
def soC (cv wv bv:AV) (m:SM) (bl bb be:Int):List AV :=
 cv::wv::(m.rs.map uC++(.int .i64 m.pc::.int .i64 (m.left:Nat)::.int .i64 (m.blk:Nat)::.int .i64 (m.err:Nat)::bv::(m.brs.map uC ++ [.int .i64 m.bpc,.int .i64 bl,.int .i64 bb,.int .i64 be,.bool m.inb,.bool m.over])))
theorem list8 {l:List Int} (h:l.length=8):∃ v0 v1 v2 v3 v4 v5 v6 v7,l=[v0,v1,v2,v3,v4,v5,v6,v7]:=by
 match l,h with
 | [a,b,c,d,e,f,g,i],_=>exact ⟨a,b,c,d,e,f,g,i,rfl⟩
structure SoR (c:SoK) (H:AHeap) (wv bv:AV) (m:SM):Prop where
 row:∃ bl bb be,H.get c.r=some (OR (soC c.cv wv bv m bl bb be) xf)
 lo:c.H0.next<=c.r
 hi:c.r<H.next
 fr:Fr Em c.H0 H
 wo:OwnT encW qbl 1 H wv m.w
 wf:∀ b,OnS wv b->c.H0.next<=b/\b ≠ c.r
 bo:OwnT encW qbl 1 H bv m.bw
 bf:∀ b,OnS bv b->c.H0.next<=b/\b ≠ c.r /\ ¬ OnS wv b
 r8:m.rs.length=8
 b8:m.brs.length=8
def SoW (c:SoK) (wv:AV):Nat->Prop:=fun b=>b=c.r\/OnS wv b
section
variable {c:SoK} {H H':AHeap} {wv bv:AV} {m:SM}
theorem SoR.em (h:SoR c H wv bv m) (f:Fr Em H H'):SoR c H' wv bv m :=
 ⟨by rw [f.keep _ h.hi id];exact h.row,h.lo,qf h.hi f.next,h.fr.trans f fun _ q=>q.elim,Own.em h.wo f,h.wf,Own.em h.bo f,h.bf,h.r8,h.b8⟩
theorem qh7 {cv wv bv:AV} {m:SM} {bl bb be:Int} (h:m.rs.length=8) (h':m.brs.length=8):(soC cv wv bv m bl bb be)[0]? = some cv/\(soC cv wv bv m bl bb be)[1]? = some wv/\(soC cv wv bv m bl bb be)[10]? = some (.int .i64 m.pc)/\(soC cv wv bv m bl bb be)[11]? = some (.int .i64 (m.left:Nat))/\(soC cv wv bv m bl bb be)[12]? = some (.int .i64 (m.blk:Nat)) /\
 (soC cv wv bv m bl bb be)[14]? = some bv/\(soC cv wv bv m bl bb be)[23]? = some (.int .i64 m.bpc)/\(soC cv wv bv m bl bb be)[27]? = some (.bool m.inb)/\(soC cv wv bv m bl bb be)[28]? = some (.bool m.over)/\((soC cv wv bv m bl bb be).drop 2).take 8=m.rs.map uC/\((soC cv wv bv m bl bb be).drop 15).take 8=m.brs.map uC/\(soC cv wv bv m bl bb be).length=29:=by
 obtain ⟨a0,a1,a2,a3,a4,a5,a6,a7,e⟩:=list8 h
 obtain ⟨b0,b1,b2,b3,b4,b5,b6,b7,e'⟩:=list8 h'
 unfold soC;rw [e,e']
 exact ⟨rfl,rfl,rfl,rfl,rfl,rfl,rfl,rfl,rfl,rfl,rfl,rfl⟩
theorem SoR.ld (h:SoR c H wv bv m):Op.load1 [.ptr c.r 0] H=some c.cv/\Op.load1 [.ptr c.r 1] H=some wv/\Op.load1 [.ptr c.r 10] H=some (.int .i64 m.pc)/\Op.load1 [.ptr c.r 11] H=some (.int .i64 (m.left:Nat))/\Op.load1 [.ptr c.r 12] H=some (.int .i64 (m.blk:Nat)) /\
 Op.load1 [.ptr c.r 14] H=some bv/\Op.load1 [.ptr c.r 23] H=some (.int .i64 m.bpc)/\Op.load1 [.ptr c.r 27] H=some (.bool m.inb)/\Op.load1 [.ptr c.r 28] H=some (.bool m.over)/\Op.loadN 8 [.ptr c.r 2] H=some (.agg (m.rs.map uC))/\Op.loadN 8 [.ptr c.r 15] H=some (.agg (m.brs.map uC)):=by
 obtain ⟨bl,bb,be,hr⟩:=h.row
 obtain ⟨q0,q1,q2,q3,q4,q5,q6,q7,q8,q9,q10,q11⟩:=qh7 (cv:=c.cv) (wv:=wv) (bv:=bv) (bl:=bl) (bb:=bb) (be:=be) h.r8 h.b8
 have l:=fun o=>ye (xm hr) o
 exact ⟨(l 0).trans q0,(l 1).trans q1,(l 10).trans q2,(l 11).trans q3,(l 12).trans q4,(l 14).trans q5,(l 23).trans q6,(l 27).trans q7,(l 28).trans q8,by rw [wx (xm hr) (by rw [q11];decide),q9],by rw [wx (xm hr) (by rw [q11];decide),q10]⟩
theorem SoR.put (h:SoR c H wv bv m) (m':SM) (hw:m'.w=m.w) (hb:m'.bw=m.bw) (r8:m'.rs.length=8) (b8:m'.brs.length=8) (bl bb be:Int) :
 SoR c (H.set c.r (OR (soC c.cv wv bv m' bl bb be) xf)) wv bv m'/\Fr (On c.r) H (H.set c.r (OR (soC c.cv wv bv m' bl bb be) xf)):=by
 have f:Fr (On c.r) H (H.set c.r (OR (soC c.cv wv bv m' bl bb be) xf)):=(Fr.refl H).set (W:=On c.r) (.inl rfl) _
 refine ⟨⟨⟨bl,bb,be,xc ..⟩,h.lo,h.hi,h.fr.trans f (fun x (q:x=c.r)=>.inr (by rw [q];exact h.lo)),?_,h.wf,?_,h.bf,r8,b8⟩,f⟩
 ·rw [hw];exact Own.fr h.wo f fun x hx (q:x=c.r)=>(h.wf x hx).2 q
 ·rw [hb];exact Own.fr h.bo f fun x hx (q:x=c.r)=>(h.bf x hx).2.1 q
theorem SoR.st (h:SoR c H wv bv m) (o:Nat) (v:AV) (m':SM) (hv:oneCell v=true) (ho:o<29) (hc:∀ bl bb be,(soC c.cv wv bv m bl bb be).take o ++ [v]++(soC c.cv wv bv m bl bb be).drop (o+1)=soC c.cv wv bv m' bl bb be) (hw:m'.w=m.w) (hb:m'.bw=m.bw) (r8:m'.rs.length=8) (b8:m'.brs.length=8) :
 ∃ H',Op.store 1 [.ptr c.r o,v] H=some (.undef,H')/\SoR c H' wv bv m'/\Fr (On c.r) H H':=by
 obtain ⟨bl,bb,be,hr⟩:=h.row
 have q11:=(qh7 (cv:=c.cv) (wv:=wv) (bv:=bv) (bl:=bl) (bb:=bb) (be:=be) h.r8 h.b8).2.2.2.2.2.2.2.2.2.2.2
 have oc:v.cells=[v]:=by cases v<;>first|rfl|cases hv
 have st:=qcg hr (o:=o) (n:=1) (v:=v) (by rw [oc];rfl) (by rw [q11];omega) (by rw [oc,qaz,qbk,hv];rfl)
 rw [oc,hc] at st
 obtain ⟨n1,n2⟩:=h.put m' hw hb r8 b8 bl bb be
 exact ⟨_,st,n1,n2⟩
theorem SoR.pc (h:SoR c H wv bv m) (p:Int):∃ H',Op.store 1 [.ptr c.r 10,.int .i64 p] H=some (.undef,H')/\SoR c H' wv bv { m with pc:=p }/\Fr (On c.r) H H':=by
 refine h.st 10 _ _ rfl (by decide) (fun bl bb be=>?_) rfl rfl h.r8 h.b8
 obtain ⟨a0,a1,a2,a3,a4,a5,a6,a7,e⟩:=list8 h.r8
 unfold soC;simp only [e];rfl
theorem SoR.setLeft (h:SoR c H wv bv m) (p:Nat):∃ H',Op.store 1 [.ptr c.r 11,.int .i64 (p:Nat)] H=some (.undef,H')/\SoR c H' wv bv { m with left:=p }/\Fr (On c.r) H H':=by
 refine h.st 11 _ _ rfl (by decide) (fun bl bb be=>?_) rfl rfl h.r8 h.b8
 obtain ⟨a0,a1,a2,a3,a4,a5,a6,a7,e⟩:=list8 h.r8
 unfold soC;simp only [e];rfl
theorem SoR.setBlk (h:SoR c H wv bv m) (p:Nat):∃ H',Op.store 1 [.ptr c.r 12,.int .i64 (p:Nat)] H=some (.undef,H')/\SoR c H' wv bv { m with blk:=p }/\Fr (On c.r) H H':=by
 refine h.st 12 _ _ rfl (by decide) (fun bl bb be=>?_) rfl rfl h.r8 h.b8
 obtain ⟨a0,a1,a2,a3,a4,a5,a6,a7,e⟩:=list8 h.r8
 unfold soC;simp only [e];rfl
theorem SoR.setIn (h:SoR c H wv bv m) (p:Bool):∃ H',Op.store 1 [.ptr c.r 27,.bool p] H=some (.undef,H')/\SoR c H' wv bv { m with inb:=p }/\Fr (On c.r) H H':=by
 refine h.st 27 _ _ rfl (by decide) (fun bl bb be=>?_) rfl rfl h.r8 h.b8
 obtain ⟨a0,a1,a2,a3,a4,a5,a6,a7,e⟩:=list8 h.r8
 obtain ⟨b0,b1,b2,b3,b4,b5,b6,b7,e'⟩:=list8 h.b8
 unfold soC;simp only [e,e'];rfl
theorem SoR.setReg (h:SoR c H wv bv m) {k:Nat} (hk:k<8) (v:Int):∃ H',Op.store 1 [.ptr c.r (2+k),.int .u64 v] H=some (.undef,H')/\SoR c H' wv bv { m with rs:=m.rs.set k v }/\Fr (On c.r) H H':=by
 refine h.st (2+k) _ _ rfl (by omega) (fun bl bb be=>?_) rfl rfl (by simpa using h.r8) h.b8
 obtain ⟨a0,a1,a2,a3,a4,a5,a6,a7,e⟩:=list8 h.r8
 unfold soC;simp only [e]
 rcases (show k=0\/k=1\/k=2\/k=3\/k=4\/k=5\/k=6\/k=7 by omega) with rfl|rfl|rfl|rfl|rfl|rfl|rfl|rfl<;>rfl
theorem SoR.setW (h:SoR c H wv bv m) {i:Nat} (hi:i<m.w.length) (v:Int):∃ H',Op.store 1 [.ptr (slB wv) (slO 1 wv i),.int .u64 v] H=some (.undef,H')/\SoR c H' wv bv { m with w:=m.w.set i v }/\Fr (OnS wv) H H':=by
 obtain ⟨x,hx⟩:∃ x,m.w[i]? = some x:=⟨m.w[i],by simp [hi]⟩
 obtain ⟨H',hst,hown,hf⟩:=OwnT.set1 qio h.wo hx (j:=0) (by omega) (u:=.int .u64 v) rfl (y:=v) rfl
 refine ⟨H',hst,⟨?_,h.lo,qf h.hi hf.next,h.fr.trans hf (fun x hx=>.inr (h.wf x hx).1),hown,h.wf,Own.fr h.bo hf fun x hx q=>(h.bf x hx).2.2 q,h.bf,h.r8,h.b8⟩,hf⟩
 obtain ⟨bl,bb,be,hr⟩:=h.row
 exact ⟨bl,bb,be,by rw [hf.keep _ h.hi fun q=>(h.wf _ q).2 rfl];exact hr⟩
end
end Go.Am
namespace Go.Am
open Lang Go.Proofs
variable {M:Mac} [MK M]
theorem yq (f:Eff):AV.cells (.agg (effC f))=effC f:=jg _
structure EfM (f:Eff) (b:Nat) (H:AHeap):Prop where
 get:H.get b=some (OR (effC f) qn)
 lt:b<H.next
theorem EfM.em {f:Eff} {b:Nat} {H H':AHeap} (h:EfM f b H) (q:Fr Em H H'):EfM f b H':=⟨by rw [q.keep _ h.lt id];exact h.get,qf h.lt q.next⟩
theorem EfM.off {f:Eff} {b:Nat} {H H':AHeap} {W:Nat->Prop} (h:EfM f b H) (q:Fr W H H') (hw:¬ W b):EfM f b H':=⟨by rw [q.keep _ h.lt hw];exact h.get,qf h.lt q.next⟩
theorem EfM.ld {f:Eff} {b:Nat} {H:AHeap} (h:EfM f b H):Op.load1 [.ptr b 0] H=some (.int .i64 f.kind)/\Op.load1 [.ptr b 1] H=some (.int .i64 f.next)/\Op.load1 [.ptr b 2] H=some (.int .i64 f.reg)/\Op.load1 [.ptr b 3] H=some (.int .u64 f.value)/\Op.load1 [.ptr b 4] H=some (.int .u64 f.addr)/\Op.loadN 5 [.ptr b 0] H=some (.agg (effC f)):=by
 have l:=fun o=>ye (xm h.get) o
 exact ⟨l 0,l 1,l 2,l 3,l 4,ldE h.get⟩
theorem EfM.new (f:Eff) (H:AHeap):EfM f H.next (H.alloc (OR (effC f) qn)):=⟨xa ..,by rw [x4];omega⟩
section
variable {c:SoK} {H:AHeap} {wv bv:AV} {m:SM} {f:Eff}
def EfR (c:SoK) (H:AHeap) (wv bv:AV) (m:SM) (W:Nat->Prop) (p:Prop) (m':SM) (v:AV) (H':AHeap):Prop:=Fr W H H'/\(p/\v=.bool true/\SoR c H' wv bv m' \/ ¬ p/\v=.bool false/\SoR c H' wv bv m)
theorem qdy (h:SoR c H wv bv m):vg M xo [.ptr c.r 0,.agg (effC f)] H fun v H'=>v=.bool true/\SoR c H' wv bv { m with pc:=f.next }/\Fr (On c.r) H H':=by
 refine qgf ?_
 obtain ⟨H1,e1⟩:∃ X,X=H.alloc (OR (effC f) qn):=⟨_,rfl⟩
 have f1:Fr Em H H1:=by rw [e1];exact (Fr.refl H).alloc _
 have g1:EfM f H.next H1:=by rw [e1];exact EfM.new f H
 obtain ⟨l0,l1,l2,l3,l4,l5⟩:=g1.ld
 obtain ⟨H2,st,h2,f2⟩:=(h.em f1).pc f.next
 simp only [↓qq,ze,reduceIte,Nat.reduceEqDiff,qgg,yq,<-e1,l1,xr,st]
 exact ⟨h2,(f1.mono fun _ _ q=>q.elim).trans f2 fun x q=>.inl q⟩
theorem solo_set (h:SoR c H wv bv m) {k:Nat} (hk:k<8) (hr:f.reg=(k:Int)):vg M zq [.ptr c.r 0,.agg (effC f)] H fun v H'=>v=.bool true/\SoR c H' wv bv { m with rs:=m.rs.set k f.value,pc:=f.next }/\Fr (On c.r) H H':=by
 refine qha ?_
 obtain ⟨H1,e1⟩:∃ X,X=H.alloc (OR (effC f) qn):=⟨_,rfl⟩
 have f1:Fr Em H H1:=by rw [e1];exact (Fr.refl H).alloc _
 have g1:EfM f H.next H1:=by rw [e1];exact EfM.new f H
 obtain ⟨l0,l1,l2,l3,l4,l5⟩:=g1.ld
 obtain ⟨H2,st,h2,f2⟩:=(h.em f1).setReg hk f.value
 have hi:=h.hi
 have g2:=(g1.off f2 (fun (q:H.next=c.r)=>by omega)).ld
 have ix:Op.indexArr 8 1 [.ptr c.r 2,.int .i64 f.reg]=some (.ptr c.r (2+k)):=by
  simp only [Op.indexArr]
  rw [qc1 (i:=k) hr hk]
  simp
 simp only [↓qq,ze,reduceIte,Nat.reduceEqDiff,qhb,yq,<-e1,l2,l3,xr,ix,st,g2.2.2.2.2.2]
 refine C3.q (qdy (M:=M) (f:=f) h2) fun v H3 ⟨hv,h3,f3⟩=>?_
 subst hv
 simp only [↓qq,ze,reduceIte,Nat.reduceEqDiff]
 exact ⟨h3,((f1.mono fun _ _ q=>q.elim).trans f2 fun x q=>.inl q).trans f3 fun x q=>.inl q⟩
theorem quf (h:SoR c H wv bv m) (hl:m.w.length<=4096) (ha:U64 f.addr) {k:Nat} (hk:k<8) (hr:f.reg=(k:Int)):vg M zk [.ptr c.r 0,.agg (effC f)] H (EfR c H wv bv m (On c.r) (f.addr<m.w.length) { m with rs:=m.rs.set k (m.w.getD f.addr.toNat 0),pc:=f.next }):=by
 refine qgc ?_
 obtain ⟨w0,w2,w10⟩:=qgd M ⟨none,zk⟩
 obtain ⟨H1,e1⟩:∃ X,X=H.alloc (OR (effC f) qn):=⟨_,rfl⟩
 have f1:Fr Em H H1:=by rw [e1];exact (Fr.refl H).alloc _
 have g1:EfM f H.next H1:=by rw [e1];exact EfM.new f H
 obtain ⟨l0,l1,l2,l3,l4,l5⟩:=g1.ld
 have h1:=h.em f1
 have r1:Op.load1 [.ptr c.r 1] H1=some wv:=h1.ld.2.1
 have ln:=(OwnT.sl h1.wo).len
 have wl:wrapI .u64 ((m.w.length:Nat):Int)=(m.w.length:Nat):=qm7 (by omega) (by omega)
 by_cases hq:f.addr<m.w.length
 ·have q1:¬ ((m.w.length:Nat):Int)<=f.addr:=by omega
  have ha0:=ha.1
  obtain ⟨x,hx⟩:∃ x,m.w[f.addr.toNat]? = some x:=⟨m.w[f.addr.toNat]'(by omega),by simp [show f.addr.toNat<m.w.length by omega]⟩
  have gd:m.w.getD f.addr.toNat 0=x:=by rw [ym,hx];rfl
  have idx:=(OwnT.sl h1.wo).idx hx (by omega) .u64 (z:=f.addr)
  have lx:Op.load1 [.ptr (slB wv) (slO 1 wv f.addr.toNat)] H1=some (.int .u64 x):=(OwnT.sl h1.wo).load0 qio hx (by decide)
  obtain ⟨H2,st,h2,f2⟩:=h1.setReg hk x
  have hi:=h.hi
  have g2:=(g1.off f2 (fun (q:H.next=c.r)=>by omega)).ld
  have ix:Op.indexArr 8 1 [.ptr c.r 2,.int .i64 f.reg]=some (.ptr c.r (2+k)):=by
   simp only [Op.indexArr]
   rw [qc1 (i:=k) hr hk]
   simp
  simp only [↓qq,ze,reduceIte,Nat.reduceEqDiff,w0,yq,<-e1,w2,l4,xr,r1,ln,wl,q1,w10,l2,idx,lx,ix,st,g2.2.2.2.2.2]
  refine C3.q (qdy (M:=M) (f:=f) h2) fun v H3 ⟨hv,h3,f3⟩=>?_
  subst hv
  simp only [↓qq,ze,reduceIte,Nat.reduceEqDiff]
  exact ⟨((f1.mono fun _ _ q=>q.elim).trans f2 fun x q=>.inl q).trans f3 fun x q=>.inl q,.inl ⟨hq,rfl,by rw [gd];exact h3⟩⟩
 ·have q1:((m.w.length:Nat):Int)<=f.addr:=by omega
  simp only [↓qq,ze,reduceIte,Nat.reduceEqDiff,w0,yq,<-e1,w2,l4,xr,r1,ln,wl,q1]
  exact ⟨f1.mono fun _ _ q=>q.elim,.inr ⟨hq,rfl,h1⟩⟩
theorem qst (h:SoR c H wv bv m) (hl:m.w.length<=4096) (ha:U64 f.addr):vg M zd [.ptr c.r 0,.agg (effC f)] H (EfR c H wv bv m (SoW c wv) (f.addr<m.w.length) { m with w:=m.w.set f.addr.toNat f.value,pc:=f.next }):=by
 refine qfo ?_
 obtain ⟨w0,w2,w10⟩:=qfp M ⟨none,zd⟩
 obtain ⟨H1,e1⟩:∃ X,X=H.alloc (OR (effC f) qn):=⟨_,rfl⟩
 have f1:Fr Em H H1:=by rw [e1];exact (Fr.refl H).alloc _
 have g1:EfM f H.next H1:=by rw [e1];exact EfM.new f H
 obtain ⟨l0,l1,l2,l3,l4,l5⟩:=g1.ld
 have h1:=h.em f1
 have r1:Op.load1 [.ptr c.r 1] H1=some wv:=h1.ld.2.1
 have ln:=(OwnT.sl h1.wo).len
 have wl:wrapI .u64 ((m.w.length:Nat):Int)=(m.w.length:Nat):=qm7 (by omega) (by omega)
 by_cases hq:f.addr<m.w.length
 ·have q1:¬ ((m.w.length:Nat):Int)<=f.addr:=by omega
  have ha0:=ha.1
  obtain ⟨x,hx⟩:∃ x,m.w[f.addr.toNat]? = some x:=⟨m.w[f.addr.toNat]'(by omega),by simp [show f.addr.toNat<m.w.length by omega]⟩
  have idx:=(OwnT.sl h1.wo).idx hx (by omega) .u64 (z:=f.addr)
  obtain ⟨H2,st,h2,f2⟩:=h1.setW (i:=f.addr.toNat) (by omega) f.value
  have hlt:=Own.lt h.wo
  have g2:=(g1.off f2 (fun (q:OnS wv H.next)=>by have:=hlt _ q;omega)).ld
  simp only [↓qq,ze,reduceIte,Nat.reduceEqDiff,w0,yq,<-e1,w2,l4,xr,r1,ln,wl,q1,w10,l3,idx,st,g2.2.2.2.2.2]
  refine C3.q (qdy (M:=M) (f:=f) h2) fun v H3 ⟨hv,h3,f3⟩=>?_
  subst hv
  simp only [↓qq,ze,reduceIte,Nat.reduceEqDiff]
  exact ⟨((f1.mono fun _ _ q=>q.elim).trans f2 fun x q=>.inl (.inr q)).trans f3 fun x q=>.inl (.inl q),.inl ⟨hq,rfl,h3⟩⟩
 ·have q1:((m.w.length:Nat):Int)<=f.addr:=by omega
  simp only [↓qq,ze,reduceIte,Nat.reduceEqDiff,w0,yq,<-e1,w2,l4,xr,r1,ln,wl,q1]
  exact ⟨f1.mono fun _ _ q=>q.elim,.inr ⟨hq,rfl,h1⟩⟩
theorem qqa (h:SoR c H wv bv m) (hb:m.blk<=10000000):vg M x7 [.ptr c.r 0,.agg (effC f)] H (EfR c H wv bv m (On c.r) (m.inb=true) { m with inb:=false,blk:=m.blk+1,pc:=f.next }):=by
 refine qez ?_
 obtain ⟨w0,w2,w10⟩:=qe0 M ⟨none,x7⟩
 obtain ⟨H1,e1⟩:∃ X,X=H.alloc (OR (effC f) qn):=⟨_,rfl⟩
 have f1:Fr Em H H1:=by rw [e1];exact (Fr.refl H).alloc _
 have g1:EfM f H.next H1:=by rw [e1];exact EfM.new f H
 have h1:=h.em f1
 have r27:Op.load1 [.ptr c.r 27] H1=some (.bool m.inb):=h1.ld.2.2.2.2.2.2.2.1
 cases hin:m.inb with
 | true =>
  rw [hin] at r27
  obtain ⟨H2,st,h2,f2⟩:=h1.setIn false
  have r12:Op.load1 [.ptr c.r 12] H2=some (.int .i64 (m.blk:Nat)):=h2.ld.2.2.2.2.1
  have wb:wrapI .i64 ((m.blk:Int)+1)=((m.blk+1:Nat):Int):=by rw [vy (by omega) (by omega)];omega
  obtain ⟨H3,st3,h3,f3⟩:=h2.setBlk (m.blk+1)
  have hi:=h.hi
  have g3:=((g1.off f2 (fun (q:H.next=c.r)=>by omega)).off f3 (fun (q:H.next=c.r)=>by omega)).ld
  simp only [↓qq,ze,reduceIte,Nat.reduceEqDiff,w0,yq,<-e1,w2,xr,r27,w10,st,r12,wb,st3,g3.2.2.2.2.2]
  refine C3.q (qdy (M:=M) (f:=f) h3) fun v H4 ⟨hv,h4,f4⟩=>?_
  subst hv
  simp only [↓qq,ze,reduceIte,Nat.reduceEqDiff]
  exact ⟨(((f1.mono fun _ _ q=>q.elim).trans f2 fun x q=>.inl q).trans f3 fun x q=>.inl q).trans f4 fun x q=>.inl q,.inl ⟨by first|exact hin|trivial,rfl,h4⟩⟩
 | false =>
  rw [hin] at r27
  simp only [↓qq,ze,reduceIte,Nat.reduceEqDiff,w0,yq,<-e1,w2,xr,r27]
  exact ⟨f1.mono fun _ _ q=>q.elim,.inr ⟨by first|decide|(rw [hin];decide),rfl,h1⟩⟩
def SoF (c:SoK) (V:Nat->Prop) (H:AHeap) (m:SM):Prop:=∃ wv bv bl bb be,V c.r/\(∀ b,OnS wv b->V b/\b ≠ c.r)/\H.get c.r=some (OR (soC c.cv wv bv m bl bb be) xf)/\OwnT encW qbl 1 H wv m.w/\m.rs.length=8/\m.brs.length=8
theorem qfu {H:AHeap} {b e:Nat} {row:List AV} (h:H.get b=some (OR row e)) {o:Nat} (ho:o<row.length) {v:AV} (hv:oneCell v=true):Op.store 1 [.ptr b o,v] H=some (.undef,H.set b (OR (row.set o v) e)):=by
 have oc:v.cells=[v]:=by cases v<;>first|rfl|cases hv
 have st:=qcg h (o:=o) (n:=1) (v:=v) (by rw [oc];rfl) (by omega) (by rw [oc,qaz,qbk,hv];rfl)
 rw [st,oc,List.set_eq_take_append_cons_drop,qh ho,xj];rfl
theorem row_st8 {H:AHeap} {b e:Nat} {row:List AV} (h:H.get b=some (OR row e)) {o:Nat} {l:List Int} (hl:l.length=8) (ho:o+8<=row.length):Op.store 8 [.ptr b o,.agg (l.map uC)] H=some (.undef,H.set b (OR (row.take o++l.map uC++row.drop (o+8)) e)):=by
 have st:=qcg h (o:=o) (n:=8) (v:=.agg (l.map uC)) (by rw [jg];simpa using hl) (by omega) (by rw [jg,qaz,List.all_map];simp [uC,oneCell])
 rw [st,jg]
theorem qli {H:AHeap} {b e:Nat} {row:List AV}:(H.set b (OR row e)).get b=some (OR row e):=xc ..
theorem qg5 (h:SoR c H wv bv m) (e:Nat):vg M x8 [.ptr c.r 0,.int .i64 (e:Nat)] H fun v H'=>SoF c (fun b=>b=c.r\/OnS wv b\/OnS bv b) H' (m.fin e)/\Fr (On c.r) H H':=by
 refine qg7 ?_
 obtain ⟨w0,w6,w4⟩:=qg8 M ⟨none,x8⟩
 obtain ⟨bl,bb,be,hr⟩:=h.row
 obtain ⟨r0,r1,r10,r11,r12,r14,r23,r27,r28,rr,rb⟩:=h.ld
 have len:=(qh7 (cv:=c.cv) (wv:=wv) (bv:=bv) (bl:=bl) (bb:=bb) (be:=be) h.r8 h.b8).2.2.2.2.2.2.2.2.2.2.2
 obtain ⟨a0,a1,a2,a3,a4,a5,a6,a7,e1⟩:=list8 h.r8
 obtain ⟨b0,b1,b2,b3,b4,b5,b6,b7,e2⟩:=list8 h.b8
 have ob:oneCell bv=true:=(OwnT.sl h.bo).one
 obtain ⟨row,hrow⟩:∃ x,x=soC c.cv wv bv m bl bb be:=⟨_,rfl⟩
 rw [<-hrow] at hr len
 by_cases hq:m.inb=true/\e ≠ 0
 ·obtain ⟨hin,he⟩:=hq
  rw [hin] at r27
  have q1:¬ ((e:Nat):Int)=0:=by omega
  have s1:=qfu hr (o:=1) (by omega) ob
  have s2:=row_st8 (qli (H:=H) (b:=c.r) (e:=xf) (row:=row.set 1 bv)) (o:=2) h.b8 (by simp;omega)
  obtain ⟨H1,d1⟩:∃ X,X=H.set c.r (OR (row.set 1 bv) xf):=⟨_,rfl⟩
  rw [<-d1] at s1 s2
  obtain ⟨H2,d2⟩:∃ X,X=H1.set c.r (OR ((row.set 1 bv).take 2++m.brs.map uC++(row.set 1 bv).drop (2+8)) xf):=⟨_,rfl⟩
  rw [<-d2] at s2
  have g2:H2.get c.r=some (OR ((row.set 1 bv).take 2++m.brs.map uC++(row.set 1 bv).drop (2+8)) xf):=by rw [d2];exact qli
  obtain ⟨row2,hrow2⟩:∃ x,x=(row.set 1 bv).take 2++m.brs.map uC++(row.set 1 bv).drop (2+8):=⟨_,rfl⟩
  have b8:=h.b8
  have len2:row2.length=29:=by rw [hrow2];simp;omega
  rw [<-hrow2] at g2
  have s3:=qfu g2 (o:=10) (by omega) (v:=.int .i64 m.bpc) rfl
  have s4:=qfu (qli (H:=H2) (b:=c.r) (e:=xf) (row:=row2.set 10 (.int .i64 m.bpc))) (o:=13) (by simp;omega) (v:=.int .i64 (e:Nat)) rfl
  obtain ⟨H3,d3⟩:∃ X,X=H2.set c.r (OR (row2.set 10 (.int .i64 m.bpc)) xf):=⟨_,rfl⟩
  rw [<-d3] at s3 s4
  have s5:=qfu (qli (H:=H3) (b:=c.r) (e:=xf) (row:=(row2.set 10 (.int .i64 m.bpc)).set 13 (.int .i64 (e:Nat)))) (o:=28) (by simp;omega) (v:=.bool true) rfl
  obtain ⟨H4,d4⟩:∃ X,X=H3.set c.r (OR ((row2.set 10 (.int .i64 m.bpc)).set 13 (.int .i64 (e:Nat))) xf):=⟨_,rfl⟩
  rw [<-d4] at s4 s5
  simp only [↓qq,ze,reduceIte,Nat.reduceEqDiff,w0,xr,r27,q1,w4,r14,rb,r23,s1,s2,s3,w6,s4,s5]
  have f1:Fr (On c.r) H H1:=by rw [d1];exact (Fr.refl H).set (W:=On c.r) (.inl rfl) _
  have f2:Fr (On c.r) H H2:=by rw [d2];exact f1.set (W:=On c.r) (.inl rfl) _
  have f3:Fr (On c.r) H H3:=by rw [d3];exact f2.set (W:=On c.r) (.inl rfl) _
  have f4:Fr (On c.r) H H4:=by rw [d4];exact f3.set (W:=On c.r) (.inl rfl) _
  have f5:Fr (On c.r) H (H4.set c.r (OR (((row2.set 10 (.int .i64 m.bpc)).set 13 (.int .i64 (e:Nat))).set 28 (.bool true)) xf)):=f4.set (W:=On c.r) (.inl rfl) _
  refine ⟨⟨bv,bv,bl,bb,be,.inl rfl,fun b q=>⟨.inr (.inr q),(h.bf b q).2.1⟩,?_,?_,?_,?_⟩,f5⟩
  ·rw [xc,hrow2,hrow]
   unfold SM.fin
   rw [qh ⟨hin,he⟩]
   unfold soC
   simp only [e1,e2];rfl
  ·unfold SM.fin
   rw [qh ⟨hin,he⟩]
   exact Own.fr h.bo f5 fun x hx (q:x=c.r)=>(h.bf x hx).2.1 q
  ·unfold SM.fin;rw [qh ⟨hin,he⟩];exact h.b8
  ·unfold SM.fin;rw [qh ⟨hin,he⟩];exact h.b8
 ·have s4:=qfu hr (o:=13) (by omega) (v:=.int .i64 (e:Nat)) rfl
  have s5:=qfu (qli (H:=H) (b:=c.r) (e:=xf) (row:=row.set 13 (.int .i64 (e:Nat)))) (o:=28) (by simp;omega) (v:=.bool true) rfl
  obtain ⟨H4,d4⟩:∃ X,X=H.set c.r (OR (row.set 13 (.int .i64 (e:Nat))) xf):=⟨_,rfl⟩
  rw [<-d4] at s4 s5
  have f4:Fr (On c.r) H H4:=by rw [d4];exact (Fr.refl H).set (W:=On c.r) (.inl rfl) _
  have f5:Fr (On c.r) H (H4.set c.r (OR ((row.set 13 (.int .i64 (e:Nat))).set 28 (.bool true)) xf)):=f4.set (W:=On c.r) (.inl rfl) _
  have fin:SoF c (fun b=>b=c.r\/OnS wv b\/OnS bv b) (H4.set c.r (OR ((row.set 13 (.int .i64 (e:Nat))).set 28 (.bool true)) xf)) (m.fin e)/\Fr (On c.r) H (H4.set c.r (OR ((row.set 13 (.int .i64 (e:Nat))).set 28 (.bool true)) xf)):=by
   refine ⟨⟨wv,bv,bl,bb,be,.inl rfl,fun b q=>⟨.inr (.inl q),(h.wf b q).2⟩,?_,?_,?_,?_⟩,f5⟩
   ·rw [xc,hrow]
    unfold SM.fin
    rw [qe hq]
    unfold soC
    simp only [e1,e2];rfl
   ·unfold SM.fin
    rw [qe hq]
    exact Own.fr h.wo f5 fun x hx (q:x=c.r)=>(h.wf x hx).2 q
   ·unfold SM.fin;rw [qe hq];exact h.r8
   ·unfold SM.fin;rw [qe hq];exact h.b8
  cases hin:m.inb with
  | false =>
   rw [hin] at r27
   simp only [↓qq,ze,reduceIte,Nat.reduceEqDiff,w0,xr,r27,w6,s4,s5]
   exact fin
  | true =>
   rw [hin] at r27
   have he:e=0:=kp.1 fun q=>hq ⟨hin,q⟩
   have q1:((e:Nat):Int)=0:=by omega
   simp only [↓qq,ze,reduceIte,Nat.reduceEqDiff,w0,xr,r27,eq_true q1,w6,s4,s5]
   exact fin
theorem que (h:SoR c H wv bv m):vg M zj [.ptr c.r 0,.agg (effC f)] H fun v H'=>Fr (On c.r) H H'/\v=.bool (!m.inb)/\(m.inb=true->SoR c H' wv bv m)/\(m.inb=false->SoF c (fun b=>b=c.r\/OnS wv b\/OnS bv b) H' (m.fin 0)):=by
 refine qf9 ?_
 obtain ⟨w0,w2,w8⟩:=qga M ⟨none,zj⟩
 obtain ⟨H1,e1⟩:∃ X,X=H.alloc (OR (effC f) qn):=⟨_,rfl⟩
 have f1:Fr Em H H1:=by rw [e1];exact (Fr.refl H).alloc _
 have h1:=h.em f1
 have r27:Op.load1 [.ptr c.r 27] H1=some (.bool m.inb):=h1.ld.2.2.2.2.2.2.2.1
 cases hin:m.inb with
 | true =>
  rw [hin] at r27
  simp only [↓qq,ze,reduceIte,Nat.reduceEqDiff,w0,yq,<-e1,w2,xr,r27,w8]
  exact ⟨f1.mono fun _ _ q=>q.elim,fun _=>h1,fun q=>by cases q⟩
 | false =>
  rw [hin] at r27
  simp only [↓qq,ze,reduceIte,Nat.reduceEqDiff,w0,yq,<-e1,w2,xr,r27]
  refine C3.q (qg5 (M:=M) h1 0) fun v H2 ⟨h2,f2⟩=>?_
  have hf:(m.fin 0).inb=false:=by unfold SM.fin;rw [qe (fun q=>q.2 rfl)];exact hin
  have r27':Op.load1 [.ptr c.r 27] H2=some (.bool false):=by
   obtain ⟨wv',bv',bl,bb,be,-,-,hr,-,q8,q9⟩:=h2
   rw [ye (xm hr),(qh7 q8 q9).2.2.2.2.2.2.2.1,hf]
  simp only [↓qq,ze,reduceIte,Nat.reduceEqDiff,w8,xr,r27']
  exact ⟨(f1.mono fun _ _ q=>q.elim).trans f2 fun x q=>.inl q,fun q=>(by cases q),fun _=>h2⟩
theorem bsU (e:Nat) (zero:List AV):Op.buildSlice e 0 zero [] []=some (.row [] e (0,0) true,Op.sliceTo 0 0):=rfl
theorem nilsU (H:AHeap):Op.eq .slice false [.nils,.nils] H=some (.bool true):=rfl
theorem nilsU' {H:AHeap} {size:Nat} {v:AV} {n:Nat} {cells:List AV} (h:Sl H size v n cells) (hv:v ≠ .nils) (H':AHeap):Op.eq .slice false [v,.nils] H'=some (.bool false):=by
 obtain ⟨_,h⟩:=h
 cases v<;>first|exact (hv rfl).elim|rfl|exact h.elim
theorem flatW (l:List Int):allOne (l.flatMap encW)=true:=by rw [qaz,List.all_flatMap];simp [encW,oneCell]
theorem qi8 {H:AHeap} {a:AV} {ws:List Int} (ha:SlT encW 1 H a ws) (hl:ws.length<=200000000):vg M jf [a] H fun v H'=>New encW qbl 1 H H' v ws:=by
 refine qew ?_
 by_cases hn:a=.nils
 ·subst hn
  have:ws=[]:=by obtain ⟨_,h⟩:=ha;exact vt.1 h
  subst this
  simp only [↓qq,ze,reduceIte,Nat.reduceEqDiff,qae,nilsU]
  exact New.nil H
 ·simp only [↓qq,ze,reduceIte,Nat.reduceEqDiff,qae,nilsU' ha hn,bsU]
  have hf1:Fr Em H (H.alloc (.row [] qbl (0,0) true)):=(Fr.refl H).alloc _
  refine append3s (e:=qbl) (n:=0) (cells:=[]) ⟨rfl,.inl ⟨rfl,.inr ⟨H.next,rfl,by rw [x4];omega⟩⟩⟩ (ha.em hf1) (flatW ws) (by omega) (by omega) (by omega) fun v' H2 hv' hf hfr=>?_
  simp only [↓qq,ze,reduceIte,Nat.reduceEqDiff,qae]
  rw [x9,za] at hv'
  exact ⟨hv',hf1.trans hf fun x hx=>.inr (by rw [hx.2];exact qc _),fun b hb=>(hfr b hb).elim (fun q=>by rw [q.2];exact qc _) fun q=>qx hf1.next q⟩
theorem qss (h:SoR c H wv bv m) (hl:m.w.length<=4096):vg M zb [.ptr c.r 0,.agg (effC f)] H fun v H'=>∃ bv',Fr (On c.r) H H'/\(∀ b,OnS bv' b->OnS bv b\/H.next<=b) /\
 (v=.bool (!m.inb)/\(m.inb=true->SoR c H' wv bv' m)/\(m.inb=false->SoR c H' wv bv' { m with inb:=true,pc:=f.next,bw:=m.w,brs:=m.rs,bpc:=f.next })):=by
 refine qfk ?_
 obtain ⟨w0,w2,w10⟩:=qfl M ⟨none,zb⟩
 obtain ⟨H1,e1⟩:∃ X,X=H.alloc (OR (effC f) qn):=⟨_,rfl⟩
 have f1:Fr Em H H1:=by rw [e1];exact (Fr.refl H).alloc _
 have g1:EfM f H.next H1:=by rw [e1];exact EfM.new f H
 have h1:=h.em f1
 have r27:Op.load1 [.ptr c.r 27] H1=some (.bool m.inb):=h1.ld.2.2.2.2.2.2.2.1
 cases hin:m.inb with
 | true =>
  rw [hin] at r27
  simp only [↓qq,ze,reduceIte,Nat.reduceEqDiff,w0,yq,<-e1,w2,xr,r27]
  exact ⟨bv,f1.mono fun _ _ q=>q.elim,fun b q=>.inl q,fun _=>h1,fun q=>by cases q⟩
 | false =>
  rw [hin] at r27
  obtain ⟨H2,st,h2,f2⟩:=h1.setIn true
  have hi:=h.hi
  have g2:=(g1.off f2 (fun (q:H.next=c.r)=>by omega)).ld
  simp only [↓qq,ze,reduceIte,Nat.reduceEqDiff,w0,yq,<-e1,w2,xr,r27,w10,st,g2.2.2.2.2.2]
  refine C3.q (qdy (M:=M) (f:=f) h2) fun v H3 ⟨hv,h3,f3⟩=>?_
  obtain ⟨bl,bb,be,hr⟩:=h3.row
  obtain ⟨a0,a1,a2,a3,a4,a5,a6,a7,ea⟩:=list8 h.r8
  obtain ⟨b0,b1,b2,b3,b4,b5,b6,b7,eb⟩:=list8 h.b8
  have ow:oneCell wv=true:=(OwnT.sl h.wo).one
  obtain ⟨row,hrow⟩:∃ x,x=soC c.cv wv bv { m with inb:=true,pc:=f.next } bl bb be:=⟨_,rfl⟩
  have hr:H3.get c.r=some (OR row xf):=by rw [hrow];exact hr
  have len:row.length=29:=by rw [hrow];exact (qh7 (m:={ m with inb:=true,pc:=f.next }) h.r8 h.b8).2.2.2.2.2.2.2.2.2.2.2
  have l13:Op.loadN 13 [.ptr c.r 1] H3=some (.agg ((row.drop 1).take 13)):=by rw [wx (xm hr) (by rw [len];decide)]
  have all13:allOne ((row.drop 1).take 13)=true:=by
   rw [hrow];unfold soC;simp only [ea,eb]
   show allOne [wv,uC a0,uC a1,uC a2,uC a3,uC a4,uC a5,uC a6,uC a7,.int .i64 f.next,.int .i64 (m.left:Nat),.int .i64 (m.blk:Nat),.int .i64 (m.err:Nat)]=true
   rw [qaz,qbk,ow];rfl
  have st13:=qcg hr (o:=14) (n:=13) (v:=.agg ((row.drop 1).take 13)) (by rw [jg,km,yb,len];decide) (by rw [len];decide) (by rw [jg];exact all13)
  rw [jg] at st13
  obtain ⟨row4,hrow4⟩:∃ x,x=row.take 14++(row.drop 1).take 13++row.drop (14+13):=⟨_,rfl⟩
  rw [<-hrow4] at st13
  obtain ⟨H4,d4⟩:∃ X,X=H3.set c.r (OR row4 xf):=⟨_,rfl⟩
  have g4:H4.get c.r=some (OR row4 xf):=by rw [d4];exact qli
  have len4:row4.length=29:=by rw [hrow4];simp [len]
  have w4':row4[1]? = some wv:=by rw [hrow4,hrow];unfold soC;simp only [ea,eb];rfl
  have l1:Op.load1 [.ptr c.r 1] H4=some wv:=by rw [ye (xm g4),w4']
  have st13:Op.store 13 [.ptr c.r 14,.agg ((row.drop 1).take 13)] H3=some (.undef,H4):=by rw [d4];exact st13
  have f4:Fr (On c.r) H3 H4:=by rw [d4];exact (Fr.refl H3).set (W:=On c.r) (.inl rfl) _
  have wo4:OwnT encW qbl 1 H4 wv m.w:=Own.fr h3.wo f4 fun x hx (q:x=c.r)=>(h.wf x hx).2 q
  simp only [↓qq,ze,reduceIte,Nat.reduceEqDiff,xr,l13,st13,l1]
  refine C3.q (qi8 (M:=M) (OwnT.sl wo4) (by omega)) fun bv' H5 hn=>?_
  have n4:H.next<=H4.next:=qx f1.next (qx f2.next (qx f3.next f4.next))
  have hi4:c.r<H4.next:=qf hi n4
  have ob:oneCell bv'=true:=hn.sl.one
  have g5:H5.get c.r=some (OR row4 xf):=by rw [hn.fr.keep _ hi4 id];exact g4
  have st5:=qfu g5 (o:=14) (by omega) ob
  simp only [↓qq,ze,reduceIte,Nat.reduceEqDiff,xr,st5]
  obtain ⟨H6,d6⟩:∃ X,X=H5.set c.r (OR (row4.set 14 bv') xf):=⟨_,rfl⟩
  rw [<-d6]
  have f6:Fr (On c.r) H5 H6:=by rw [d6];exact (Fr.refl H5).set (W:=On c.r) (.inl rfl) _
  have f16:Fr (On c.r) H H6:=(((((f1.mono fun _ _ q=>q.elim).trans f2 fun x q=>.inl q).trans f3 fun x q=>.inl q).trans f4 fun x q=>.inl q).trans hn.fr fun x q=>q.elim).trans f6 fun x q=>.inl q
  have hfresh:∀ b,OnS bv' b->H4.next<=b:=hn.fresh
  have h0:=h.fr.next
  refine ⟨bv',f16,fun b q=>.inr (qx n4 (hfresh b q)),fun q=>(by cases q),fun _=>⟨?_,h.lo,qf hi f16.next,h.fr.trans f16 fun x (q:x=c.r)=>.inr (by rw [q];exact h.lo),?_,h.wf,?_,?_,h.r8,h.r8⟩⟩
  ·refine ⟨(m.left:Nat),(m.blk:Nat),(m.err:Nat),?_⟩
   rw [d6,xc,hrow4,hrow]
   unfold soC
   simp only [ea,eb];rfl
  ·exact Own.fr (Own.em wo4 hn.fr) f6 fun x hx (q:x=c.r)=>(h.wf x hx).2 q
  ·exact Own.fr hn.own f6 fun x hx (q:x=c.r)=>by have:=hfresh x hx;omega
  ·intro b q
   have:=hfresh b q
   refine ⟨by omega,by omega,fun w=>?_⟩
   have:=Own.lt h.wo b w
   omega
end
end Go.Am
namespace Go.Am
open Lang Go.Proofs
variable {M:Mac} [MK M]
structure EffOk (f:Eff):Prop where
 kind:f.kind=0\/f.kind=1\/f.kind=2\/f.kind=3\/f.kind=4\/f.kind=5\/f.kind=6\/f.kind=7
 reg:f.kind=1\/f.kind=3->0<=f.reg/\f.reg<8
 val:U64 f.value
 addr:U64 f.addr
theorem u64_0:U64 0:=⟨Int.le_refl _,by decide⟩
theorem qiz (n:Int):U64 (wrapI .u64 n):=by rw [qo4];constructor<;>omega
theorem u64_opI (o:Nat) (x y:Int):U64 (opI o x y):=by unfold opI;(repeat' split)<;>exact qiz _
theorem qtg (i:Ins) {rs:List Int} {pc:Int} (h8:rs.length=8) (hr:∀ x ∈ rs,U64 x):EffOk (i.does rs pc):=by
 have e0:EffOk eff0:=⟨.inl rfl,fun q=>q.elim (fun q=>by cases q) fun q=>(by cases q),u64_0,u64_0⟩
 have eg:∀ q,EffOk (effGo i pc q):=fun q=>by
  unfold effGo
  split
  ·split
   ·exact e0
   ·exact ⟨.inr (.inr (.inl rfl)),fun q=>q.elim (fun q=>by cases q) fun q=>(by cases q),u64_0,u64_0⟩
  ·exact ⟨.inr (.inr (.inl rfl)),fun q=>q.elim (fun q=>by cases q) fun q=>(by cases q),u64_0,u64_0⟩
 unfold Ins.does
 by_cases hb:¬ i.legal\/pc<0\/1024<=pc
 ·rw [qh hb];exact e0
 rw [qe hb]
 have hl:i.legal:=kp.1 fun q=>hb (.inl q)
 have hop:1<=i.op/\i.op<=18:=⟨hl.1,hl.2.1⟩
 have ha:(2<=i.op/\i.op<=11)->0<=i.a/\i.a<8:=fun q=>by
  refine hl.2.2.1 ?_
  have:i.op.toNat=2\/i.op.toNat=3\/(4<=i.op.toNat/\i.op.toNat<=10)\/i.op.toNat=11:=by omega
  unfold insNm
  rcases this with h|h|h|h
  ·rw [h];decide
  ·rw [h];decide
  ·rw [qe (by omega),qe (by omega),qh h];decide
  ·rw [h];decide
 have st:∀ v,(2<=i.op/\i.op<=11)->U64 v->EffOk ⟨1,pc+1,i.a,v,0⟩:=fun v q hv=>⟨.inr (.inl rfl),fun _=>ha q,hv,u64_0⟩
 refine qch (fun h=>⟨.inr (.inr (.inr (.inr (.inr (.inr (.inr rfl)))))),fun q=>q.elim (fun q=>by cases q) fun q=>(by cases q),u64_0,u64_0⟩) fun h1=>?_
 refine qch (fun h=>st _ (by omega) (qiz _)) fun h2=>?_
 refine qch (fun h=>st _ (by omega) (qoo h8 hr _)) fun h3=>?_
 refine qch (fun h=>st _ (by omega) (u64_opI _ _ _)) fun h4=>?_
 refine qch (fun h=>⟨.inr (.inr (.inr (.inl rfl))),fun _=>ha (by omega),u64_0,qiz _⟩) fun h5=>?_
 refine qch (fun h=>⟨.inr (.inr (.inr (.inr (.inl rfl)))),fun q=>q.elim (fun q=>by cases q) fun q=>(by cases q),qoo h8 hr _,qiz _⟩) fun h6=>?_
 refine qch (fun h=>eg _) fun h7=>?_
 refine qch (fun h=>eg _) fun h7=>?_
 refine qch (fun h=>eg _) fun h7=>?_
 refine qch (fun h=>eg _) fun h7=>?_
 refine qch (fun h=>⟨.inr (.inr (.inr (.inr (.inr (.inl rfl))))),fun q=>q.elim (fun q=>by cases q) fun q=>(by cases q),u64_0,u64_0⟩) fun h8=>?_
 exact ⟨.inr (.inr (.inr (.inr (.inr (.inr (.inl rfl)))))),fun q=>q.elim (fun q=>by cases q) fun q=>(by cases q),u64_0,u64_0⟩
structure Lang.SM.good (m:SM):Prop where
 ok:m.ok
 wl:m.w.length<=4096
 bl:m.bw.length<=4096
 wr:∀ x ∈ m.w,U64 x
 rr:∀ x ∈ m.rs,U64 x
 br:∀ x ∈ m.bw,U64 x
 qr:∀ x ∈ m.brs,U64 x
 fl:m.left+m.blk<=2000000
theorem mem_set' {l:List Int} {k:Nat} {v x:Int} (h:x ∈ l.set k v):x ∈ l\/x=v:=by
 rcases List.mem_or_eq_of_mem_set h with q|q
 ·exact .inl q
 ·exact .inr q
theorem Lang.SM.good.fin {m:SM} (h:m.good) (e:Nat):(m.fin e).good:=by
 have ho:=SM.fin_ok h.ok e
 unfold SM.fin at *
 split
 ·rename_i q;rw [qh q] at ho;exact ⟨ho,h.bl,h.bl,h.br,h.qr,h.br,h.qr,h.fl⟩
 ·rename_i q;rw [qe q] at ho;exact ⟨ho,h.wl,h.bl,h.wr,h.rr,h.br,h.qr,h.fl⟩
theorem Lang.SM.good.eff {m x:SM} (h:m.good) (hl:m.left+m.blk+1<=2000000) {f:Eff} (hf:EffOk f) (hn:0<=f.next/\f.next<=1024) (he:m.eff f=some x):x.good:=by
 have ho:=SM.eff_ok h.ok hn.1 hn.2 he
 have hg:=fun i=>show U64 (m.w.getD i 0) from by
  rw [ym]
  cases hq:m.w[i]? with
  | none=>exact u64_0
  | some y=>exact h.wr y (z4 hq)
 unfold SM.eff at he
 by_cases k1:f.kind=1
 ·rw [qh k1] at he;injection he with he;subst he
  exact ⟨ho,h.wl,h.bl,h.wr,fun x q=>(mem_set' q).elim (h.rr x) fun q=>by rw [q];exact hf.val,h.br,h.qr,h.fl⟩
 rw [qe k1] at he
 by_cases k2:f.kind=2
 ·rw [qh k2] at he;injection he with he;subst he
  exact ⟨ho,h.wl,h.bl,h.wr,h.rr,h.br,h.qr,h.fl⟩
 rw [qe k2] at he
 by_cases k3:f.kind=3
 ·rw [qh k3] at he
  split at he
  ·injection he with he;subst he
   exact ⟨ho,h.wl,h.bl,h.wr,fun x q=>(mem_set' q).elim (h.rr x) fun q=>by rw [q];exact hg _,h.br,h.qr,h.fl⟩
  ·cases he
 rw [qe k3] at he
 by_cases k4:f.kind=4
 ·rw [qh k4] at he
  split at he
  ·injection he with he;subst he
   exact ⟨ho,by simpa using h.wl,h.bl,fun x q=>(mem_set' q).elim (h.wr x) fun q=>by rw [q];exact hf.val,h.rr,h.br,h.qr,h.fl⟩
  ·cases he
 rw [qe k4] at he
 by_cases k5:f.kind=5
 ·rw [qh k5] at he
  split at he
  ·cases he
  ·injection he with he;subst he
   exact ⟨ho,h.wl,h.wl,h.wr,h.rr,h.wr,h.rr,h.fl⟩
 rw [qe k5] at he
 by_cases k6:f.kind=6
 ·rw [qh k6] at he
  split at he
  ·injection he with he;subst he
   exact ⟨ho,h.wl,h.bl,h.wr,h.rr,h.br,h.qr,by show m.left+(m.blk+1)<=2000000;omega⟩
  ·cases he
 rw [qe k6] at he
 by_cases k7:f.kind=7
 ·rw [qh k7] at he
  split at he
  ·cases he
  ·injection he with he;subst he;exact h.fin 0
 ·rw [qe k7] at he;cases he
theorem Lang.SM.good.take {m:SM} (h:m.good) (hl:m.left+m.blk+1<=2000000) (code:List Ins):(m.take code).good:=by
 unfold SM.take
 cases code[m.pc.toNat]? with
 | none=>exact h.fin _
 | some i =>
  simp only
  cases he:m.eff (i.does m.rs m.pc) with
  | none=>exact h.fin _
  | some x=>exact h.eff hl (qtg i h.ok.r8 h.rr) (qnh i m.rs h.ok.p0 h.ok.p1) he
theorem mapUpd {H:AHeap} {b:Nat} {es:List (AV × AV × Nat)} {k:Nat} (h:H.get b=some (.map es k)) {key:Int} {v:AV} (hk:findKey .int (.int .i64 key) es 0=some none):Op.mapUpdate .int [.map b,.int .i64 key,v] H=some (.undef,H.set b (.map (es ++ [(.int .i64 key,v,k)]) (k+1))):=by
 have hm:H.mapAt b=some (es,k):=by simp [AHeap.mapAt,h]
 simp only [Op.mapUpdate,okTree,qi,hm,qd,hk]
def es7 (v1 v2 v3 v4 v5 v6 v7:AV):List (AV × AV × Nat):=[(.int .i64 1,v1,0),(.int .i64 2,v2,1),(.int .i64 3,v3,2),(.int .i64 4,v4,3),(.int .i64 5,v5,4),(.int .i64 6,v6,5),(.int .i64 7,v7,6)]
theorem map7 (H:AHeap) (v1 v2 v3 v4 v5 v6 v7:AV):∃ H1 H2 H3 H4 H5 H6 H7,Op.mapUpdate .int [.map H.next,.int .i64 1,v1] (H.alloc (.map [] 0))=some (.undef,H1)/\Op.mapUpdate .int [.map H.next,.int .i64 2,v2] H1=some (.undef,H2)/\Op.mapUpdate .int [.map H.next,.int .i64 3,v3] H2=some (.undef,H3) /\
 Op.mapUpdate .int [.map H.next,.int .i64 4,v4] H3=some (.undef,H4)/\Op.mapUpdate .int [.map H.next,.int .i64 5,v5] H4=some (.undef,H5)/\Op.mapUpdate .int [.map H.next,.int .i64 6,v6] H5=some (.undef,H6)/\Op.mapUpdate .int [.map H.next,.int .i64 7,v7] H6=some (.undef,H7)/\Fr Em H H7/\H7.get H.next=some (.map (es7 v1 v2 v3 v4 v5 v6 v7) 7):=by
 have f0:Fr Em H (H.alloc (.map [] 0)):=(Fr.refl H).alloc _
 have s:∀ {Hx:AHeap} (o:AObj),Fr Em H Hx->Fr Em H (Hx.set H.next o):=fun o f=>f.set (.inr (qc _)) o
 exact ⟨_,_,_,_,_,_,_,mapUpd (xa ..) rfl,mapUpd (xc ..) rfl,mapUpd (xc ..) rfl,mapUpd (xc ..) rfl,mapUpd (xc ..) rfl,mapUpd (xc ..) rfl,mapUpd (xc ..) rfl,s _ (s _ (s _ (s _ (s _ (s _ (s _ f0)))))),xc ..⟩
theorem mapLook {H:AHeap} {b:Nat} {es:List (AV × AV × Nat)} {k:Nat} (h:H.get b=some (.map es k)) (key:Int):Op.lookup .int .nilf true [.map b,.int .i64 key] H=(findKey .int (.int .i64 key) es 0).bind fun r=>match r with
 | some p=>some (.tuple [p.2,.bool true])
 | none=>some (.tuple [.nilf,.bool false]):=by
 have hm:H.mapAt b=some (es,k):=by simp [AHeap.mapAt,h]
 simp only [Op.lookup,okTree,qi,hm,qd]
 rfl
end Go.Am
namespace Go.Am
open Lang Go.Proofs
variable {M:Mac} [MK M]
theorem qqw (i:Ins):(insC i).length=5:=rfl
def TkR (c:SoK) (H:AHeap) (wv bv:AV) (m':SM) (H':AHeap):Prop:=∃ bv',Fr (SoW c wv) H H'/\(∀ b,OnS bv' b->(OnS bv b\/H.next<=b)/\b<H'.next) /\
 (m'.over=false->SoR c H' wv bv' m')/\(m'.over=true->SoF c (fun b=>b=c.r\/OnS wv b\/OnS bv' b) H' m')
section
variable {c:SoK} {H:AHeap} {wv bv:AV} {m:SM} {code:List Ins}
theorem qnp {H1:AHeap} {bv1:AV} (h1:SoR c H1 wv bv1 m) (f1:Fr (SoW c wv) H H1) (hb:∀ b,OnS bv1 b->OnS bv b\/H.next<=b) (e:Nat):vg M x8 [.ptr c.r 0,.int .i64 (e:Nat)] H1 fun _ H'=>TkR c H wv bv (m.fin e) H' :=
 (qg5 (M:=M) h1 e).mono fun v H' ⟨q1,q2⟩=>⟨bv1,f1.trans q2 fun x q=>.inl (.inl q),fun b q=>⟨hb b q,qf (Own.lt h1.bo b q) q2.next⟩,fun q=>(by rw [SM.fin_over] at q;cases q),fun _=>q1⟩
theorem qoz (h:SoR c H wv bv m) (hg:m.good) (ho:m.over=false) (hb2:m.blk<=10000000) (hs:ShT c.H0) (hc:SlT insC 5 c.H0 c.cv code):vg M j5 [.ptr c.r 0,.int .i64 m.pc] H fun _ H'=>TkR c H wv bv (m.take code) H':=by
 refine qgi ?_
 obtain ⟨w0,w8,w12⟩:=qgj M ⟨none,j5⟩
 have r0:Op.load1 [.ptr c.r 0] H=some c.cv:=h.ld.1
 have ln:Op.lenSl [c.cv]=some (.int .i64 (code.length:Nat)):=hc.len
 have p0:=hg.ok.p0
 have self:Fr (SoW c wv) H H:=Fr.refl H
 by_cases hq:(code.length:Int)<=m.pc
 ·have e:m.take code=m.fin 111:=by unfold SM.take;rw [jb (by omega)]
  rw [e]
  simp only [↓qq,ze,reduceIte,Nat.reduceEqDiff,w0,xr,r0,ln,hq]
  refine C3.q (qnp (M:=M) h self (fun b q=>.inl q) 111) fun v H1 hx=>?_
  simp only [↓qq,ze,reduceIte,Nat.reduceEqDiff]
  exact hx
 have q1:¬ (code.length:Int)<=m.pc:=hq
 obtain ⟨i,hi⟩:∃ i,code[m.pc.toNat]? = some i:=⟨code[m.pc.toNat]'(by omega),by simp [show m.pc.toNat<code.length by omega]⟩
 have hcH:=hc.em h.fr
 have idx:=hcH.idx hi (z:=m.pc) (by omega) .i64
 have lc:=hcH.loadN qqw (by decide) hi
 have rr:Op.loadN 8 [.ptr c.r 2] H=some (.agg (m.rs.map uC)):=h.ld.2.2.2.2.2.2.2.2.2.1
 have ht:m.take code=(m.eff (i.does m.rs m.pc)).getD (m.fin 111):=by unfold SM.take;rw [hi]
 rw [ht]
 simp only [↓qq,ze,reduceIte,Nat.reduceEqDiff,w0,xr,r0,ln,q1,w8,idx,lc,rr]
 refine C3.q (Do_spec (M:=M) (hs.em h.fr) h.r8 hg.rr) fun v H1 ⟨hv,f1⟩=>?_
 subst hv
 have eo:=qtg i (pc:=m.pc) h.r8 hg.rr
 obtain ⟨f,hf⟩:∃ f,f=i.does m.rs m.pc:=⟨_,rfl⟩
 rw [<-hf] at eo ⊢
 obtain ⟨H2,e2⟩:∃ X,X=H1.alloc (OR (effC eff0) qn):=⟨_,rfl⟩
 have f2:Fr Em H1 H2:=by rw [e2];exact (Fr.refl H1).alloc _
 have g2:H2.get H1.next=some (OR (effC eff0) qn):=by rw [e2,xa]
 have n2:H2.next=H1.next+1:=by rw [e2,x4]
 have st2:=stE (f:=f) g2
 obtain ⟨H3,e3⟩:∃ X,X=H2.set H1.next (OR (effC f) qn):=⟨_,rfl⟩
 rw [<-e3] at st2
 have f3:Fr Em H1 H3:=by rw [e3];exact f2.set (.inr (qc _)) _
 have n3:H3.next=H1.next+1:=by rw [e3];exact n2
 have g3:H3.get H1.next=some (OR (effC f) qn):=by rw [e3];exact xc ..
 have mkm:Op.mkMap []=some (.map [] 0,.map):=rfl
 have k1:Op.mkFunc zq 1 [.ptr c.r 0]=some (.fn (.func zq) [.ptr c.r 0] []):=rfl
 have k2:Op.mkFunc xo 1 [.ptr c.r 0]=some (.fn (.func xo) [.ptr c.r 0] []):=rfl
 have k3:Op.mkFunc zk 1 [.ptr c.r 0]=some (.fn (.func zk) [.ptr c.r 0] []):=rfl
 have k4:Op.mkFunc zd 1 [.ptr c.r 0]=some (.fn (.func zd) [.ptr c.r 0] []):=rfl
 have k5:Op.mkFunc zb 1 [.ptr c.r 0]=some (.fn (.func zb) [.ptr c.r 0] []):=rfl
 have k6:Op.mkFunc x7 1 [.ptr c.r 0]=some (.fn (.func x7) [.ptr c.r 0] []):=rfl
 have k7:Op.mkFunc zj 1 [.ptr c.r 0]=some (.fn (.func zj) [.ptr c.r 0] []):=rfl
 obtain ⟨G1,G2,G3,G4,G5,G6,G7,u1,u2,u3,u4,u5,u6,u7,fG,gG⟩:=map7 H3 (.fn (.func zq) [.ptr c.r 0] []) (.fn (.func xo) [.ptr c.r 0] []) (.fn (.func zk) [.ptr c.r 0] []) (.fn (.func zd) [.ptr c.r 0] []) (.fn (.func zb) [.ptr c.r 0] []) (.fn (.func x7) [.ptr c.r 0] []) (.fn (.func zj) [.ptr c.r 0] [])
 have f7:Fr Em H G7:=(f1.trans f3 fun _ q=>q.elim).trans fG fun _ q=>q.elim
 have e7:EfM f H1.next G7:=(EfM.em ⟨g3,by omega⟩ fG)
 obtain ⟨l0,l1,l2,l3,l4,l5⟩:=e7.ld
 have h7:=h.em f7
 have self7:Fr (SoW c wv) H G7:=f7.mono fun _ _ q=>q.elim
 have n7:=f7.next
 simp only [↓qq,ze,reduceIte,Nat.reduceEqDiff,eff0C,<-e2,st2,mkm,List.take_succ_cons,wg,yg,kx,u1,u2,u3,u4,u5,u6,u7,w12,l0]
 have lk7:=mapLook gG
 have tk:∀ {bv':AV} {x:SM} {H':AHeap},m.eff f=some x->x.over=false->SoR c H' wv bv' x->Fr (SoW c wv) G7 H'->(∀ b,OnS bv' b->OnS bv b\/H.next<=b)->TkR c H wv bv ((m.eff f).getD (m.fin 111)) H':=fun {bv' x H'} hx hxo hr hfr hbb =>
  ⟨bv',self7.trans hfr fun b q=>.inl q,fun b q=>⟨hbb b q,Own.lt hr.bo b q⟩,fun _=>by rw [hx];exact hr,fun q=>by rw [hx] at q;rw [show (some x).getD (m.fin 111)=x from rfl,hxo] at q;cases q⟩
 have no:∀ {bv':AV} {H':AHeap},m.eff f=none->SoR c H' wv bv' m->Fr (SoW c wv) G7 H'->(∀ b,OnS bv' b->OnS bv b\/H.next<=b)->vg M x8 [.ptr c.r 0,.int .i64 (111:Nat)] H' fun _ H''=>TkR c H wv bv ((m.eff f).getD (m.fin 111)) H'':=fun {bv' H'} hx hr hfr hbb=>by
  rw [hx];exact qnp (M:=M) hr (self7.trans hfr fun b q=>.inl q) hbb 111
 have own:∀ b,OnS bv b->OnS bv b\/H.next<=b:=fun b q=>.inl q
 have frR:∀ {Ha Hb:AHeap},Fr (On c.r) Ha Hb->Fr (SoW c wv) Ha Hb:=fun q=>q.mono fun b _ w=>.inl w
 rcases eo.kind with k|k|k|k|k|k|k|k
 ·have lk:Op.lookup .int .nilf true [.map H3.next,.int .i64 f.kind] G7=some (.tuple [.nilf,.bool false]):=by rw [lk7,k];rfl
  have he:m.eff f=none:=by unfold SM.eff;rw [k];rfl
  simp only [↓qq,ze,reduceIte,Nat.reduceEqDiff,lk,zg]
  refine C3.q (no he h7 (Fr.refl _) own) fun v Hx hx=>?_
  simp only [↓qq,ze,reduceIte,Nat.reduceEqDiff]
  exact hx
 ·obtain ⟨a0,a1⟩:=eo.reg (.inl k)
  have lk:Op.lookup .int .nilf true [.map H3.next,.int .i64 f.kind] G7=some (.tuple [.fn (.func zq) [.ptr c.r 0] [],.bool true]):=by rw [lk7,k];rfl
  have he:m.eff f=some { m with rs:=m.rs.set f.reg.toNat f.value,pc:=f.next }:=by unfold SM.eff;rw [qh k]
  simp only [↓qq,ze,reduceIte,Nat.reduceEqDiff,lk,zg,l5]
  refine C3.q (solo_set (M:=M) h7 (f:=f) (k:=f.reg.toNat) (by omega) (by omega)) fun v Hx ⟨hv,hx,fx⟩=>?_
  subst hv
  simp only [↓qq,ze,reduceIte,Nat.reduceEqDiff]
  exact tk he ho hx (frR fx) own
 ·have lk:Op.lookup .int .nilf true [.map H3.next,.int .i64 f.kind] G7=some (.tuple [.fn (.func xo) [.ptr c.r 0] [],.bool true]):=by rw [lk7,k];rfl
  have he:m.eff f=some { m with pc:=f.next }:=by unfold SM.eff;rw [qe (by rw [k];decide),qh k]
  simp only [↓qq,ze,reduceIte,Nat.reduceEqDiff,lk,zg,l5]
  refine C3.q (qdy (M:=M) h7 (f:=f)) fun v Hx ⟨hv,hx,fx⟩=>?_
  subst hv
  simp only [↓qq,ze,reduceIte,Nat.reduceEqDiff]
  exact tk he ho hx (frR fx) own
 ·obtain ⟨a0,a1⟩:=eo.reg (.inr k)
  have lk:Op.lookup .int .nilf true [.map H3.next,.int .i64 f.kind] G7=some (.tuple [.fn (.func zk) [.ptr c.r 0] [],.bool true]):=by rw [lk7,k];rfl
  simp only [↓qq,ze,reduceIte,Nat.reduceEqDiff,lk,zg,l5]
  refine C3.q (quf (M:=M) h7 hg.wl eo.addr (f:=f) (k:=f.reg.toNat) (by omega) (by omega)) fun v Hx ⟨fx,hx⟩=>?_
  rcases hx with ⟨q,hv,hx⟩|⟨q,hv,hx⟩
  ·have he:m.eff f=some { m with rs:=m.rs.set f.reg.toNat (m.w.getD f.addr.toNat 0),pc:=f.next }:=by unfold SM.eff;rw [qe (by rw [k];decide),qe (by rw [k];decide),qh k,qh q]
   subst hv
   simp only [↓qq,ze,reduceIte,Nat.reduceEqDiff]
   exact tk he ho hx (frR fx) own
  ·have he:m.eff f=none:=by unfold SM.eff;rw [qe (by rw [k];decide),qe (by rw [k];decide),qh k,qe q]
   subst hv
   simp only [↓qq,ze,reduceIte,Nat.reduceEqDiff]
   refine C3.q (no he hx (frR fx) own) fun v Hx hx=>?_
   simp only [↓qq,ze,reduceIte,Nat.reduceEqDiff]
   exact hx
 ·have lk:Op.lookup .int .nilf true [.map H3.next,.int .i64 f.kind] G7=some (.tuple [.fn (.func zd) [.ptr c.r 0] [],.bool true]):=by rw [lk7,k];rfl
  simp only [↓qq,ze,reduceIte,Nat.reduceEqDiff,lk,zg,l5]
  refine C3.q (qst (M:=M) h7 hg.wl eo.addr (f:=f)) fun v Hx ⟨fx,hx⟩=>?_
  rcases hx with ⟨q,hv,hx⟩|⟨q,hv,hx⟩
  ·have he:m.eff f=some { m with w:=m.w.set f.addr.toNat f.value,pc:=f.next }:=by unfold SM.eff;rw [qe (by rw [k];decide),qe (by rw [k];decide),qe (by rw [k];decide),qh k,qh q]
   subst hv
   simp only [↓qq,ze,reduceIte,Nat.reduceEqDiff]
   exact tk he ho hx fx own
  ·have he:m.eff f=none:=by unfold SM.eff;rw [qe (by rw [k];decide),qe (by rw [k];decide),qe (by rw [k];decide),qh k,qe q]
   subst hv
   simp only [↓qq,ze,reduceIte,Nat.reduceEqDiff]
   refine C3.q (no he hx fx own) fun v Hx hx=>?_
   simp only [↓qq,ze,reduceIte,Nat.reduceEqDiff]
   exact hx
 ·have lk:Op.lookup .int .nilf true [.map H3.next,.int .i64 f.kind] G7=some (.tuple [.fn (.func zb) [.ptr c.r 0] [],.bool true]):=by rw [lk7,k];rfl
  simp only [↓qq,ze,reduceIte,Nat.reduceEqDiff,lk,zg,l5]
  refine C3.q (qss (M:=M) h7 hg.wl (f:=f)) fun v Hx ⟨bv',fx,hbv,hv,hx,hy⟩=>?_
  subst hv
  have ownb:∀ b,OnS bv' b->OnS bv b\/H.next<=b:=fun b q=>(hbv b q).imp id fun q=>qx n7 q
  cases hin:m.inb with
  | true =>
   have he:m.eff f=none:=by unfold SM.eff;rw [qe (by rw [k];decide),qe (by rw [k];decide),qe (by rw [k];decide),qe (by rw [k];decide),qh k,qh hin]
   simp only [↓qq,ze,reduceIte,Nat.reduceEqDiff]
   refine C3.q (no he (hx hin) (frR fx) ownb) fun v Hx hx=>?_
   simp only [↓qq,ze,reduceIte,Nat.reduceEqDiff]
   exact hx
  | false =>
   have he:m.eff f=some { m with inb:=true,pc:=f.next,bw:=m.w,brs:=m.rs,bpc:=f.next }:=by unfold SM.eff;rw [qe (by rw [k];decide),qe (by rw [k];decide),qe (by rw [k];decide),qe (by rw [k];decide),qh k,qe (by rw [hin];decide)]
   simp only [↓qq,ze,reduceIte,Nat.reduceEqDiff]
   exact tk he ho (hy hin) (frR fx) ownb
 ·have lk:Op.lookup .int .nilf true [.map H3.next,.int .i64 f.kind] G7=some (.tuple [.fn (.func x7) [.ptr c.r 0] [],.bool true]):=by rw [lk7,k];rfl
  simp only [↓qq,ze,reduceIte,Nat.reduceEqDiff,lk,zg,l5]
  refine C3.q (qqa (M:=M) h7 hb2 (f:=f)) fun v Hx ⟨fx,hx⟩=>?_
  rcases hx with ⟨q,hv,hx⟩|⟨q,hv,hx⟩
  ·have he:m.eff f=some { m with inb:=false,blk:=m.blk+1,pc:=f.next }:=by unfold SM.eff;rw [qe (by rw [k];decide),qe (by rw [k];decide),qe (by rw [k];decide),qe (by rw [k];decide),qe (by rw [k];decide),qh k,qh q]
   subst hv
   simp only [↓qq,ze,reduceIte,Nat.reduceEqDiff]
   exact tk he ho hx (frR fx) own
  ·have he:m.eff f=none:=by unfold SM.eff;rw [qe (by rw [k];decide),qe (by rw [k];decide),qe (by rw [k];decide),qe (by rw [k];decide),qe (by rw [k];decide),qh k,qe q]
   subst hv
   simp only [↓qq,ze,reduceIte,Nat.reduceEqDiff]
   refine C3.q (no he hx (frR fx) own) fun v Hx hx=>?_
   simp only [↓qq,ze,reduceIte,Nat.reduceEqDiff]
   exact hx
 ·have lk:Op.lookup .int .nilf true [.map H3.next,.int .i64 f.kind] G7=some (.tuple [.fn (.func zj) [.ptr c.r 0] [],.bool true]):=by rw [lk7,k];rfl
  simp only [↓qq,ze,reduceIte,Nat.reduceEqDiff,lk,zg,l5]
  refine C3.q (que (M:=M) h7 (f:=f)) fun v Hx ⟨fx,hv,hx,hy⟩=>?_
  subst hv
  cases hin:m.inb with
  | true =>
   have he:m.eff f=none:=by unfold SM.eff;rw [qe (by rw [k];decide),qe (by rw [k];decide),qe (by rw [k];decide),qe (by rw [k];decide),qe (by rw [k];decide),qe (by rw [k];decide),qh k,qh hin]
   simp only [↓qq,ze,reduceIte,Nat.reduceEqDiff]
   refine C3.q (no he (hx hin) (frR fx) own) fun v Hx hx=>?_
   simp only [↓qq,ze,reduceIte,Nat.reduceEqDiff]
   exact hx
  | false =>
   have he:m.eff f=some (m.fin 0):=by unfold SM.eff;rw [qe (by rw [k];decide),qe (by rw [k];decide),qe (by rw [k];decide),qe (by rw [k];decide),qe (by rw [k];decide),qe (by rw [k];decide),qh k,qe (by rw [hin];decide)]
   simp only [↓qq,ze,reduceIte,Nat.reduceEqDiff]
   rw [he]
   exact ⟨bv,self7.trans (frR fx) fun b q=>.inl q,fun b q=>⟨own b q,qf (Own.lt h7.bo b q) fx.next⟩,fun q=>(by rw [show (some (m.fin 0)).getD (m.fin 111)=m.fin 0 from rfl,SM.fin_over] at q;cases q),fun _=>hy hin⟩
end
end Go.Am
