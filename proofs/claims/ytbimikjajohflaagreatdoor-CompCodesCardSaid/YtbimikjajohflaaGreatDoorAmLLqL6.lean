/- LqL6: CpZ GrZ CcA CcB. -/
import Derived.Test.YtbimikjajohflaaGreatDoorAmLLqL5
import Derived.Test.YtbimikjajohflaaGreatDoorAmLLqL4
import Derived.Test.YtbimikjajohflaaGreatDoorAmLCodeL
import Derived.Test.YtbimikjajohflaaGreatDoorAmLLqL0
set_option linter.unusedVariables false
set_option linter.unusedSimpArgs false
set_option linter.unusedSectionVars false
set_option maxRecDepth 100000
namespace Go.Am
open Lang Go.Proofs
variable {M:Mac} [MK M]
theorem qux {H:AHeap} {tv:AV} {t:List Nd} (h:NdI H tv t):vm M qdu [tv] H fun v H'=>Fr Em H H' /\ ∃ b,v=.bool b/\(b=true ↔ OkP t):=by
 refine qst ?_
 simp only [↓qh,xe,reduceIte,Nat.reduceEqDiff,qsu]
 refine C3.q (Print_ok (M:=M) h) fun v H' ⟨f,s,e,hv,he⟩=>?_
 subst hv
 by_cases h0:e=0
 ·simp only [↓qh,xe,reduceIte,Nat.reduceEqDiff,x20,x21,yp h0]
  exact ⟨f,true,rfl,by rw [<-he];simp [h0]⟩
 ·simp only [↓qh,xe,reduceIte,Nat.reduceEqDiff,x20,x21,h0]
  exact ⟨f,false,rfl,by rw [<-he];simp [h0]⟩
def FrOk (f:Frm):Prop:=f.ok/\(f.many=0\/f.vars+8<=f.base\/f.base+f.many<=f.vars)
theorem qzq {H:AHeap} (f:Frm):vm M qaj [.agg [.int .i64 f.vars,.int .i64 f.base,.int .i64 f.many]] H fun v H'=>Fr Em H H' /\ ∃ b,v=.bool b/\(b=true ↔ FrOk f):=by
 refine qm7 ?_
 obtain ⟨H1,e1⟩:∃ X,X=H.alloc (OR [.int .i64 f.vars,.int .i64 f.base,.int .i64 f.many] qb1):=⟨_,rfl⟩
 have f1:Fr Em H H1:=by rw [e1];exact (Fr.refl H).alloc _
 have ld:∀ o,Op.load1 [.ptr H.next o] H1=[.int .i64 f.vars,.int .i64 f.base,.int .i64 f.many][o]?:=fun o=>qbo (z0 (by rw [e1,xq])) o
 obtain ⟨w0,w2,w10⟩:=qm8 M ⟨none,qaj⟩
 by_cases h1:f.vars<0
 ·simp only [↓qh,xe,reduceIte,Nat.reduceEqDiff,w0,w2,qa3,<-e1,ld,h1];exact ⟨f1,false,rfl,⟨fun w=>(by cases w),fun w=>by have:=w.1.1;omega⟩⟩
 by_cases h2:4096<f.vars
 ·simp only [↓qh,xe,reduceIte,Nat.reduceEqDiff,w0,w2,qa3,<-e1,ld,h1,h2];exact ⟨f1,false,rfl,⟨fun w=>(by cases w),fun w=>by have:=w.1.2.1;omega⟩⟩
 by_cases h3:f.base<0
 ·simp only [↓qh,xe,reduceIte,Nat.reduceEqDiff,w0,w2,qa3,<-e1,ld,h1,h2,h3];exact ⟨f1,false,rfl,⟨fun w=>(by cases w),fun w=>by have:=w.1.2.2.1;omega⟩⟩
 by_cases h4:4096<f.base
 ·simp only [↓qh,xe,reduceIte,Nat.reduceEqDiff,w0,w2,qa3,<-e1,ld,h1,h2,h3,h4];exact ⟨f1,false,rfl,⟨fun w=>(by cases w),fun w=>by have:=w.1.2.2.2.1;omega⟩⟩
 by_cases h5:f.many<0
 ·simp only [↓qh,xe,reduceIte,Nat.reduceEqDiff,w0,w2,qa3,<-e1,ld,h1,h2,h3,h4,h5];exact ⟨f1,false,rfl,⟨fun w=>(by cases w),fun w=>by have:=w.1.2.2.2.2.1;omega⟩⟩
 by_cases h6:4096<f.many
 ·simp only [↓qh,xe,reduceIte,Nat.reduceEqDiff,w0,w2,qa3,<-e1,ld,h1,h2,h3,h4,h5,h6];exact ⟨f1,false,rfl,⟨fun w=>(by cases w),fun w=>by have:=w.1.2.2.2.2.2;omega⟩⟩
 have hok:f.ok:=⟨by omega,by omega,by omega,by omega,by omega,by omega⟩
 have wa:wrapI .i64 (f.vars+8)=f.vars+8:=z6 (by omega) (by omega)
 have wb:wrapI .i64 (f.base+f.many)=f.base+f.many:=z6 (by omega) (by omega)
 by_cases h7:f.many=0
 ·simp only [↓qh,xe,reduceIte,Nat.reduceEqDiff,w0,w2,w10,qa3,<-e1,ld,h1,h2,h3,h4,h5,h6,yp h7];exact ⟨f1,true,rfl,⟨fun _=>⟨hok,.inl h7⟩,fun _=>rfl⟩⟩
 by_cases h8:f.vars+8<=f.base
 ·simp only [↓qh,xe,reduceIte,Nat.reduceEqDiff,w0,w2,w10,qa3,<-e1,ld,h1,h2,h3,h4,h5,h6,h7,wa,h8];exact ⟨f1,true,rfl,⟨fun _=>⟨hok,.inr (.inl h8)⟩,fun _=>rfl⟩⟩
 by_cases h9:f.base+f.many<=f.vars
 ·simp only [↓qh,xe,reduceIte,Nat.reduceEqDiff,w0,w2,w10,qa3,<-e1,ld,h1,h2,h3,h4,h5,h6,h7,wa,h8,wb,h9];exact ⟨f1,true,rfl,⟨fun _=>⟨hok,.inr (.inr h9)⟩,fun _=>rfl⟩⟩
 ·simp only [↓qh,xe,reduceIte,Nat.reduceEqDiff,w0,w2,w10,qa3,<-e1,ld,h1,h2,h3,h4,h5,h6,h7,wa,h8,wb,h9];exact ⟨f1,false,rfl,⟨fun w=>(by cases w),fun w=>by rcases w.2 with q|q|q<;>omega⟩⟩
abbrev frV (f:Frm):AV:=.agg [.int .i64 f.vars,.int .i64 f.base,.int .i64 f.many]
def Lang.Ls.code (p:Ls) (f:Frm):CW:=p.cmp f ⟨[],false⟩
def CompR (H:AHeap) (t:List Nd) (f:Frm) (v:AV) (H':AHeap):Prop:=Fr Em H H'/\(¬ (OkP t/\FrOk f)/\v=.tuple [.nils,.int .i64 2] \/
 ∃ p:Ls,t=p.encL 0/\p.ok/\p.sz+1<=2000/\OkP t/\FrOk f/\(((p.code f).d=true\/1024<(p.code f).l.length)/\v=.tuple [.nils,.int .i64 210] \/
  ((p.code f).d=false/\(p.code f).l.length<=1024) /\ ∃ lv,v=.tuple [lv,.int .i64 0]/\New encX x8 5 H H' lv (p.code f).l))
theorem qsh {H:AHeap} {tv:AV} {t:List Nd} (h:NdI H tv t) (f:Frm):vm M qbj [tv,frV f] H (CompR H t f):=by
 refine qpp ?_
 obtain ⟨w0,w2,w10,w14,w22⟩:=qpq M ⟨none,qbj⟩
 obtain ⟨H1,e1⟩:∃ X,X=H.alloc (OR [.int .i64 f.vars,.int .i64 f.base,.int .i64 f.many] qb1):=⟨_,rfl⟩
 have f1:Fr Em H H1:=by rw [e1];exact (Fr.refl H).alloc _
 have n1:H1.next=H.next+1:=by rw [e1,x7]
 have g1:H1.get H.next=some (OR [.int .i64 f.vars,.int .i64 f.base,.int .i64 f.many] qb1):=by rw [e1,xq]
 have ldf:∀ {Hx:AHeap},Fr Em H1 Hx->Op.loadN 3 [.ptr H.next 0] Hx=some (frV f):=fun fx=>by rw [qlb (z0 (by rw [fx.keep _ (by omega) id];exact g1)) (by simp)];rfl
 simp only [↓qh,xe,reduceIte,Nat.reduceEqDiff,w0,qa3,<-e1,w2]
 refine C3.q (qux (M:=M) (h.em f1)) fun v1 H2 ⟨f2,b,hv1,hb⟩=>?_
 subst hv1
 have f02:=f1.trans f2 fun _ q=>q.elim
 cases b with
 | false=>simp only [↓qh,xe,reduceIte,Nat.reduceEqDiff];exact ⟨f02,.inl ⟨fun q=>(by have:=hb.2 q.1;cases this),rfl⟩⟩
 | true =>
  have hok:=hb.1 rfl
  simp only [↓qh,xe,reduceIte,Nat.reduceEqDiff,ldf f2]
  refine C3.q (qzq (M:=M) f) fun v2 H3 ⟨f3,b2,hv2,hb2⟩=>?_
  subst hv2
  have f13:=f2.trans f3 fun _ q=>q.elim
  have f03:=f1.trans f13 fun _ q=>q.elim
  cases b2 with
  | false=>simp only [↓qh,xe,reduceIte,Nat.reduceEqDiff];exact ⟨f03,.inl ⟨fun q=>(by have:=hb2.2 q.2;cases this),rfl⟩⟩
  | true =>
   have hfr:=hb2.1 rfl
   have hok':=hok
   obtain ⟨p,hp,ho,hz,_⟩:=hok'
   have ot:tv.cells=[tv]:=by obtain ⟨zs,_,q,_⟩:=h.nd.ex;have:=q.one;cases tv<;>first|rfl|cases this
   have eb:Op.build [.nils,.int .i64 0,.int .i64 0,.int .i64 0,.nils,.bool false] [(0,1),(1,3)] [tv,frV f]=some (.agg [tv,.int .i64 f.vars,.int .i64 f.base,.int .i64 f.many,.nils,.bool false]):=by simp only [qvd,qok,qq8,ot];rfl
   obtain ⟨H4,e4⟩:∃ X,X=H3.alloc (OR [tv,.int .i64 f.vars,.int .i64 f.base,.int .i64 f.many,.nils,.bool false] qd4):=⟨_,rfl⟩
   have f4:Fr Em H3 H4:=by rw [e4];exact (Fr.refl H3).alloc _
   have n4:H4.next=H3.next+1:=by rw [e4,x7]
   have g4:H4.get H3.next=some (OR [tv,.int .i64 f.vars,.int .i64 f.base,.int .i64 f.many,.nils,.bool false] qd4):=by rw [e4,xq]
   have f04:=f03.trans f4 fun _ q=>q.elim
   have hC:CSt H H4 H3.next tv .nils f ⟨[],false⟩:=⟨g4,by have:=f03.next;omega,by omega,⟨Own.nil _ _ _,f04,fun b hb=>(hb.1 rfl).elim⟩,fun q=>q.1 rfl⟩
   have hlen:t.length=p.sz+1:=by rw [hp,Ls.lenL]
   have wl:wrapI .i64 (((t.length:Nat):Int)-1)=((p.sz:Nat):Int):=by rw [z6 (by omega) (by omega)];omega
   have hln:=h.nd.len
   have hgo:=qga (M:=M) hfr.1 h.nd (by omega) p (qn0 hfr.1 h.nd (by omega) p) H4 0 .nils ⟨[],false⟩ (by rw [hp];exact Seg.all _) ho (by simp only [qm];omega) hC
   rw [x9] at hgo
   simp only [↓qh,xe,reduceIte,Nat.reduceEqDiff,w10,ldf f13,eb,qa3,<-e4,hln,wl]
   refine C3.q hgo fun v5 H5 ⟨lv,h5,_⟩=>?_
   have hres:∀ {v:AV},(((p.code f).d=true\/1024<(p.code f).l.length)/\v=.tuple [.nils,.int .i64 210]\/((p.code f).d=false/\(p.code f).l.length<=1024) /\ ∃ lv,v=.tuple [lv,.int .i64 0]/\New encX x8 5 H H5 lv (p.code f).l)->CompR H t f v H5 :=
    fun q=>⟨h5.fr,.inr ⟨p,hp,ho,hz,hok,hfr,q⟩⟩
   have h5:CSt H H5 H3.next tv lv f (p.code f):=h5
   have l5:Op.load1 [.ptr H3.next 5] H5=some (.bool (p.code f).d):=h5.ld 5
   have l4:Op.load1 [.ptr H3.next 4] H5=some lv:=h5.ld 4
   cases hd:(p.code f).d with
   | true =>
    rw [hd] at l5
    simp only [↓qh,xe,reduceIte,Nat.reduceEqDiff,w14,qw,l5]
    exact hres (.inl ⟨.inl hd,rfl⟩)
   | false =>
    rw [hd] at l5
    by_cases hl:(1024:Int)<((p.code f).l.length:Nat)
    ·simp only [↓qh,xe,reduceIte,Nat.reduceEqDiff,w14,qw,l5,l4,h5.len,hl]
     exact hres (.inl ⟨.inr (by omega),rfl⟩)
    ·simp only [↓qh,xe,reduceIte,Nat.reduceEqDiff,w14,w22,qw,l5,l4,h5.len,hl]
     exact hres (.inr ⟨⟨hd,by omega⟩,lv,rfl,h5.nw⟩)
end Go.Am
namespace Go.Am
open Lang Go.Proofs
variable {M:Mac} [MK M]
theorem qs4 {H:AHeap} {tv:AV} {t:List Nd} (hn:Nds H tv t) (hl:t.length<=140737488355328):vm M qb4 [tv] H fun v H'=>(∃ q,v=.bool q)/\H'=H:=by
 refine qrh ?_
 obtain ⟨w0,w4,w19,w9,w15,w18⟩:=qri M ⟨none,qb4⟩
 simp only [↓qh,xe,reduceIte,Nat.reduceEqDiff,w0,w4]
 refine LOOP3.intro (fun k E' H'=>∃ j n,H'=H/\E'=[(4,.int .i64 (j:Nat)),(3,.int .i64 n),(0,tv)]/\k=t.length-j/\j<=t.length) ?_ ?_
 ·exact ⟨_,_,⟨0,0,rfl,rfl,rfl,by omega⟩,by simp only [↓qh,xe,reduceIte,Nat.reduceEqDiff]⟩
 rintro k E' H' ⟨j,n,rfl,rfl,rfl,hj⟩
 rcases jy j t.length with hlt|hge
 ·have q1:(j:Int)<(t.length:Nat):=by omega
  obtain ⟨x,hx⟩:∃ x,t[j]? = some x:=⟨t[j],by simp [hlt]⟩
  obtain ⟨a,ha,_,a1,_,a3,a4,a5⟩:=hn.get hx
  have wj:wrapI .i64 ((j:Int)+1)=((j+1:Nat):Int):=by rw [z6 (by omega) (by omega)];omega
  simp only [↓qh,xe,reduceIte,Nat.reduceEqDiff,w9,w15,w18,hn.len,q1,a1,a5,ha.len,wj]
  exact ⟨_,_,⟨j+1,_,rfl,rfl,by omega⟩,by simp only [↓qh,xe,reduceIte,Nat.reduceEqDiff];rfl,by omega⟩
 ·have q1:¬ (j:Int)<(t.length:Nat):=by omega
  simp only [↓qh,xe,reduceIte,Nat.reduceEqDiff,w9,w19,hn.len,q1]
  exact ⟨_,rfl⟩
end Go.Am
namespace Go.Am
open Lang Go.Proofs
variable {M:Mac} [MK M]
def encY (x:Int):List AV:=[.int .u8 x]
def Bts (x:Ins):Prop:=-2147483648<=x.imm/\x.imm<=2147483647/\(0<=x.op/\x.op<=255)/\(0<=x.a/\x.a<=255)/\(0<=x.b/\x.b<=255)/\(0<=x.c/\x.c<=255)
def EncQ (H:AHeap) (l:List Ins) (v:AV) (H':AHeap):Prop:=Fr Em H H' /\ ∃ lv e,v=.tuple [lv,.int .i64 e]/\((∀ x ∈ l,Bts x)->l.length<=1024->e=0/\Op.lenSl [lv]=some (.int .i64 ((8*l.length:Nat):Int)))
theorem idx4 (a b c d:AV) (i:Nat) (h:i<4):∃ x,[a,b,c,d][i]? = some x/\Op.indexAgg 4 1 none [.agg [a,b,c,d],.int .i64 (i:Int)]=some x:=by
 rcases (show i=0\/i=1\/i=2\/i=3 by omega) with rfl|rfl|rfl|rfl<;>exact ⟨_,rfl,rfl⟩
theorem qu1 {H:AHeap} {sv:AV} {l:List Ins} (h:SlT encX 5 H sv l) (hl:l.length<=100000):vm M qct [sv] H (EncQ H l):=by
 refine qs8 ?_
 obtain ⟨w0,w2,w10,w12,w64,w17,w23,w63,w27,w35,w60,w40,w46,w59,w50,w58⟩:=qs9 M ⟨none,qct⟩
 have hlen:=h.len
 by_cases hb:(1024:Int)<(l.length:Nat)
 ·simp only [↓qh,xe,reduceIte,Nat.reduceEqDiff,w0,w2,hlen,hb]
  exact ⟨Fr.refl _,_,_,rfl,fun _ q=>by omega⟩
 simp only [↓qh,xe,reduceIte,Nat.reduceEqDiff,w0,w2,hlen,hb,w10,w12]
 refine LOOP3.intro (fun k E' Hc=>∃ (i:Nat) (lv:AV) (bs:List Int),E'=[(15,.int .i64 (i:Nat)),(14,.int .i64 (l.length:Nat)),(13,sv),(4,lv),(3,.int .i64 0),(2,.nils),(0,sv)]/\k=l.length-i/\i<=l.length/\New encY qak 1 H Hc lv bs/\bs.length=8*i) ?_ ?_
 ·exact ⟨_,_,⟨0,.nils,[],rfl,rfl,by omega,New.nil H,rfl⟩,by simp only [↓qh,xe,reduceIte,Nat.reduceEqDiff]⟩
 rintro k E' Hc ⟨i,lv,bs,rfl,rfl,hi,hn,hbl⟩
 rcases jy i l.length with hlt|hge
 ·have q1:(i:Int)<(l.length:Nat):=by omega
  obtain ⟨x,hx⟩:∃ x,l[i]? = some x:=⟨l[i],by simp [hlt]⟩
  have hc:=h.em hn.fr
  have ix:=hc.idx hx rfl .i64 (z:=(i:Int))
  have ldx:=hc.loadN qnj (by decide) hx
  have st:Op.store 5 [.ptr Hc.next 0,.agg (encX x)] (Hc.alloc (OR [.int .i64 0,.int .i64 0,.int .i64 0,.int .i64 0,.int .i64 0] x8))=some (.undef,Hc.alloc (OR (encX x) x8)):=qph Hc _ _ 5 (.agg (encX x)) rfl rfl rfl
  obtain ⟨H1,e1⟩:∃ X,X=Hc.alloc (OR (encX x) x8):=⟨_,rfl⟩
  have f1:Fr Em Hc H1:=by rw [e1];exact (Fr.refl Hc).alloc _
  have g1:H1.get Hc.next=some (OR (encX x) x8):=by rw [e1,xq]
  have n1:=hn.em f1
  have hlo:Hc.next<H1.next:=by rw [e1,x7];omega
  have ld:∀ {Hx:AHeap} (W:Nat->Prop) (f:Fr W H1 Hx) (hw:¬ W Hc.next) (o:Nat),Op.load1 [.ptr Hc.next o] Hx=(encX x)[o]?:=fun W f hw o=>qbo (z0 (by rw [f.keep _ hlo hw];exact g1)) o
  have ld0:=fun o=>ld Em (Fr.refl H1) id o
  rw [<-e1] at st
  simp only [↓qh,xe,reduceIte,Nat.reduceEqDiff,w17,q1,w23,ix,ldx,st,w27]
  by_cases p1:x.imm < -2147483648
  ·simp only [↓qh,xe,reduceIte,Nat.reduceEqDiff,ld0,encX,p1]
   exact ⟨hn.fr.em f1,_,_,rfl,fun q _=>by have:=(q x (xg hx)).1;omega⟩
  by_cases p2:2147483647<x.imm
  ·simp only [↓qh,xe,reduceIte,Nat.reduceEqDiff,ld0,encX,p1,p2]
   exact ⟨hn.fr.em f1,_,_,rfl,fun q _=>by have:=(q x (xg hx)).2.1;omega⟩
  have bld:Op.build [.int .i64 0,.int .i64 0,.int .i64 0,.int .i64 0] [(0,1),(1,1),(2,1),(3,1)] [.int .i64 x.op,.int .i64 x.a,.int .i64 x.b,.int .i64 x.c]=some (.agg [.int .i64 x.op,.int .i64 x.a,.int .i64 x.b,.int .i64 x.c]):=rfl
  simp only [↓qh,xe,reduceIte,Nat.reduceEqDiff,ld0,encX,p1,p2,w35,bld]
  have off:∀ {v:AV} {Hx:AHeap} {ys:List Int},New encY qak 1 H Hx v ys->True:=fun _=>trivial
  refine LOOP3.intro (fun k E' Hd=>∃ (j:Nat) (lw:AV) (cs:List Int),E'=[(36,.int .i64 (j:Nat)),(35,.agg [.int .i64 x.op,.int .i64 x.a,.int .i64 x.b,.int .i64 x.c]),(6,.ptr Hc.next 0),(15,.int .i64 (i:Nat)),(14,.int .i64 (l.length:Nat)),(13,sv),(4,lw),(3,.int .i64 0),(2,.nils),(0,sv)] /\
   k=4-j/\j<=4/\New encY qak 1 H Hd lw cs/\cs.length=8*i+j/\Hc.next<Hd.next/\Hd.get Hc.next=some (OR (encX x) x8) /\ ¬ OnS lw Hc.next) ?_ ?_
  ·exact ⟨_,_,⟨0,lv,bs,rfl,rfl,by omega,n1,by omega,hlo,g1,fun q=>by have:=Own.lt hn.own _ q;omega⟩,by simp only [↓qh,xe,reduceIte,Nat.reduceEqDiff]⟩
  rintro k E' Hd ⟨j,lw,cs,rfl,rfl,hj,hn2,hcl,hlo2,g2,ho2⟩
  rcases jy j 4 with hj4|hj4
  ·have q2:(j:Int)<4:=by omega
   obtain ⟨z,hz,iz⟩:=idx4 (.int .i64 x.op) (.int .i64 x.a) (.int .i64 x.b) (.int .i64 x.c) j hj4
   obtain ⟨zz,rfl,hzz⟩:∃ zz:Int,z=.int .i64 zz/\(Bts x->0<=zz/\zz<=255):=by
    rcases (show j=0\/j=1\/j=2\/j=3 by omega) with rfl|rfl|rfl|rfl<;>(injection hz with hz;subst hz;refine ⟨_,rfl,fun q=>?_⟩)
    ·exact q.2.2.1
    ·exact q.2.2.2.1
    ·exact q.2.2.2.2.1
    ·exact q.2.2.2.2.2
   simp only [↓qh,xe,reduceIte,Nat.reduceEqDiff,w40,w46,q2,iz,w50]
   by_cases p3:zz<0
   ·simp only [↓qh,xe,reduceIte,Nat.reduceEqDiff,p3]
    exact ⟨hn2.fr,_,_,rfl,fun q _=>by have:=hzz (q x (xg hx));omega⟩
   by_cases p4:255<zz
   ·simp only [↓qh,xe,reduceIte,Nat.reduceEqDiff,p3,p4]
    exact ⟨hn2.fr,_,_,rfl,fun q _=>by have:=hzz (q x (xg hx));omega⟩
   have wj:wrapI .i64 ((j:Int)+1)=((j+1:Nat):Int):=by rw [z6 (by omega) (by omega)];omega
   simp only [↓qh,xe,reduceIte,Nat.reduceEqDiff,p3,p4,w58]
   refine hn2.app3 (bytes:=1) (a:=wrapI .u8 zz) rfl rfl rfl rfl (by decide) (by omega) (by omega) fun v' H2 hv' hf hfr=>?_
   simp only [↓qh,xe,reduceIte,Nat.reduceEqDiff,w59,wj]
   refine ⟨_,_,⟨j+1,v',cs ++ [wrapI .u8 zz],rfl,rfl,by omega,hv',by rw [qd,hcl];rfl,qg hlo2 hf.next,by rw [hf.keep _ hlo2 ho2];exact g2,fun q=>(hfr _ q).elim ho2 fun q=>by omega⟩,by simp only [↓qh,xe,reduceIte,Nat.reduceEqDiff],by omega⟩
  ·have q2:¬ (j:Int)<4:=by omega
   have ld2:∀ o,Op.load1 [.ptr Hc.next o] Hd=(encX x)[o]?:=fun o=>qbo (z0 g2) o
   obtain ⟨y,hy⟩:∃ y:Int,wrapI .u32 (wrapI .i32 x.imm)=y:=⟨_,rfl⟩
   have sh:∀ n:Int,(n=24\/n=16\/n=8) -> ∃ z,Op.bin .shr [.int .u32 y,.int .u64 n]=some (.int .u32 z):=fun n hn=>by
    rcases hn with rfl|rfl|rfl<;>exact ⟨_,rfl⟩
   obtain ⟨z1,s1⟩:=sh 24 (.inl rfl)
   obtain ⟨z2,s2⟩:=sh 16 (.inr (.inl rfl))
   obtain ⟨z3,s3⟩:=sh 8 (.inr (.inr rfl))
   have bs4:∀ a b c d:Int,Op.buildSlice qak 4 [.int .u8 0] [(0,1),(1,1),(2,1),(3,1)] [.int .u8 a,.int .u8 b,.int .u8 c,.int .u8 d]=some (OR [.int .u8 a,.int .u8 b,.int .u8 c,.int .u8 d] qak,Op.sliceTo 4 4):=fun _ _ _ _=>rfl
   simp only [↓qh,xe,reduceIte,Nat.reduceEqDiff,w40,w46,q2,reduceCtorEq,w60,ld2,encX,hy,s1,s2,s3,bs4]
   obtain ⟨H2,e2⟩:∃ X,X=Hd.alloc (OR [.int .u8 (wrapI .u8 z1),.int .u8 (wrapI .u8 z2),.int .u8 (wrapI .u8 z3),.int .u8 (wrapI .u8 y)] qak):=⟨_,rfl⟩
   have f2:Fr Em Hd H2:=by rw [e2];exact (Fr.refl Hd).alloc _
   have hsl:SlT encY 1 H2 (Op.sliceTo 4 4 Hd.next) [wrapI .u8 z1,wrapI .u8 z2,wrapI .u8 z3,wrapI .u8 y]:=by
    refine ⟨rfl,rfl,qe _,.inr ⟨by rw [e2,x7];omega,_,z0 (by rw [e2];exact xq ..),rfl⟩⟩
   rw [<-e2]
   have wi:wrapI .i64 ((i:Int)+1)=((i+1:Nat):Int):=by rw [z6 (by omega) (by omega)];omega
   refine BI2.to3 (m:=true) ((hn2.em f2).appS (bytes:=1) hsl (fun _=>rfl) (by decide) (by simp;omega) (by simp;omega) fun v' H3 hv' hf hfr=>?_)
   simp only [↓qh,xe,reduceIte,Nat.reduceEqDiff,w63,wi]
   exact ⟨_,_,⟨i+1,v',_,rfl,rfl,by omega,hv',by rw [qd,hcl];simp;omega⟩,by simp only [↓qh,xe,reduceIte,Nat.reduceEqDiff],by omega⟩
 ·have q1:¬ (i:Int)<(l.length:Nat):=by omega
  have hie:i=l.length:=by omega
  simp only [↓qh,xe,reduceIte,Nat.reduceEqDiff,w17,q1,reduceCtorEq,w64]
  exact ⟨hn.fr,_,_,rfl,fun _ _=>⟨rfl,by rw [hn.len,hbl,hie]⟩⟩
end Go.Am
namespace Go.Am
open Lang Go.Proofs
variable {M:Mac} [MK M]
theorem bts_of {x:Ins} {n:Nat} {s:Prop} (hs:s) (h:x.good s n) (hn:n<=1024):Bts x:=by
 obtain ⟨h1,h2⟩:=h.imm hs
 exact ⟨h1,by omega,h.op,h.a,h.b,h.c⟩
theorem qqv {H:AHeap} {tv:AV} {t:List Nd} (hal:∀ H1,Fr Em H H1->vm M qko [] H1 fun v H'=>v=.bool true/\H'=H1) (h:NdI H tv t) (ht:t.length<=140737488355328) (f:Frm) :
 vm M qax [tv,frV f] H fun v' _=>v'=.bool true:=by
 refine ql0 ?_
 obtain ⟨w0,w4,w6,w14,w16,w31,w21,w54,w36,w27,w42,w30,w53⟩:=ql1 M ⟨none,qax⟩
 obtain ⟨H1,e1⟩:∃ X,X=H.alloc (OR [.int .i64 f.vars,.int .i64 f.base,.int .i64 f.many] qb1):=⟨_,rfl⟩
 have f1:Fr Em H H1:=by rw [e1];exact (Fr.refl H).alloc _
 have n1:H1.next=H.next+1:=by rw [e1,x7]
 have g1:H1.get H.next=some (OR [.int .i64 f.vars,.int .i64 f.base,.int .i64 f.many] qb1):=by rw [e1,xq]
 have h1:=h.em f1
 simp only [↓qh,xe,reduceIte,Nat.reduceEqDiff,w0,qa3,<-e1]
 refine C3.q (hal H1 f1) fun va Ha ⟨hva,hha⟩=>?_
 subst hva;subst hha
 have ldf:Op.loadN 3 [.ptr H.next 0] Ha=some (frV f):=by rw [qlb (z0 g1) (by simp)];rfl
 simp only [↓qh,xe,reduceIte,Nat.reduceEqDiff,w4,ldf]
 refine C3.q (qsh (M:=M) h1 f) fun vc H2 ⟨f2,hc⟩=>?_
 obtain ⟨lv,ee,hvc⟩:∃ lv ee,vc=.tuple [lv,.int .i64 ee]:=by
  rcases hc with ⟨_,q⟩|⟨p,_,_,_,_,_,⟨_,q⟩|⟨_,lv,q,_⟩⟩
  ·exact ⟨_,_,q⟩
  ·exact ⟨_,_,q⟩
  ·exact ⟨_,_,q⟩
 have hle:∀ {a:AV} {b:Int},vc=.tuple [a,.int .i64 b]->lv=a/\ee=b:=by
  intro a b q
  rw [hvc] at q
  simp only [AV.tuple.injEq,qp,AV.int.injEq,qe4,kj] at q
  exact q
 rw [hvc]
 simp only [↓qh,xe,reduceIte,Nat.reduceEqDiff,x20,x21,w6]
 refine C3.q (qs4 (M:=M) (h1.em f2).nd ht) fun vg H3 ⟨⟨gq,hg⟩,hh⟩=>?_
 subst hg;subst hh
 cases gq with
 | true=>simp only [↓qh,xe,reduceIte,Nat.reduceEqDiff]
 | false =>
 by_cases he:ee=0
 ·subst he
  obtain ⟨p,hp,ho,hz,hfr,hd,hlc,hnw⟩:∃ p:Ls,t=p.encL 0/\p.ok/\p.sz+1<=2000/\FrOk f/\(p.code f).d=false/\(p.code f).l.length<=1024/\New encX x8 5 Ha H3 lv (p.code f).l:=by
   rcases hc with ⟨_,q⟩|⟨p,a1,a2,a3,_,a4,⟨_,q⟩|⟨⟨b1,b2⟩,lv',q,c⟩⟩
   ·exact absurd (hle q).2 (by decide)
   ·exact absurd (hle q).2 (by decide)
   ·obtain ⟨rfl,_⟩:=hle q;exact ⟨p,a1,a2,a3,a4,b1,b2,c⟩
  have hgood:CW.good (∀ x ∈ p.encL 0,x.n<2147483648) (p.code f):=Ls.code_good ho hfr.1
  obtain ⟨cd,hcd⟩:∃ cd,cd=p.code f:=⟨_,rfl⟩
  rw [<-hcd] at hnw hlc hgood
  have h3:=h1.em f2
  have hln:=h3.nd.len
  have hlen:t.length=p.sz+1:=by rw [hp,Ls.lenL]
  simp only [↓qh,xe,reduceIte,Nat.reduceEqDiff,w14,w16]
  refine LOOP3.intro (fun k E' Hc=>∃ (i:Nat) (big:Bool),E'=[(9,.int .i64 (i:Nat)),(8,.bool big),(6,lv),(5,.bool true),(0,tv)]/\k=t.length-i/\i<=t.length/\Hc=H3/\(big=false -> ∀ m x,m<i->t[m]? = some x->x.n<2147483648)) ?_ ?_
  ·exact ⟨_,_,⟨0,false,rfl,rfl,by omega,rfl,fun _ m x hm=>by omega⟩,by simp only [↓qh,xe,reduceIte,Nat.reduceEqDiff]⟩
  rintro k E' Hc ⟨i,big,rfl,rfl,hi,rfl,hsm⟩
  rcases jy i t.length with hlt|hge
  ·have q1:(i:Int)<(t.length:Nat):=by omega
   obtain ⟨x,hx⟩:∃ x,t[i]? = some x:=⟨t[i],by simp [hlt]⟩
   obtain ⟨ka,_,_,i1,_,_,l1,_⟩:=h3.nd.get hx
   have wi:wrapI .i64 ((i:Int)+1)=((i+1:Nat):Int):=by rw [z6 (by omega) (by omega)];omega
   have next:∀ b,(b=false->big=false/\x.n<2147483648) -> ∀ {E:Env},SUB [(9,.int .i64 ((i+1:Nat):Int)),(8,.bool b),(6,lv),(5,.bool true),(0,tv)] E -> ∃ m E',(∃ (i':Nat) (big':Bool),E'=[(9,.int .i64 (i':Nat)),(8,.bool big'),(6,lv),(5,.bool true),(0,tv)]/\m=t.length-i'/\i'<=t.length/\(big'=false -> ∀ m x,m<i'->t[m]? = some x->x.n<2147483648))/\SUB E' E/\m<t.length-i:=fun b hb E hE =>
    ⟨_,_,⟨i+1,b,rfl,rfl,by omega,fun q m y hm hy=>by
     rcases jy m i with w|w
     ·exact hsm (hb q).1 m y w hy
     ·rw [show m=i by omega,hx] at hy;injection hy with hy;rw [<-hy];exact (hb q).2⟩,hE,by omega⟩
   cases big with
   | true =>
    simp only [↓qh,xe,reduceIte,Nat.reduceEqDiff,w21,hln,q1,w27,w30,wi]
    refine next true (fun q=>by cases q) ?_;simp only [↓qh,xe,reduceIte,Nat.reduceEqDiff]
   | false =>
    by_cases hb:(2147483648:Int)<=x.n
    ·simp only [↓qh,xe,reduceIte,Nat.reduceEqDiff,w21,hln,q1,w27,i1,l1,hb,w30,wi]
     refine next true (fun q=>by cases q) ?_;simp only [↓qh,xe,reduceIte,Nat.reduceEqDiff]
    ·simp only [↓qh,xe,reduceIte,Nat.reduceEqDiff,w21,hln,q1,w27,i1,l1,hb,w30,wi]
     refine next false (fun q=>⟨rfl,by omega⟩) ?_;simp only [↓qh,xe,reduceIte,Nat.reduceEqDiff]
  ·have q1:¬ (i:Int)<(t.length:Nat):=by omega
   have hall:big=false -> ∀ x ∈ p.encL 0,x.n<2147483648:=fun q x hx=>by
    rw [<-hp] at hx
    obtain ⟨m,hm⟩:=vj.1 hx
    exact hsm q m x (by have:=(qr.1 hm).1;omega) hm
   have hll:=hnw.sl.len
   simp only [↓qh,xe,reduceIte,Nat.reduceEqDiff,w21,hln,q1,reduceCtorEq,w31]
   refine LOOP3.intro (fun k E' Hd=>∃ (j:Nat),E'=[(10,.int .i64 (j:Nat)),(8,.bool big),(6,lv),(5,.bool true)]/\k=cd.l.length-j/\j<=cd.l.length/\Hd=Hc) ?_ ?_
   ·exact ⟨_,_,⟨0,rfl,rfl,by omega,rfl⟩,by simp only [↓qh,xe,reduceIte,Nat.reduceEqDiff]⟩
   rintro k E' Hd ⟨j,rfl,rfl,hj,rfl⟩
   rcases jy j cd.l.length with hlj|hgj
   ·have q2:(j:Int)<(cd.l.length:Nat):=by omega
    obtain ⟨x,hx⟩:∃ x,cd.l[j]? = some x:=⟨cd.l[j],by simp [hlj]⟩
    have ix:=hnw.sl.idx hx rfl .i64 (z:=(j:Int))
    have ld0:Op.load1 [.ptr (slB lv) (slO 5 lv j)] Hd=some (.int .i64 x.op):=hnw.sl.load0 qnj hx (by decide)
    have ld4:Op.load1 [.ptr (slB lv) (slO 5 lv j+4)] Hd=some (.int .i64 x.imm):=hnw.sl.load1 qnj hx (j:=4) (by decide)
    have gx:=hgood x (xg hx)
    have wj:wrapI .i64 ((j:Int)+1)=((j+1:Nat):Int):=by rw [z6 (by omega) (by omega)];omega
    have nx:∀ {E},SUB [(10,.int .i64 ((j+1:Nat):Int)),(8,.bool big),(6,lv),(5,.bool true)] E -> ∃ m E',(∃ j',E'=[(10,.int .i64 ((j':Nat):Int)),(8,.bool big),(6,lv),(5,.bool true)]/\m=cd.l.length-j'/\j'<=cd.l.length)/\SUB E' E/\m<cd.l.length-j:=fun q=>⟨_,_,⟨j+1,rfl,rfl,by omega⟩,q,by omega⟩
    by_cases p1:x.op=13
    ·have gg:=gx.goes (by omega) (by omega)
     have g1:¬ x.imm<0:=by omega
     have g2:¬ ((cd.l.length:Nat):Int)<x.imm:=by omega
     simp only [↓qh,xe,reduceIte,Nat.reduceEqDiff,w36,hll,q2,w42,ix,ld0,ld4,yp p1,g1,g2,w53,wj]
     refine nx ?_;simp only [↓qh,xe,reduceIte,Nat.reduceEqDiff]
    by_cases p2:x.op=14
    ·have gg:=gx.goes (by omega) (by omega)
     have g1:¬ x.imm<0:=by omega
     have g2:¬ ((cd.l.length:Nat):Int)<x.imm:=by omega
     simp only [↓qh,xe,reduceIte,Nat.reduceEqDiff,w36,hll,q2,w42,ix,ld0,ld4,p1,yp p2,g1,g2,w53,wj]
     refine nx ?_;simp only [↓qh,xe,reduceIte,Nat.reduceEqDiff]
    by_cases p3:x.op=15
    ·have gg:=gx.goes (by omega) (by omega)
     have g1:¬ x.imm<0:=by omega
     have g2:¬ ((cd.l.length:Nat):Int)<x.imm:=by omega
     simp only [↓qh,xe,reduceIte,Nat.reduceEqDiff,w36,hll,q2,w42,ix,ld0,ld4,p1,p2,yp p3,g1,g2,w53,wj]
     refine nx ?_;simp only [↓qh,xe,reduceIte,Nat.reduceEqDiff]
    by_cases p4:x.op=16
    ·have gg:=gx.goes (by omega) (by omega)
     have g1:¬ x.imm<0:=by omega
     have g2:¬ ((cd.l.length:Nat):Int)<x.imm:=by omega
     simp only [↓qh,xe,reduceIte,Nat.reduceEqDiff,w36,hll,q2,w42,ix,ld0,ld4,p1,p2,p3,yp p4,g1,g2,w53,wj]
     refine nx ?_;simp only [↓qh,xe,reduceIte,Nat.reduceEqDiff]
    simp only [↓qh,xe,reduceIte,Nat.reduceEqDiff,w36,hll,q2,w42,ix,ld0,ld4,p1,p2,p3,p4,w53,wj]
    refine nx ?_;simp only [↓qh,xe,reduceIte,Nat.reduceEqDiff]
   ·have q2:¬ (j:Int)<(cd.l.length:Nat):=by omega
    simp only [↓qh,xe,reduceIte,Nat.reduceEqDiff,w36,hll,q2,reduceCtorEq,w54]
    refine C3.q (qu1 (M:=M) hnw.sl (by omega)) fun vb H5 ⟨f5,bv,eb,hvb,hbb⟩=>?_
    subst hvb
    have w8:wrapI .i64 (8*((cd.l.length:Nat):Int))=((8*cd.l.length:Nat):Int):=by rw [z6 (by omega) (by omega)];omega
    cases big with
    | true=>simp only [↓qh,xe,reduceIte,Nat.reduceEqDiff,x20,x21]
    | false =>
     obtain ⟨rfl,hbl⟩:=hbb (fun x hx=>bts_of (hall rfl) (hgood x hx) hlc) hlc
     have t0:=yp (show (0:Int)=0 from rfl)
     have t1:=yp (show ((8*cd.l.length:Nat):Int)=((8*cd.l.length:Nat):Int) from rfl)
     simp only [↓qh,xe,reduceIte,Nat.reduceEqDiff,x20,x21,t0,hbl,hll,w8,t1]
 ·simp only [↓qh,xe,reduceIte,Nat.reduceEqDiff,he]
end Go.Am
