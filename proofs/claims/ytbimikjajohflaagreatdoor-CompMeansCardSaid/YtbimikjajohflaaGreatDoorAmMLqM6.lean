/- LqM6: CpZ GrM. -/
import Derived.Test.YtbimikjajohflaaGreatDoorAmMLqM5
import Derived.Test.YtbimikjajohflaaGreatDoorAmMLqM4
import Derived.Test.YtbimikjajohflaaGreatDoorAmMCodeMQ
import Derived.Test.YtbimikjajohflaaGreatDoorAmMLqM0
set_option linter.unusedVariables false
set_option linter.unusedSimpArgs false
set_option linter.unusedSectionVars false
set_option maxRecDepth 100000
open Nat (reduceEqDiff)
namespace Go.Am
open Lang Go.Proofs
variable {M:aO} [MK M]
theorem q6s {H:AHeap} {tv:AV} {t:List Nd} (h:uW H tv t):ye M GB [tv] H λ v H'=>Fr Em H H' /\ ∃ b,v=.bool b/\(b=true ↔ EB t):=by
 refine q4m ?_;simp only [↓qh,qq,reduceIte,reduceEqDiff,q4n];refine C3.q (q8n (M:=M) h) λ v H' ⟨f,s,e,hv,he⟩=>?_;subst hv
 by_cases h0:e=0
 ·simp only [↓qh,qq,reduceIte,reduceEqDiff,EN,Ed,j0 h0];exact ⟨f,true,rfl,by rw [<-he];simp [h0]⟩
 ·simp only [↓qh,qq,reduceIte,reduceEqDiff,EN,Ed,h0];exact ⟨f,false,rfl,by rw [<-he];simp [h0]⟩
def zR (f:cF):Prop:=f.ok/\(f.many=0\/f.vars+8<=f.base\/f.base+f.many<=f.vars)
theorem xc2 {H:AHeap} (f:cF):ye M Dq [.agg [.int .i64 f.vars,.int .i64 f.base,.int .i64 f.many]] H λ v H'=>Fr Em H H' /\ ∃ b,v=.bool b/\(b=true ↔ zR f):=by
 refine qxe ?_;obtain ⟨H1,e1⟩:∃ X,X=H.alloc (OR [.int .i64 f.vars,.int .i64 f.base,.int .i64 f.many] vN):=⟨_,rfl⟩
 have f1:Fr Em H H1:=by rw [e1];exact (Fr.refl H).alloc _
 have ld:∀ o,Op.aa [.ptr H.next o] H1=[.int .i64 f.vars,.int .i64 f.base,.int .i64 f.many][o]?:=λ o=>j8 (qy (by rw [e1,qp])) o;obtain ⟨w0,w2,w10⟩:=qxf M ⟨none,Dq⟩
 by_cases h1:f.vars<0
 ·simp only [↓qh,qq,reduceIte,reduceEqDiff,w0,w2,z7,<-e1,ld,h1];exact ⟨f1,false,rfl,⟨λ w=>(by cases w),λ w=>by have:=w.1.1;omega⟩⟩
 by_cases h2:4096<f.vars
 ·simp only [↓qh,qq,reduceIte,reduceEqDiff,w0,w2,z7,<-e1,ld,h1,h2];exact ⟨f1,false,rfl,⟨λ w=>(by cases w),λ w=>by have:=w.1.2.1;omega⟩⟩
 by_cases h3:f.base<0
 ·simp only [↓qh,qq,reduceIte,reduceEqDiff,w0,w2,z7,<-e1,ld,h1,h2,h3];exact ⟨f1,false,rfl,⟨λ w=>(by cases w),λ w=>by have:=w.1.2.2.1;omega⟩⟩
 by_cases h4:4096<f.base
 ·simp only [↓qh,qq,reduceIte,reduceEqDiff,w0,w2,z7,<-e1,ld,h1,h2,h3,h4];exact ⟨f1,false,rfl,⟨λ w=>(by cases w),λ w=>by have:=w.1.2.2.2.1;omega⟩⟩
 by_cases h5:f.many<0
 ·simp only [↓qh,qq,reduceIte,reduceEqDiff,w0,w2,z7,<-e1,ld,h1,h2,h3,h4,h5];exact ⟨f1,false,rfl,⟨λ w=>(by cases w),λ w=>by have:=w.1.2.2.2.2.1;omega⟩⟩
 by_cases h6:4096<f.many
 ·simp only [↓qh,qq,reduceIte,reduceEqDiff,w0,w2,z7,<-e1,ld,h1,h2,h3,h4,h5,h6];exact ⟨f1,false,rfl,⟨λ w=>(by cases w),λ w=>by have:=w.1.2.2.2.2.2;omega⟩⟩
 have hok:f.ok:=⟨by omega,by omega,by omega,by omega,by omega,by omega⟩
 have wa:ae .i64 (f.vars+8)=f.vars+8:=zk (by omega) (by omega);have wb:ae .i64 (f.base+f.many)=f.base+f.many:=zk (by omega) (by omega)
 by_cases h7:f.many=0
 ·simp only [↓qh,qq,reduceIte,reduceEqDiff,w0,w2,w10,z7,<-e1,ld,h1,h2,h3,h4,h5,h6,j0 h7];exact ⟨f1,true,rfl,⟨λ _=>⟨hok,.inl h7⟩,λ _=>rfl⟩⟩
 by_cases h8:f.vars+8<=f.base
 ·simp only [↓qh,qq,reduceIte,reduceEqDiff,w0,w2,w10,z7,<-e1,ld,h1,h2,h3,h4,h5,h6,h7,wa,h8];exact ⟨f1,true,rfl,⟨λ _=>⟨hok,.inr (.inl h8)⟩,λ _=>rfl⟩⟩
 by_cases h9:f.base+f.many<=f.vars
 ·simp only [↓qh,qq,reduceIte,reduceEqDiff,w0,w2,w10,z7,<-e1,ld,h1,h2,h3,h4,h5,h6,h7,wa,h8,wb,h9];exact ⟨f1,true,rfl,⟨λ _=>⟨hok,.inr (.inr h9)⟩,λ _=>rfl⟩⟩
 ·simp only [↓qh,qq,reduceIte,reduceEqDiff,w0,w2,w10,z7,<-e1,ld,h1,h2,h3,h4,h5,h6,h7,wa,h8,wb,h9];exact ⟨f1,false,rfl,⟨λ w=>(by cases w),λ w=>by rcases w.2 with q|q|q<;>omega⟩⟩
abbrev Av (f:cF):AV:=.agg [.int .i64 f.vars,.int .i64 f.base,.int .i64 f.many]
def Lang.Ls.code (p:Ls) (f:cF):CW:=p.cmp f ⟨[],false⟩
def Cu (H:AHeap) (t:List Nd) (f:cF) (v:AV) (H':AHeap):Prop:=Fr Em H H'/\(¬ (EB t/\zR f)/\v=.tuple [.nils,.int .i64 2] \/
 ∃ p:Ls,t=p.cu 0/\p.ok/\p.sz+1<=2000/\EB t/\zR f/\(((p.code f).d=true\/1024<(p.code f).l.length)/\v=.tuple [.nils,.int .i64 210] \/
  ((p.code f).d=false/\(p.code f).l.length<=1024) /\ ∃ lv,v=.tuple [lv,.int .i64 0]/\iN nh z6 5 H H' lv (p.code f).l))
theorem q38 {H:AHeap} {tv:AV} {t:List Nd} (h:uW H tv t) (f:cF):ye M EK [tv,Av f] H (Cu H t f):=by
 refine q0g ?_;obtain ⟨w0,w2,w10,w14,w22⟩:=q0h M ⟨none,EK⟩;obtain ⟨H1,e1⟩:∃ X,X=H.alloc (OR [.int .i64 f.vars,.int .i64 f.base,.int .i64 f.many] vN):=⟨_,rfl⟩
 have f1:Fr Em H H1:=by rw [e1];exact (Fr.refl H).alloc _
 have n1:H1.next=H.next+1:=by rw [e1,xk]
 have g1:H1.get H.next=some (OR [.int .i64 f.vars,.int .i64 f.base,.int .i64 f.many] vN):=by rw [e1,qp]
 have ldf:∀ {Hx:AHeap},Fr Em H1 Hx->Op.au 3 [.ptr H.next 0] Hx=some (Av f):=λ fx=>by rw [mg (qy (by rw [fx.aj _ (by omega) id];exact g1)) (by simp)];rfl
 simp only [↓qh,qq,reduceIte,reduceEqDiff,w0,z7,<-e1,w2];refine C3.q (q6s (M:=M) (h.em f1)) λ v1 H2 ⟨f2,b,hv1,hb⟩=>?_;subst hv1;have f02:=f1.trans f2 λ _ q=>q.elim;cases b with
 | false=>simp only [↓qh,qq,reduceIte,reduceEqDiff];exact ⟨f02,.inl ⟨λ q=>(by have:=hb.2 q.1;cases this),rfl⟩⟩
 | true =>
  have hok:=hb.1 rfl;simp only [↓qh,qq,reduceIte,reduceEqDiff,ldf f2];refine C3.q (xc2 (M:=M) f) λ v2 H3 ⟨f3,b2,hv2,hb2⟩=>?_;subst hv2;have f13:=f2.trans f3 λ _ q=>q.elim;have f03:=f1.trans f13 λ _ q=>q.elim;cases b2 with
  | false=>simp only [↓qh,qq,reduceIte,reduceEqDiff];exact ⟨f03,.inl ⟨λ q=>(by have:=hb2.2 q.2;cases this),rfl⟩⟩
  | true =>
   have hfr:=hb2.1 rfl;have hok':=hok;obtain ⟨p,hp,ho,hz,_⟩:=hok';have ot:tv.cells=[tv]:=by obtain ⟨zs,_,q,_⟩:=h.nd.ex;have:=q.one;cases tv<;>first|rfl|cases this
   have eb:Op.build [.nils,.int .i64 0,.int .i64 0,.int .i64 0,.nils,.bool false] [(0,1),(1,3)] [tv,Av f]=some (.agg [tv,.int .i64 f.vars,.int .i64 f.base,.int .i64 f.many,.nils,.bool false]):=by simp only [DP,Db,CI,ot];rfl
   obtain ⟨H4,e4⟩:∃ X,X=H3.alloc (OR [tv,.int .i64 f.vars,.int .i64 f.base,.int .i64 f.many,.nils,.bool false] IC):=⟨_,rfl⟩
   have f4:Fr Em H3 H4:=by rw [e4];exact (Fr.refl H3).alloc _
   have n4:H4.next=H3.next+1:=by rw [e4,xk]
   have g4:H4.get H3.next=some (OR [tv,.int .i64 f.vars,.int .i64 f.base,.int .i64 f.many,.nils,.bool false] IC):=by rw [e4,qp]
   have f04:=f03.trans f4 λ _ q=>q.elim;have hC:iP H H4 H3.next tv .nils f ⟨[],false⟩:=⟨g4,by have:=f03.next;omega,by omega,⟨Own.nil _ _ _,f04,λ b hb=>(hb.1 rfl).elim⟩,λ q=>q.1 rfl⟩
   have hlen:t.length=p.sz+1:=by rw [hp,Ls.bW]
   have wl:ae .i64 (((t.length:Nat):Int)-1)=((p.sz:Nat):Int):=by rw [zk (by omega) (by omega)];omega
   have hln:=h.nd.len;have hgo:=Hn (M:=M) hfr.1 h.nd (by omega) p (CJ hfr.1 h.nd (by omega) p) H4 0 .nils ⟨[],false⟩ (by rw [hp];exact bj.all _) ho (by simp only [qw];omega) hC;rw [x6] at hgo;simp only [↓qh,qq,reduceIte,reduceEqDiff,w10,ldf f13,eb,z7,<-e4,hln,wl];refine C3.q hgo λ v5 H5 ⟨lv,h5,_⟩=>?_;have hres:∀ {v:AV},(((p.code f).d=true\/1024<(p.code f).l.length)/\v=.tuple [.nils,.int .i64 210]\/((p.code f).d=false/\(p.code f).l.length<=1024) /\ ∃ lv,v=.tuple [lv,.int .i64 0]/\iN nh z6 5 H H5 lv (p.code f).l)->Cu H t f v H5 :=
    λ q=>⟨h5.fr,.inr ⟨p,hp,ho,hz,hok,hfr,q⟩⟩
   have h5:iP H H5 H3.next tv lv f (p.code f):=h5
   have l5:Op.aa [.ptr H3.next 5] H5=some (.bool (p.code f).d):=h5.ld 5;have l4:Op.aa [.ptr H3.next 4] H5=some lv:=h5.ld 4;cases hd:(p.code f).d with
   | true =>
    rw [hd] at l5;simp only [↓qh,qq,reduceIte,reduceEqDiff,w14,qi,l5];exact hres (.inl ⟨.inl hd,rfl⟩)
   | false =>
    rw [hd] at l5
    by_cases hl:(1024:Int)<((p.code f).l.length:Nat)
    ·simp only [↓qh,qq,reduceIte,reduceEqDiff,w14,qi,l5,l4,h5.len,hl];exact hres (.inl ⟨.inr (by omega),rfl⟩)
    ·simp only [↓qh,qq,reduceIte,reduceEqDiff,w14,w22,qi,l5,l4,h5.len,hl];exact hres (.inr ⟨⟨hd,by omega⟩,lv,rfl,h5.nw⟩)
end Go.Am
namespace Go.Am
open Lang Go.Proofs
variable {M:aO} [MK M]
theorem q4y {H:AHeap} {tv:AV} {t:List Nd} (hn:eT H tv t) (hl:t.length<=140737488355328):ye M Fm [tv] H λ v H'=>(∃ q,v=.bool q)/\H'=H:=by
 refine q22 ?_;obtain ⟨w0,w4,w19,w9,w15,w18⟩:=q23 M ⟨none,Fm⟩;simp only [↓qh,qq,reduceIte,reduceEqDiff,w0,w4];refine bS.intro (λ k E' H'=>∃ j n,H'=H/\E'=[(4,.int .i64 (j:Nat)),(3,.int .i64 n),(0,tv)]/\k=t.length-j/\j<=t.length) ?_ ?_
 ·exact ⟨_,_,⟨0,0,rfl,rfl,rfl,by omega⟩,by simp only [↓qh,qq,reduceIte,reduceEqDiff]⟩
 rintro k E' H' ⟨j,n,rfl,rfl,rfl,hj⟩;rcases kg j t.length with aT|hge
 ·have q1:(j:Int)<(t.length:Nat):=by omega
  obtain ⟨x,hx⟩:∃ x,t[j]? = some x:=⟨t[j],by simp [aT]⟩
  obtain ⟨a,ha,_,a1,_,a3,a4,a5⟩:=hn.get hx;have wj:ae .i64 ((j:Int)+1)=((j+1:Nat):Int):=by rw [zk (by omega) (by omega)];omega
  simp only [↓qh,qq,reduceIte,reduceEqDiff,w9,w15,w18,hn.len,q1,a1,a5,ha.len,wj];exact ⟨_,_,⟨j+1,_,rfl,rfl,by omega⟩,by simp only [↓qh,qq,reduceIte,reduceEqDiff];rfl,by omega⟩
 ·have q1:¬ (j:Int)<(t.length:Nat):=by omega
  simp only [↓qh,qq,reduceIte,reduceEqDiff,w9,w19,hn.len,q1];exact ⟨_,rfl⟩
end Go.Am
