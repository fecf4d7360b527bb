/- BuK4: BuI BuJ BuK. -/
import Derived.Test.YtiibohocdbaekaaGreatAmCBuK3
set_option linter.unusedVariables false
set_option linter.unusedSimpArgs false
namespace Go.Am
structure Bu where
 m:List L8
 l:List De
 ns:List No
 fl:List Mg
def No.ot (n:No) (l:Int):Int:=if n.out.line=l then n.out.k else 0
def No.bk (n:No) (l:Int):Nat:=if l ∈ n.aq then 1 else 0
namespace Bu
def s (b:Bu) (l c:Int):Int:=match b.ns[c.toNat]? with
 | none=>0
 | some n=>n.st l
def ot (b:Bu) (l c:Int):Int:=match b.ns[c.toNat]? with
 | none=>0
 | some n=>n.ot l
def bk (b:Bu) (l c:Int):Nat:=match b.ns[c.toNat]? with
 | none=>0
 | some n=>n.bk l
end Bu
structure MW (m:Mg) (N L:Int):Prop where
 k:1<=m.k/\m.k<=7\/11<=m.k/\m.k<=16
 c:0<=m.core/\m.core<N
 l:0<=m.line/\m.line<L
structure NW (n:No) (c L:Int):Prop where
 ni:n.NI
 core:n.core=c
 lines:n.lines=L
 out:n.out.k=0\/(n.out.k=1\/n.out.k=2)/\0<=n.out.line/\n.out.line<L/\n.out=n.msg n.out.k n.out.line
 bw:∀ l ∈ n.aq,0<=l/\l<L
structure BuI (b:Bu) (V:Int->L8):Prop where
 N4:b.ns.length<=4
 ml:b.m.length=b.l.length
 nw:∀ (c:Nat) n,b.ns[c]? = some n->NW n c b.l.length
 mw:∀ m ∈ b.fl,MW m b.ns.length b.l.length
 es:∀ (i:Nat) x w,b.l[i]? = some x->b.m[i]? = some w->ES x w b.ns.length i (V i) b.fl (b.s i) (b.ot i) (b.bk i)
 bs:∀ (c:Nat) n,b.ns[c]? = some n -> ∀ l,n.st l ≠ 0->(n.vw l).base=V l
theorem q1m {f:List Mg} {c l k:Int} (h:∀ m ∈ f,¬ (m.k=k/\m.core=c/\m.line=l)):gQ f c l k=0:=by
 unfold gQ;rw [List.countP_eq_zero];intro m hm;simpa using h m hm
theorem BD {f:List Mg} {m:Mg} (h:m ∈ f):0<gQ f m.core m.line m.k:=by
 unfold gQ;rw [List.countP_pos_iff];exact ⟨m,h,by simp⟩
theorem BK {f o:List Mg} {c l:Int} (h:∀ m ∈ o,¬ (m.core=c/\m.line=l)):qs (f++o) c l=qs f c l:=by
 have:∀ k,gQ (f++o) c l k=gQ f c l k:=λ k=>by rw [Ip,q1m (λ m hm q=>h m hm q.2),qh]
 unfold qs;simp only [this]
theorem Mq {A B:List Mg} {m:Mg} {c l:Int} (h:¬ (m.core=c/\m.line=l)):qs (A++m::B) c l=qs (A++B) c l:=by
 rw [IF];unfold sZ;rw [qg h];unfold Qs.add;simp
theorem El {A B:List Mg} {m:Mg} {c l:Int} (h:m.core=c/\m.line=l):qs (A++m::B) c l=(qs (A++B) c l).add m.k 1:=by
 rw [IF];unfold sZ;rw [ql h]
theorem FP {f:List Mg} {m:Mg} {c l:Int} (h:m.core=c/\m.line=l):qs (f ++ [m]) c l=(qs f c l).add m.k 1:=by
 rw [ED];unfold sZ;rw [ql h]
namespace BuI
variable {b:Bu} {V:Int->L8}
theorem cP {n:No} {c:Nat} (hn:b.ns[c]? = some n) (l:Int):b.s l c=n.st l/\b.ot l c=n.ot l/\b.bk l c=n.bk l:=by
 unfold Bu.s Bu.ot Bu.bk;rw [x9,hn];exact ⟨rfl,rfl,rfl⟩
theorem entry (h:BuI b V) {l:Int} (h0:0<=l) (h1:l<b.l.length):∃ x w,b.l[l.toNat]? = some x/\b.m[l.toNat]? = some w/\ES x w b.ns.length l (V l) b.fl (b.s l) (b.ot l) (b.bk l):=by
 have e1:l.toNat<b.l.length:=by omega
 have e2:l.toNat<b.m.length:=by rw [h.ml];exact e1
 have:=h.es l.toNat _ _ (qy e1) (qy e2);rw [Ht h0] at this;exact ⟨_,_,qy e1,qy e2,this⟩
theorem core (h:BuI b V) {c:Int} (h0:0<=c) (h1:c<b.ns.length):∃ n,b.ns[c.toNat]? = some n/\NW n c b.l.length:=by
 have e1:c.toNat<b.ns.length:=by omega
 have:=h.nw c.toNat _ (qy e1);rw [Ht h0] at this;exact ⟨_,qy e1,this⟩
theorem kA {n:No} {c:Nat} (hn:b.ns[c]? = some n):(c:Int)<b.ns.length:=by
 have:=(qe.1 hn).1;omega
theorem pn (h:BuI b V) {c:Nat} {n:No} (hn:b.ns[c]? = some n) {l:Int} (hs:n.st l ≠ 0):0<=l/\l<b.l.length:=by
 have w:=h.nw c n hn;rcases w.ni.ci.u5 l with ⟨q,-⟩|⟨-,a,b1,-⟩
 ·exact absurd q hs
 ·rw [w.lines] at b1;exact ⟨a,b1⟩
theorem alone (h:BuI b V) {c:Nat} {n:No} (hn:b.ns[c]? = some n) {l:Int} (hs:n.st l=2) {x:De} {w:L8} (he:ES x w b.ns.length l (V l) b.fl (b.s l) (b.ot l) (b.bk l)) :
 x.ow=c/\(qs b.fl c l).b5=0/\(∀ (d:Nat) n',b.ns[d]? = some n'->d ≠ c->n'.st l=0) /\ ∀ m ∈ b.fl,m.line=l->m.k ≠ 3/\m.k ≠ 5/\m.k ≠ 14/\m.k ≠ 15:=by
 have hc:=kA hn;have lc:=he.lc c (by omega) hc;have ow:=lc.ow;rw [(cP hn l).1,hs,lT rfl] at ow;have hle:=zU x.ow c;have how:x.ow=c:=vH (by omega);refine ⟨how,by omega,λ d n' hd hne=>?_,λ m hm hl=>?_⟩
 ·have hdl:=kA hd;have ld:=he.lc d (by omega) hdl;have o2:=ld.ow;rw [oe (show x.ow ≠ d by omega)] at o2;have s2:=ld.s2;have sh:=ld.sh;rw [(cP hd l).1] at o2 s2 sh;have n2:n'.st l ≠ 2:=λ q=>by rw [lT q] at o2;omega
  have n1:n'.st l ≠ 1:=λ q=>by
   have z:=sV (d:Int);have os:=he.xi.os (by omega);rcases sh q with w|⟨w,-⟩|w
   ·rw [os] at w;omega
   ·omega
   ·omega
  omega
 ·have hp:=BD hm;obtain ⟨-,⟨m0,m1⟩,-⟩:=h.mw m hm;have ld:=he.lc m.core m0 m1;have o2:=ld.ow;have gr:=ld.gr;have g1:=ld.g1;rw [hl] at hp
  by_cases e:m.core=c
  ·rw [e] at hp o2 gr g1;rw [(cP hn l).1,hs,lT rfl,how,lT rfl] at o2;refine ⟨λ q=>?_,λ q=>?_,λ q=>?_,λ q=>?_⟩<;>rw [q] at hp
   ·have:0<(qs b.fl c l).a3:=hp;omega
   ·have:0<(qs b.fl c l).a5:=hp;omega
   ·have w:0<(qs b.fl c l).b4:=hp;have k1:=g1 w;have hph:x.ph=4:=zl λ w=>by rw [jQ w] at gr;omega
    have:=he.xi.p4 hph k1;omega
   ·have:0<(qs b.fl c l).b5:=hp;omega
  ·rw [how,oe (yt e)] at o2;refine ⟨λ q=>?_,λ q=>?_,λ q=>?_,λ q=>?_⟩<;>rw [q] at hp
   ·have:0<(qs b.fl m.core l).a3:=hp;omega
   ·have:0<(qs b.fl m.core l).a5:=hp;omega
   ·have w:0<(qs b.fl m.core l).b4:=hp;have k1:=g1 w;have hph:x.ph=4:=zl λ w=>by rw [jQ w] at gr;omega
    have:=he.xi.p4 hph k1;omega
   ·have:0<(qs b.fl m.core l).b5:=hp;omega
theorem node (h:BuI b V) {c:Nat} {n n':No} {f o:List Mg} {V':Int->L8} (hn:b.ns[c]? = some n) (hw:NW n' c b.l.length) (hf:∀ m ∈ f,m ∈ b.fl) (hq:∀ d l,d ≠ (c:Int)->qs f d l=qs b.fl d l) (hqc:∀ l,(qs f c l).b5<=(qs b.fl c l).b5)
 (ho:∀ m ∈ o,MW m b.ns.length b.l.length/\m.core=c/\m.k ≠ 15) (hV:∀ l,V' l=V l\/n.st l=2)
 (hlc:∀ l:Int,0<=l->l<b.l.length -> ∀ x w,ES x w b.ns.length l (V l) b.fl (b.s l) (b.ot l) (b.bk l)->LC x c (n'.st l) (n'.ot l) (n'.bk l) (qs (f++o) c l) 0 0)
 (hb:∀ l,n'.st l ≠ 0->(n'.vw l).base=V' l) (hd:∀ m ∈ o,m.k=3\/m.k=5\/m.k=14\/m.k=15->m.d=V' m.line):BuI { b with ns:=b.ns.set c n',fl:=f++o } V':=by
 have hcl:c<b.ns.length:=(qe.1 hn).1;have hset:∀ (d:Nat),(b.ns.set c n')[d]? = if d=c then some n' else b.ns[d]?:=λ d=>by
  by_cases q:d=c
  ·rw [ql q,q,qu hcl]
  ·rw [qg q,qm (yt q)]
 refine ⟨by simp only [qv];exact h.N4,h.ml,λ d y hy=>?_,λ m hm=>?_,λ i x w hx hw2=>?_,λ d y hy l hs=>?_⟩
 ·simp only at hy;rw [hset] at hy;split at hy
  ·rename_i q;injection hy with hy;subst hy;subst q;exact hw
  ·exact h.nw d y hy
 ·simp only [qv];rcases xw.1 hm with q|q
  ·exact h.mw m (hf m q)
  ·exact (ho m q).1
 ·have hx:b.l[i]? = some x:=hx;have hw2:b.m[i]? = some w:=hw2;have e:=h.es i x w hx hw2;have hil:(i:Int)<b.l.length:=by have:=(qe.1 hx).1;omega
  simp only [qv];have hne:∀ d:Int,d ≠ c->0<=d->(Bu.s { b with ns:=b.ns.set c n',fl:=f++o } i d=b.s i d/\Bu.ot { b with ns:=b.ns.set c n',fl:=f++o } i d=b.ot i d/\Bu.bk { b with ns:=b.ns.set c n',fl:=f++o } i d=b.bk i d):=λ d q d0=>by
   have:(b.ns.set c n')[d.toNat]? = b.ns[d.toNat]?:=by rw [hset,qg (by omega)]
   unfold Bu.s Bu.ot Bu.bk;simp only [this,and_self]
  have hon:∀ d:Int,d ≠ c -> ∀ l,qs (f++o) d l=qs b.fl d l:=λ d q l=>by
   rw [BK (λ m hm w=>q (by rw [<-w.1];exact (ho m hm).2.1)),hq d l q]
  have hab:V' i ≠ V i->x.ow=c/\(qs b.fl c i).b5=0 /\ ∀ m ∈ b.fl,m.line=i->m.k ≠ 3/\m.k ≠ 5/\m.k ≠ 14/\m.k ≠ 15:=λ q=>by
   obtain ⟨a1,a2,a3,a4⟩:=h.alone hn ((hV i).resolve_left q) e;exact ⟨a1,a2,a4⟩
  have hb5:(qs (f++o) c i).b5<=(qs b.fl c i).b5:=by
   have:gQ o c i 15=0:=q1m λ m hm q=>(ho m hm).2.2 q.1;have e2:(qs (f++o) c i).b5=(qs f c i).b5:=by show gQ (f++o) c i 15=gQ f c i 15;rw [Ip,this,qh]
   rw [e2];exact hqc i
  refine ⟨e.xi,e.w0,λ d d0 d1=>?_,λ q=>?_,λ m hm hl hk=>?_⟩
  ·by_cases q:d=c
   ·subst q;have e1:(b.ns.set c n')[(c:Int).toNat]? = some n':=by rw [x9,hset,ql rfl]
    have:=hlc i (by omega) hil x w e;unfold Bu.s Bu.ot Bu.bk;simp only [e1];exact this
   ·obtain ⟨s1,s2,s3⟩:=hne d q d0;rw [s1,s2,s3,hon d q];exact e.lc d d0 d1
  ·have q:x.ow = -1\/0<(qs (f++o) x.ow i).b5:=q
   by_cases hv:V' i=V i
   ·rw [hv];refine e.dw ?_;rcases q with q|q
    ·exact .inl q
    ·refine .inr ?_
     by_cases w:x.ow=c
     ·rw [w] at q ⊢;omega
     ·rw [hon _ w] at q;exact q
   ·obtain ⟨a1,a2,a3⟩:=hab hv;rcases q with q|q
    ·omega
    ·rw [a1] at q;omega
  ·have hm:m ∈ f++o:=hm;rcases xw.1 hm with q|q
   ·by_cases hv:V' i=V i
    ·rw [hv];exact e.dm m (hf m q) hl hk
    ·have:=(hab hv).2.2 m (hf m q) hl;omega
   ·rw [hd m q hk,hl]
 ·simp only at hy;rw [hset] at hy;split at hy
  ·injection hy with hy;subst hy;exact hb l hs
  ·rename_i q;rcases hV l with v|v
   ·rw [v];exact h.bs d y hy l hs
   ·exfalso;obtain ⟨r0,r1⟩:=h.pn hy hs;obtain ⟨x,w,-,-,e⟩:=h.entry r0 r1;exact hs ((h.alone hn v e).2.2.1 d y hy q)
end BuI
end Go.Am
namespace Go.Am
open No
def Bu.put (b:Bu) (c:Nat) (r:No × List Mg):Bu:={ b with ns:=b.ns.set c r.1,fl:=b.fl++r.2 }
theorem tf {b:Bu} {c:Nat} {n:No} (hn:b.ns[c]? = some n):b.put c (n,[])=b:=by
 have:b.ns.set c n=b.ns:=by
  apply jp;intro i
  by_cases q:i=c
  ·rw [q,qu (qe.1 hn).1,hn]
  ·rw [qm (yt q)]
 unfold Bu.put;simp only [this,xt]
def oh (V:Int->L8) (live:Bool) (a y:Int) (l:Int):L8:=if live=false/\l=ln a then (V l).put (a.toNat % 8) y else V l
namespace BuI
variable {b:Bu} {V:Int->L8}
theorem q6x {n:No} {l:Int} (h:n.NI) (hl:n.live=false):(n.vw l).w=false:=by
 by_cases q:n.st l=0
 ·rw [IQ h q];rfl
 ·obtain ⟨i,hp,hf,hv,hi,hst,-⟩:=bf h q;rw [hv];exact (h.pl hl i hi (by rw [hst];exact q)).2
theorem quiet (h:BuI b V) {c:Nat} {n n':No} {V':Int->L8} (hn:b.ns[c]? = some n) (hw:n'.NI) (hc:n'.core=n.core) (hl:n'.lines=n.lines) (hs:∀ l,n'.st l=n.st l) (ho:n'.out=n.out) (hk:n'.aq=n.aq) (hV:∀ l,V' l=V l\/n.st l=2)
 (hb:∀ l,n.st l ≠ 0->(n'.vw l).base=V' l):BuI (b.put c (n',[])) V':=by
 have w:=h.nw c n hn;refine h.node hn ⟨hw,hc.trans w.core,hl.trans w.lines,?_,by rw [hk];exact w.bw⟩ (λ m hm=>hm) (λ _ _ _=>rfl) (λ _=>qf _) (λ m hm=>by cases hm) hV (λ l l0 l1 x y e=>?_) (λ l q=>hb l (by rw [<-hs];exact q)) (λ m hm=>by cases hm)
 ·rw [ho];rcases w.out with q|⟨a,b1,d,e⟩
  ·exact .inl q
  ·exact .inr ⟨a,b1,d,by unfold No.msg at e ⊢;rw [hc];exact e⟩
 ·rw [xt];have:=e.lc c (by omega) (kA hn);obtain ⟨a1,a2,a3⟩:=cP hn l;rw [a1,a2,a3] at this;unfold No.ot No.bk;rw [hs,ho,hk];exact this
theorem qU (h:BuI b V) {c:Nat} {n:No} (hn:b.ns[c]? = some n) {k l:Int} (h0:0<=l) (h1:l<b.l.length) (hk:k=1/\n.st l=0\/k=2/\n.st l ≠ 2):BuI (b.put c (n.ask k l)) V:=by
 by_cases q:n.out.k=0/\l ∉ n.aq
 ·rw [Bj q.1 q.2];have w:=h.nw c n hn;have hcl:=kA hn;have hk0:k=1\/k=2:=by omega
  refine h.node (n':={ n with out:=n.msg k l }) (f:=b.fl) (o:=[n.msg k l]) hn ⟨⟨w.ni.ci,w.ni.pl⟩,w.core,w.lines,.inr ⟨hk0,h0,h1,rfl⟩,w.bw⟩ (λ m hm=>hm) (λ _ _ _=>rfl) (λ _=>qf _) (λ m hm=>?_) (λ _=>.inl rfl) (λ i i0 i1 x y e=>?_) (λ i w=>h.bs c n hn i w) (λ m hm=>?_)
  ·rw [xl.1 hm];refine ⟨⟨.inl (by show 1<=k/\k<=7;omega),?_,h0,h1⟩,w.core,by show k ≠ 15;omega⟩;show 0<=n.core/\n.core<_;rw [w.core];omega
  ·have lc:=e.lc c (by omega) hcl;obtain ⟨a1,a2,a3⟩:=cP hn i;rw [a1,a2,a3] at lc;have e0:n.ot i=0:=by unfold No.ot;rw [q.1];split<;>rfl
   rw [e0] at lc
   by_cases w2:l=i
   ·subst w2;rw [FP (m:=n.msg k l) (c:=(c:Int)) (l:=l) ⟨w.core,rfl⟩];have eo:No.ot { n with out:=n.msg k l } l=k:=ql rfl;have eb:n.bk l=0:=qg q.2;rw [eo];exact lc.ask hk eb
   ·rw [BK (λ m hm w3=>by rw [xl.1 hm] at w3;exact w2 w3.2)];have eo:No.ot { n with out:=n.msg k l } i=0:=qg w2;rw [eo];exact lc
  ·intro w3;rw [xl.1 hm] at w3;have w3:k=3\/k=5\/k=14\/k=15:=w3;omega
 ·rw [DZ q,tf hn];exact h
theorem Qe {n:No} {a:Int} (hm:n.may a):0<=ln a/\ln a<n.lines:=by
 unfold No.may at hm;unfold ln;omega
theorem A4 (h:BuI b V) {c:Nat} {n:No} (hn:b.ns[c]? = some n) (a:Int):BuI (b.put c ((n.load a).1,(n.load a).2.2.2.1)) V:=by
 have w:=h.nw c n hn
 by_cases hm:n.may a
 ·by_cases hs:n.st (ln a)=0
  ·rw [q6e w.ni hm hs];have:=Qe hm;exact h.qU hn this.1 (by rw [<-w.lines];exact this.2) (.inl ⟨rfl,hs⟩)
  ·obtain ⟨e1,e2,e3,e4,e5,e6,e7,e8⟩:=wG w.ni hm hs;rw [e1];exact h.quiet hn (w.ni.load a) e2 e3 (λ l=>by unfold No.st;rw [e8]) e4 e5 (λ l=>.inl rfl) (λ l q=>by rw [e8];exact h.bs c n hn l q)
 ·unfold No.load;rw [qg hm,tf hn];exact h
theorem q2g {v:Vw} {live:Bool} {i:Nat} {y:Int} (h:live=false->v.w=false):(v.put live i y).base=if live=false then v.base.put i y else v.base:=by
 unfold Vw.put Vw.base;cases live with
 | false=>rw [h rfl];rfl
 | true=>cases v.w<;>rfl
theorem yH (h:BuI b V) {c:Nat} {n:No} (hn:b.ns[c]? = some n) (a y:Int):BuI (b.put c ((n.store a y).1,(n.store a y).2.2.1)) (if (n.store a y).2.1=true then oh V n.live a y else V):=by
 have w:=h.nw c n hn
 by_cases hm:n.may a
 ·by_cases hs:n.st (ln a)=2
  ·obtain ⟨e1,e2,e3,e4,e5,e6,e7,e8⟩:=q7h w.ni y hm hs;rw [e1,ql rfl];have hst:∀ l,(n.store a y).1.st l=n.st l:=λ l=>by unfold No.st;rw [e8];split<;>rfl
   refine h.quiet hn (w.ni.store a y) e2 e3 hst e4 e5 (λ l=>?_) (λ l q=>?_)
   ·unfold oh;split
    ·rename_i w2;exact .inr (by rw [w2.2];exact hs)
    ·exact .inl rfl
   ·rw [e8];have hb:=h.bs c n hn l q;unfold oh
    by_cases w2:l=ln a
    ·rw [ql w2,q2g (λ q=>q6x w.ni q),hb]
     by_cases w3:n.live=false
     ·rw [ql w3,ql ⟨w3,w2⟩]
     ·rw [qg w3,qg (λ q=>w3 q.1)]
    ·rw [qg w2,qg (λ q=>w2 q.2)];exact hb
  ·rw [q4f w.ni y hm hs];have:=Qe hm;rw [qg (λ q=>by cases q)];exact h.qU hn this.1 (by rw [<-w.lines];exact this.2) (.inr ⟨rfl,hs⟩)
 ·unfold No.store;rw [qg hm];rw [qg (λ q=>by cases q),tf hn];exact h
def Fg (n:No) (a o:Int):Prop:=n.may a/\n.live=false/\n.st (ln a)=2/\(n.vw (ln a)).d.get (a.toNat % 8)=o
noncomputable instance (n:No) (a o:Int):Decidable (Fg n a o):=Classical.propDecidable _
theorem EV (h:BuI b V) {c:Nat} {n:No} (hn:b.ns[c]? = some n) (a o y:Int):BuI (b.put c (n.fq a o y)) (if Fg n a o then oh V false a y else V):=by
 have w:=h.nw c n hn
 by_cases hm:n.may a
 ·cases hl:n.live with
  | true =>
   rw [qg (λ q=>by rw [q.2.1] at hl;cases hl)];unfold No.fq;rw [ql hm,ql hl,tf hn];exact h
  | false =>
   by_cases hs:n.st (ln a)=2
   ·obtain ⟨e1,e2,e3,e4,e5,e6,e7,e9,e8⟩:=Bi w.ni o y hm hl hs;rw [show n.fq a o y=((n.fq a o y).1,[]) from by rw [<-e1]];have hst:∀ l,(n.fq a o y).1.st l=n.st l:=λ l=>by unfold No.st;rw [e8];split<;>rfl
    refine h.quiet hn (w.ni.fq a o y) e2 e3 hst e4 e5 (λ l=>?_) (λ l q=>?_)
    ·split
     ·unfold oh;split
      ·rename_i w2;exact .inr (by rw [w2.2];exact hs)
      ·exact .inl rfl
     ·exact .inl rfl
    ·rw [e8];have hb:=h.bs c n hn l q
     by_cases w2:l=ln a/\(n.vw l).d.get (a.toNat % 8)=o
     ·rw [ql w2,q2g (λ _=>q6x w.ni hl),hb,ql rfl,ql ⟨hm,hl,hs,by rw [<-w2.1];exact w2.2⟩];unfold oh;rw [ql ⟨rfl,w2.1⟩]
     ·rw [qg w2,hb];split
      ·rename_i w3;unfold oh;rw [qg];rintro ⟨-,w4⟩;exact w2 ⟨w4,by rw [w4];exact w3.2.2.2⟩
      ·rfl
   ·rw [qg (λ q=>hs q.2.2.1),uZ w.ni o y hm hl hs];have:=Qe hm;exact h.qU hn this.1 (by rw [<-w.lines];exact this.2) (.inr ⟨rfl,hs⟩)
 ·rw [qg (λ q=>hm q.1)];unfold No.fq;rw [qg hm,tf hn];exact h
theorem tS (h:BuI b V) {c:Nat} {n:No} (hn:b.ns[c]? = some n):BuI (b.put c (n.begin,[])) V:=by
 have w:=h.nw c n hn;unfold No.begin;split
 ·rw [tf hn];exact h
 ·exact h.quiet hn ⟨w.ni.ci,λ q=>by cases q⟩ rfl rfl (λ _=>rfl) rfl rfl (λ _=>.inl rfl) (λ l q=>h.bs c n hn l q)
theorem sj (h:BuI b V) {c:Nat} {n:No} (hn:b.ns[c]? = some n):BuI (b.put c (n.bj,[])) (λ l=>if n.live=true/\n.st l=2 then (n.vw l).d else V l):=by
 have w:=h.nw c n hn;unfold No.bj;split
 ·rename_i hl;have hvw:∀ l,No.vw { n with c:=n.c.bj,live:=false } l=(n.vw l).kH:=λ l=>w.ni.ci.si l;refine h.quiet hn ⟨w.ni.ci.bj,λ _=>w.ni.ci.rC⟩ rfl rfl (λ l=>by unfold No.st;rw [hvw];rfl) rfl rfl (λ l=>?_) (λ l q=>?_)
  ·by_cases e:n.live=true/\n.st l=2
   ·exact .inr e.2
   ·exact .inl (qg e)
  ·rw [hvw,Vw.zR]
   by_cases e:n.live=true/\n.st l=2
   ·rw [ql e]
   ·rw [qg e];have hb:=h.bs c n hn l q;have hw:(n.vw l).w=false:=by
     rcases w.ni.ci.u5 l with ⟨r,-⟩|⟨-,-,-,r⟩
     ·exact absurd r q
     ·cases hq:(n.vw l).w with
      | false=>rfl
      | true=>exact absurd ⟨hl,r hq⟩ e
    rw [<-hb];unfold Vw.base;rw [hw];rfl
 ·rename_i hl;rw [tf hn];have:(λ l=>if n.live=true/\n.st l=2 then (n.vw l).d else V l)=V:=funext λ l=>qg (λ q=>hl q.1);rw [this];exact h
theorem uD (h:BuI b V) {c:Nat} {n:No} (hn:b.ns[c]? = some n) (k:Int):BuI (b.put c ((n.abort k).1,[])) V:=by
 have w:=h.nw c n hn;unfold No.abort;split
 ·split
  ·rw [tf hn];exact h
  ·exact h.quiet hn (w.ni.dO k) rfl rfl (λ l=>by unfold No.st;rw [Ff w.ni];rfl) rfl rfl (λ _=>.inl rfl) (λ l q=>by rw [Ff w.ni];exact h.bs c n hn l q)
 ·rw [tf hn];exact h
theorem Cf (h:BuI b V) {c:Nat} {n:No} (hn:b.ns[c]? = some n) (l:Int):BuI (b.put c (n.aH l)) V:=by
 have w:=h.nw c n hn
 by_cases hs:n.st l=0
 ·rw [xE w.ni hs,tf hn];exact h
 ·obtain ⟨kp,ho,hv,hab,-,hg⟩:=q5o w.ni hs;obtain ⟨l0,l1⟩:=h.pn hn hs;have hbase:=h.bs c n hn l hs;have hst:∀ i,i ≠ l->(n.aH l).1.st i=n.st i:=λ i q=>(Ab.st (hab i q)).1;have hsl:(n.aH l).1.st l=0:=by unfold No.st;rw [hv];rfl
  have hot:∀ i,(n.aH l).1.ot i=n.ot i:=λ i=>by unfold No.ot;rw [ho]
  have hb:∀ i,(n.aH l).1.st i ≠ 0->((n.aH l).1.vw i).base=V i:=λ i q=>by
   by_cases e:i=l
   ·rw [e] at q;exact absurd hsl q
   ·rw [(Ab.st (hab i e)).2.1];exact h.bs c n hn i (by rw [<-hst i e];exact q)
  have hout:(n.aH l).1.out.k=0\/((n.aH l).1.out.k=1\/(n.aH l).1.out.k=2)/\0<=(n.aH l).1.out.line/\(n.aH l).1.out.line<b.l.length/\(n.aH l).1.out=(n.aH l).1.msg (n.aH l).1.out.k (n.aH l).1.out.line:=by
   rw [ho];rcases w.out with q|⟨a,b1,d,e⟩
   ·exact .inl q
   ·exact .inr ⟨a,b1,d,by unfold No.msg at e ⊢;rw [kp.core];exact e⟩
  have hcl:=kA hn;rcases hg with ⟨g1,g2,g3⟩|⟨g1,g2,g3⟩
  ·rw [show n.aH l=((n.aH l).1,[]) from by rw [<-g2]];refine h.node hn ⟨w.ni.aH l,kp.core.trans w.core,kp.lines.trans w.lines,hout,by rw [g3];exact w.bw⟩ (λ m hm=>hm) (λ _ _ _=>rfl) (λ _=>qf _) (λ m hm=>by cases hm) (λ _=>.inl rfl) (λ i i0 i1 x y e=>?_) hb (λ m hm=>by cases hm);rw [xt];have lc:=e.lc c (by omega) hcl;obtain ⟨a1,a2,a3⟩:=cP hn i;rw [a1,a2,a3] at lc;rw [hot,show (n.aH l).1.bk i=n.bk i from by unfold No.bk;rw [g3]]
   by_cases q:i=l
   ·subst q;rw [hsl];rw [g1] at lc;exact lc.off
   ·rw [hst i q];exact lc
  ·rw [show n.aH l=((n.aH l).1,[⟨3,n.core,l,(n.vw l).base⟩]) from by rw [<-g2]];refine h.node hn ⟨w.ni.aH l,kp.core.trans w.core,kp.lines.trans w.lines,hout,λ i hi=>?_⟩ (λ m hm=>hm) (λ _ _ _=>rfl) (λ _=>qf _) (λ m hm=>?_) (λ _=>.inl rfl) (λ i i0 i1 x y e=>?_) hb (λ m hm _=>?_)
   ·rw [g3] at hi;rcases xw.1 hi with q|q
    ·exact w.bw i q
    ·rw [xl.1 q];exact ⟨l0,l1⟩
   ·rw [xl.1 hm];exact ⟨⟨.inl (by show (1:Int)<=3/\(3:Int)<=7;decide),by show 0<=n.core/\n.core<_;rw [w.core];omega,l0,l1⟩,w.core,by show (3:Int) ≠ 15;decide⟩
   ·have lc:=e.lc c (by omega) hcl;obtain ⟨a1,a2,a3⟩:=cP hn i;rw [a1,a2,a3] at lc;rw [hot]
    by_cases q:i=l
    ·subst q;rw [FP (m:=⟨3,n.core,i,(n.vw i).base⟩) (c:=(c:Int)) (l:=i) ⟨w.core,rfl⟩,hsl];rw [g1] at lc;obtain ⟨p1,p2,p3⟩:=lc.put;rw [p2,show (n.aH i).1.bk i=1 from by unfold No.bk;rw [g3,ql (by simp)]];exact p1
    ·rw [BK (λ m hm w3=>by rw [xl.1 hm] at w3;exact q w3.2.symm),hst i q];rw [show (n.aH l).1.bk i=n.bk i from by
      unfold No.bk;rw [g3];simp only [xw,xl,q,sr]]
     exact lc
   ·rw [xl.1 hm];exact hbase
end BuI
end Go.Am
namespace Go.Am
open No
structure OW (o:Mg) (N l:Int):Prop where
 k:11<=o.k/\o.k<=16
 c:0<=o.core/\o.core<N
 l:o.line=l
theorem qyf {x:De} {w:L8} {N l:Int} (h:0<=x.un.core/\x.un.core<N/\x.un.line=l):OW (x.bD w).2 N l:=by
 unfold De.bD;split
 ·exact ⟨by show (11:Int)<=14/\(14:Int)<=16;decide,⟨h.1,h.2.1⟩,h.2.2⟩
 ·exact ⟨by show (11:Int)<=15/\(15:Int)<=16;decide,⟨h.1,h.2.1⟩,h.2.2⟩
theorem qxv {x:De} {m:Mg} {w:L8} {N l:Int} (h:XB x m N l):∀ o ∈ (x.begin m w).2,OW o N l:=by
 obtain ⟨hk,u0,u1,hl⟩:=h.un;have hN:=h.N4;intro o ho;unfold De.begin at ho;split at ho
 ·rename_i q;rw [xl.1 ho];exact ⟨by show 11<=(if m.k=2 then (13:Int) else 12)/\(if m.k=2 then (13:Int) else 12)<=16;split<;>decide,⟨q,h.ow.2⟩,hl⟩
 ·split at ho
  ·rw [xl.1 ho];exact qyf ⟨u0,u1,hl⟩
  ·obtain ⟨d,hd,rfl⟩:=DD.1 ho;obtain ⟨d0,d4,hd⟩:=q17.1 hd;refine ⟨by show (11:Int)<=11/\(11:Int)<=16;decide,⟨d0,h.np d d0 d4 ?_⟩,hl⟩;rcases Lc h.sb (c:=m.core) (d:=d) u0 (by omega) d0 d4 with ⟨-,e⟩|⟨-,e⟩<;>rw [e] at hd
   ·cases hd
   ·exact hd
theorem LO {x:De} {w:L8} {q:Prop} [Decidable q] {r:List Mg} {N l:Int} (h:q->0<=x.un.core/\x.un.core<N/\x.un.line=l) (hr:∀ o ∈ r,OW o N l):∀ o ∈ (x.pU w q r).2.2,OW o N l:=by
 intro o ho;unfold De.pU at ho;split at ho
 ·rename_i hq;rcases xw.1 ho with ho|ho
  ·exact hr o ho
  ·rw [xl.1 ho];exact qyf (h hq)
 ·exact hr o ho
theorem uU {x:De} {m:Mg} {w:L8} {N l:Int} (h:XI x N l) (hc:0<=m.core/\m.core<N) (hl:m.line=l):∀ o ∈ (x.az w m).2.2,OW o N l:=by
 intro o ho;unfold De.az at ho;split at ho
 ·cases ho
 rename_i hm;have hm:x.may m:=vg.1 hm;unfold De.may at hm;have hu:x.ph ≠ 0->0<=x.un.core/\x.un.core<N/\x.un.line=l:=λ q=>(h.un q).2;split at ho
 ·rename_i hk;split at ho
  ·cases ho
  ·rename_i hp;exact qxv (m:={ m with d:=.zero }) ⟨h.N4,vg.1 hp,⟨hk,hc.1,hc.2,hl⟩,h.ow,h.sb,h.np,h.os,h.wt⟩ o ho
 rename_i k1;rw [qg k1] at hm;split at ho
 ·rename_i k4;rw [ql k4] at hm;exact LO (x:={ x with sh:=aU x.sh m.core,ask:=aU x.ask m.core }) (λ _=>hu (by omega)) (λ _ q=>by cases q) o ho
 rename_i k4;rw [qg k4] at hm;split at ho
 ·rename_i k5;rw [ql k5] at hm;exact LO (x:={ x with ow:=-1,sh:=if x.un.k=1 then jC x.sh m.core else x.sh }) (λ _=>hu (by omega)) (λ _ q=>by cases q) o ho
 rename_i k5;rw [qg k5] at hm;split at ho
 ·rename_i k6;rw [ql k6] at hm;exact LO (x:={ x with ph:=3 }) (λ _=>hu (by omega)) (λ _ q=>by cases q) o ho
 rename_i k6;rw [qg k6] at hm;split at ho
 ·refine LO (x:={ x with ow:=-1 }) (λ q=>hu (by omega)) (λ o q=>?_) o ho;rw [xl.1 q];exact ⟨by show (11:Int)<=16/\(16:Int)<=16;decide,hc,hl⟩
 rename_i k3;rw [qg k3] at hm;split at ho
 ·cases ho
 ·rename_i n r hw;have hn:=h.wt n (by rw [hw];simp);exact qxv (x:={ x with ph:=0,un:=⟨0,0,0,.zero⟩,wt:=r }) ⟨h.N4,rfl,hn,h.ow,h.sb,h.np,h.os,λ v hv=>h.wt v (by rw [hw];simp [hv])⟩ o ho
namespace BuI
variable {b:Bu} {V:Int->L8} {A B:List Mg} {m:Mg}
theorem EM (h:BuI b V) (hf:b.fl=A++m::B) (hk:m.k<=7) {x:De} {w:L8} (hx:b.l[m.line.toNat]? = some x) (hw:b.m[m.line.toNat]? = some w) :
 BuI { b with m:=b.m.set m.line.toNat (x.az w m).2.1,l:=b.l.set m.line.toNat (x.az w m).1,fl:=A++B++(x.az w m).2.2 } V:=by
 have hmem:m ∈ b.fl:=by rw [hf];simp
 obtain ⟨mk,mc,ml⟩:=h.mw m hmem;have e:=h.es m.line.toNat x w hx hw;rw [Ht ml.1,hf] at e;have e':=e.az (by omega) mc rfl;have ho:=uU (w:=w) e.xi mc rfl;have hll:m.line.toNat<b.l.length:=by omega
 refine ⟨h.N4,?_,λ c n hn=>?_,λ o ho'=>?_,λ i y v hy hv=>?_,h.bs⟩
 ·simp only [qv];exact h.ml
 ·have:=h.nw c n hn;simp only [qv];exact this
 ·simp only [qv];rcases xw.1 ho' with q|q
  ·exact h.mw o (by rw [hf];rcases xw.1 q with r|r<;>simp [r])
  ·obtain ⟨a,b1,d⟩:=ho o q;exact ⟨.inr a,b1,by rw [d];exact ml⟩
 ·have hy:(b.l.set m.line.toNat (x.az w m).1)[i]? = some y:=hy;have hv:(b.m.set m.line.toNat (x.az w m).2.1)[i]? = some v:=hv
  by_cases q:i=m.line.toNat
  ·subst q;rw [qu hll] at hy;rw [qu (by rw [h.ml];exact hll)] at hv;injection hy with hy;injection hv with hv
   subst hy hv;rw [Ht ml.1];exact e'
  ·rw [qm (yt q)] at hy hv;have e2:=h.es i y v hy hv;have hne:m.line ≠ i:=λ w=>q (by omega);have hqs:∀ c,qs (A++B++(x.az w m).2.2) c i=qs b.fl c i:=λ c=>by
    rw [BK (λ o hoo w2=>hne (by rw [<-(ho o hoo).l];exact w2.2)),hf,Mq (λ w2=>hne w2.2)]
   refine ⟨e2.xi,e2.w0,λ c c0 c1=>?_,λ w2=>e2.dw ?_,λ o hoo hl hk2=>?_⟩
   ·rw [hqs];exact e2.lc c c0 c1
   ·rw [hqs] at w2;exact w2
   ·rcases xw.1 hoo with r|r
    ·exact e2.dm o (by rw [hf];rcases xw.1 r with r|r<;>simp [r]) hl hk2
    ·exact absurd ((ho o r).l.symm.trans hl) hne
theorem wA {n:No} {c L:Int} (h:NW n c L) {l k:Int} (hk:k=1\/k=2) (ho:n.ot l=k):n.out=n.msg k l:=by
 unfold No.ot at ho;split at ho
 ·rename_i q;rcases h.out with w|⟨-,-,-,w⟩
  ·omega
  ·rw [w,ho,q]
 ·omega
theorem q6s {n:No} (h:n.out=⟨0,0,0,.zero⟩) (l:Int):n.ot l=0:=by unfold No.ot;rw [h];split<;>rfl
theorem lY (h:BuI b V) (hf:b.fl=A++m::B) {c:Int} (hc:m.core=c):(∀ o ∈ A++B,o ∈ b.fl)/\(∀ (d l:Int),d ≠ c->qs (A++B) d l=qs b.fl d l)/\(∀ l:Int,(qs (A++B) c l).b5<=(qs b.fl c l).b5)/\(∀ l:Int,l ≠ m.line->qs (A++B) c l=qs b.fl c l)/\qs b.fl c m.line=(qs (A++B) c m.line).add m.k 1:=by
 refine ⟨λ o ho=>by rw [hf];rcases xw.1 ho with q|q<;>simp [q],λ d l hd=>?_,λ l=>?_,λ l hl=>?_,?_⟩
 ·rw [hf,Mq (λ q=>hd (by rw [<-q.1,hc]))]
 ·rw [hf,IF];exact wh _ _
 ·rw [hf,Mq (λ q=>hl q.2.symm)]
 ·rw [hf,El ⟨hc,rfl⟩]
theorem jT (h:BuI b V) (hf:b.fl=A++m::B) {c:Nat} {n n':No} (hn:b.ns[c]? = some n) (hc:m.core=c) {o:Mg} (hni:n'.NI) (kp:Fp n n') (hout:n'.out=n.out) (hbk:n'.aq=n.aq) (hab:∀ l,l ≠ m.line->Ab n n' l)
 (ho:o.core=c/\o.line=m.line/\(1<=o.k/\o.k<=7)) (hd:o.k=3\/o.k=5->o.d=V m.line) (hv:n'.st m.line ≠ 0->(n'.vw m.line).base=V m.line)
 (hlc:∀ x,LC x c (n.st m.line) (n.ot m.line) (n.bk m.line) ((qs (A++B) c m.line).add m.k 1) 0 0->XI x b.ns.length m.line->LC x c (n'.st m.line) (n.ot m.line) (n.bk m.line) ((qs (A++B) c m.line).add o.k 1) 0 0) :
 BuI { b with ns:=b.ns.set c n',fl:=A++B ++ [o] } V:=by
 have w:=h.nw c n hn;obtain ⟨q1,q2,q3,q4,q5⟩:=h.lY hf hc;have hmw:=h.mw m (by rw [hf];simp);have hcl:=kA hn;refine h.node hn ⟨hni,kp.core.trans w.core,kp.lines.trans w.lines,?_,by rw [hbk];exact w.bw⟩ q1 q2 q3 (λ m' hm=>?_) (λ _=>.inl rfl) (λ l l0 l1 x y e=>?_) (λ l hs=>?_) (λ m' hm hk=>?_)
 ·rw [hout];rcases w.out with q|⟨a,b1,d,e⟩
  ·exact .inl q
  ·exact .inr ⟨a,b1,d,by unfold No.msg at e ⊢;rw [kp.core];exact e⟩
 ·rw [xl.1 hm];exact ⟨⟨.inl ho.2.2,by rw [ho.1];omega,by rw [ho.2.1];exact hmw.l⟩,ho.1,by omega⟩
 ·have lc:=e.lc c (by omega) hcl;obtain ⟨a1,a2,a3⟩:=cP hn l;rw [a1,a2,a3] at lc;rw [show n'.ot l=n.ot l from by unfold No.ot;rw [hout],show n'.bk l=n.bk l from by unfold No.bk;rw [hbk]]
  by_cases q:l=m.line
  ·subst q;rw [FP ⟨ho.1,ho.2.1⟩];rw [q5] at lc;exact hlc x lc e.xi
  ·rw [BK (λ m' hm w3=>by rw [xl.1 hm] at w3;exact q (w3.2.symm.trans ho.2.1)),q4 l q,show n'.st l=n.st l from (Ab.st (hab l q)).1];exact lc
 ·by_cases q:l=m.line
  ·rw [q] at hs ⊢;exact hv hs
  ·have:=Ab.st (hab l q);rw [this.2.1];exact h.bs c n hn l (by show (n.vw l).st ≠ 0;rw [<-this.1];exact hs)
 ·rw [xl.1 hm] at hk ⊢;rw [ho.2.1];exact hd (by omega)
theorem ur (h:BuI b V) (hf:b.fl=A++m::B) {c:Nat} {n:No} (hn:b.ns[c]? = some n) (hc:m.core=c):∃ x w,ES x w b.ns.length m.line (V m.line) b.fl (b.s m.line) (b.ot m.line) (b.bk m.line)/\LC x c (n.st m.line) (n.ot m.line) (n.bk m.line) ((qs (A++B) c m.line).add m.k 1) 0 0:=by
 have hmw:=h.mw m (by rw [hf];simp);obtain ⟨x,w,-,-,e⟩:=h.entry hmw.l.1 hmw.l.2;refine ⟨x,w,e,?_⟩;have lc:=e.lc c (by omega) (kA hn);obtain ⟨a1,a2,a3⟩:=cP hn m.line;rw [a1,a2,a3,(h.lY hf hc).2.2.2.2] at lc;exact lc
theorem pI (h:BuI b V) (hf:b.fl=A++m::B) {c:Nat} {n n':No} {o:List Mg} {st:Int} (hn:b.ns[c]? = some n) (hc:m.core=c) (hni:n'.NI) (hk:m.k=14/\st=1\/m.k=15/\st=2) {om:List Mg} (ho:om=o ++ [n.msg 7 m.line]) (hfl:Kw { n with out:=⟨0,0,0,.zero⟩ } n' o m.line st m.d) (hs:n.st m.line=0)
 (hlc:∀ x,LC x c (n.st m.line) (n.ot m.line) (n.bk m.line) ((qs (A++B) c m.line).add m.k 1) 0 0->LC x c st 0 (n.bk m.line) ((qs (A++B) c m.line).add 7 1) 0 0):BuI { b with ns:=b.ns.set c n',fl:=A++B++om } V:=by
 have w:=h.nw c n hn;have hmem:m ∈ b.fl:=by rw [hf];simp
 have hmw:=h.mw m hmem;have hcl:=kA hn;obtain ⟨q1,q2,q3,q4,q5⟩:=h.lY hf hc;obtain ⟨x0,y0,e0,-⟩:=h.ur hf hn hc;have hmd:m.d=V m.line:=e0.dm m hmem rfl (by omega);have hot0:∀ l,l ≠ m.line->n.ot l=0:=λ l hl=>by
  obtain ⟨x,y,e,lc⟩:=h.ur hf hn hc;have hoo:n.ot m.line ≠ 0:=λ z=>by
   have o1:=lc.o1;have o2:=lc.o2;rw [z,oe (by decide)] at o1 o2;rcases hk with ⟨k,-⟩|⟨k,-⟩<;>rw [k] at o1 o2<;>simp (config:={ decide:=true }) only [Qs.add,xa,qo] at o1 o2<;>omega
  unfold No.ot at hoo ⊢;split at hoo
  ·rename_i q;rw [qg (by rw [q];exact yt hl)]
  ·exact absurd rfl hoo
 have hnew:n'.st m.line=st:=by unfold No.st;rw [hfl.new]
 have hz:=q6s (n:=n') hfl.out;have hgo:∀ i,i ≠ m.line->(n'.st i=n.st i/\(n'.vw i).base=(n.vw i).base)\/n'.st i=0:=λ i hi=>by
  rcases hfl.go with ⟨-,-,g⟩|⟨k,g1,g2,g3,g4,g5,-⟩
  ·have:=Ab.st (g i hi);exact .inl ⟨this.1,this.2.1⟩
  ·by_cases e:i=k
   ·rw [e];exact .inr (by unfold No.st;rw [g4];rfl)
   ·have:=Ab.st (g5 i hi e);exact .inl ⟨this.1,this.2.1⟩
 rw [ho];have how:∀ m' ∈ o,∃ k,0<=k/\k<n.lines/\n.st k=2/\k ≠ m.line/\o=[⟨3,n.core,k,(n.vw k).base⟩]/\m'=⟨3,n.core,k,(n.vw k).base⟩:=λ m' hm'=>by
  rcases hfl.go with ⟨g,-⟩|⟨k,g1,g2,g3,g4,g5,g6,g7⟩
  ·rw [g] at hm';cases hm'
  ·rcases g7 with ⟨-,g7,-⟩|⟨g7,g8,-⟩
   ·rw [g7] at hm';cases hm'
   ·have e:m'=⟨3,n.core,k,(n.vw k).base⟩:=by rw [g8] at hm';exact xl.1 hm'
    exact ⟨k,g2,g3,g7,g1,g8,e⟩
 refine h.node hn ⟨hni,hfl.kp.core.trans w.core,hfl.kp.lines.trans w.lines,.inl (by rw [hfl.out]),λ l hl=>?_⟩ q1 q2 q3 (λ m' hm=>?_) (λ _=>.inl rfl) (λ l l0 l1 x y e=>?_) (λ l q=>?_) (λ m' hm hk2=>?_)
 ·rcases hfl.go with ⟨-,g,-⟩|⟨k,g1,g2,g3,g4,g5,g6,g7⟩
  ·rw [g] at hl;exact w.bw l hl
  ·rcases g7 with ⟨-,-,g7⟩|⟨-,-,g7⟩<;>rw [g7] at hl
   ·exact w.bw l hl
   ·rcases xw.1 hl with q|q
    ·exact w.bw l q
    ·rw [xl.1 q];exact ⟨g2,by rw [<-w.lines];exact g3⟩
 ·rcases xw.1 hm with q|q
  ·obtain ⟨k,k0,k1,-,-,-,rfl⟩:=how m' q;exact ⟨⟨.inl (by show (1:Int)<=3/\(3:Int)<=7;decide),by show 0<=n.core/\n.core<_;rw [w.core];omega,k0,by rw [<-w.lines];exact k1⟩,w.core,by show (3:Int) ≠ 15;decide⟩
  ·rw [xl.1 q];exact ⟨⟨.inl (by show (1:Int)<=7/\(7:Int)<=7;decide),by show 0<=n.core/\n.core<_;rw [w.core];omega,hmw.l⟩,w.core,by show (7:Int) ≠ 15;decide⟩
 ·have lc:=e.lc c (by omega) hcl;obtain ⟨b1,b2,b3⟩:=cP hn l;rw [b1,b2,b3] at lc;rw [hz,<-zf]
  by_cases q:l=m.line
  ·subst q;rw [FP (m:=n.msg 7 m.line) (c:=(c:Int)) (l:=m.line) ⟨w.core,rfl⟩,BK (λ m' hm w3=>by obtain ⟨k,-,-,-,k4,-,rfl⟩:=how m' hm;exact k4 w3.2),hnew];rw [show n'.bk m.line=n.bk m.line from by
    unfold No.bk;rcases hfl.go with ⟨-,g,-⟩|⟨k,g1,g2,g3,g4,g5,g6,g7⟩
    ·rw [g]
    ·rcases g7 with ⟨-,-,g7⟩|⟨-,-,g7⟩<;>rw [g7]
     simp only [xw,xl,yt g1,sr]]
   rw [q5] at lc;exact hlc x lc
  ·rw [BK (f:=A++B++o) (o:=[n.msg 7 m.line]) (λ m' hm w3=>by rw [xl.1 hm] at w3;exact q w3.2.symm)];rw [hot0 l q] at lc;rcases hfl.go with ⟨g1,g2,g3⟩|⟨k,g1,g2,g3,g4,g5,g6,g7⟩
   ·rw [g1,xt,q4 l q,show n'.st l=n.st l from (Ab.st (g3 l q)).1,show n'.bk l=n.bk l from by unfold No.bk;rw [g2]];exact lc
   ·by_cases e2:l=k
    ·subst e2;rw [show n'.st l=0 from by unfold No.st;rw [g4];rfl];have g7:n.st l=1/\o=[]/\n'.aq=n.aq\/n.st l=2/\o=[⟨3,n.core,l,(n.vw l).base⟩]/\n'.aq=n.aq ++ [l]:=g7;rcases g7 with ⟨s1,g7,g8⟩|⟨s2,g7,g8⟩
     ·rw [g7,xt,q4 l q,show n'.bk l=n.bk l from by unfold No.bk;rw [g8]];rw [s1] at lc;exact lc.off
     ·rw [g7,FP (m:=⟨3,n.core,l,(n.vw l).base⟩) (c:=(c:Int)) (l:=l) ⟨w.core,rfl⟩,q4 l q,show n'.bk l=1 from by unfold No.bk;rw [g8,ql (by simp)]];rw [s2] at lc;exact lc.put.1
    ·rw [BK (λ m' hm w3=>by
      obtain ⟨k',k0,k1,k2,k4,k5,rfl⟩:=how m' hm;rcases g7 with ⟨-,g7,-⟩|⟨-,g7,-⟩
      ·rw [g7] at k5;cases k5
      ·rw [g7] at k5;injection k5 with k5
       have:k=k':=congrArg Mg.line k5;exact e2 (w3.2.symm.trans this.symm)),q4 l q,show n'.st l=n.st l from (Ab.st (g5 l q e2)).1]
     rw [show n'.bk l=n.bk l from by
      unfold No.bk;rcases g7 with ⟨-,-,g7⟩|⟨-,-,g7⟩<;>rw [g7]
      simp only [xw,xl,e2,sr]]
     exact lc
 ·by_cases e2:l=m.line
  ·rw [e2,hfl.new];exact hmd
  ·rcases hgo l e2 with ⟨g1,g2⟩|g1
   ·rw [g2];exact h.bs c n hn l (by rw [<-g1];exact q)
   ·exact absurd g1 q
 ·rcases xw.1 hm with q|q
  ·obtain ⟨k,k0,k1,k2,k4,k5,rfl⟩:=how m' q;exact h.bs c n hn k (by rw [k2];decide)
  ·rw [xl.1 q] at hk2;have hk2:(7:Int)=3\/(7:Int)=5\/(7:Int)=14\/(7:Int)=15:=hk2;omega
theorem Az (h:BuI b V) (hf:b.fl=A++m::B) {c:Nat} {n:No} (hn:b.ns[c]? = some n) (hc:m.core=c) (hk:11<=m.k/\m.k<=16):BuI { b with ns:=b.ns.set c (n.az m).1,fl:=A++B++(n.az m).2 } V:=by
 have w:=h.nw c n hn;have hmw:=h.mw m (by rw [hf];simp);have hcl:=kA hn;obtain ⟨q1,q2,q3,q4,q5⟩:=h.lY hf hc;obtain ⟨x,y,e,lc⟩:=h.ur hf hn hc;have hcn:m.core=n.core:=hc.trans w.core.symm;have hl1:m.line<n.lines:=by rw [w.lines];exact hmw.l.2
 have hni:=w.ni.az m;have r2:=lc.s2;rcases (show m.k=11\/(m.k=12\/m.k=13)\/m.k=14\/m.k=15\/m.k=16 by omega) with k|k|k|k|k
 ·-- Inv
  have hs:n.st m.line ≠ 2:=λ s2=>by
   have ow:=lc.ow;rw [k] at lc ow;obtain ⟨hp,-⟩:=lc.Og (by simp (config:={ decide:=true }) only [Qs.add,xa];omega);rw [s2,lT rfl,(e.xi.p1 hp).1,oe (show (-1:Int) ≠ c by omega)] at ow;omega
  obtain ⟨a1,a2,a3,a4,a5,a6⟩:=yY w.ni hcn hmw.l.1 hl1 k hs;rw [a1];have hz:(n.az m).1.st m.line=0:=by unfold No.st;rw [a5];rfl
  refine h.jT hf hn hc hni a2 a3 a4 a6 ⟨w.core,rfl,by show (1:Int)<=4/\(4:Int)<=7;decide⟩ (λ q=>?_) (λ q=>absurd hz q) (λ x lc xi=>?_)
  ·have q:(4:Int)=3\/(4:Int)=5:=q;omega
  ·rw [hz];rw [k] at lc;exact lc.inv hs
 ·-- Recall
  have ph2:x.ph=2:=by
   have rc:=lc.rc;refine zl λ q=>?_;rw [jQ q] at rc;rcases k with k|k<;>rw [k] at rc<;>simp (config:={ decide:=true }) only [Qs.add,xa,qo] at rc<;>omega
  have hs1:n.st m.line ≠ 1:=λ s1=>by
   have rc:=lc.rc;have gr:=lc.gr;have sh:=lc.sh;have hle:=gW x.ask c;rw [qM ph2] at rc;rw [jQ (by omega)] at gr;have hz:=sV (c:Int);rw [(e.xi.p2 ph2).1] at sh;rcases k with k|k<;>rw [k] at rc gr sh<;>simp (config:={ decide:=true }) only [Qs.add,xa,qo] at rc gr sh<;>(rcases sh s1 with q|⟨q,-⟩|q<;>omega)
  rcases (show n.st m.line=0\/n.st m.line=2 by omega) with s0|s2
  ·rw [kK w.ni hcn hmw.l.1 hl1 k s0];refine h.jT hf hn hc w.ni ⟨rfl,rfl⟩ rfl rfl (λ l _=>.refl n l) ⟨w.core,rfl,by show (1:Int)<=6/\(6:Int)<=7;decide⟩ (λ q=>?_) (λ q=>absurd s0 q) (λ x lc xi=>?_)
   ·have q:(6:Int)=3\/(6:Int)=5:=q;omega
   ·rw [s0] at lc ⊢;exact lc.Ms k
  ·have hbase:=h.bs c n hn m.line (by rw [s2];decide);rcases k with k|k
   ·obtain ⟨a1,a2,a3,a4,a5,a6,a7,a8,a9⟩:=q0f w.ni hcn hmw.l.1 hl1 k s2;rw [a1];refine h.jT hf hn hc hni a2 a3 a4 a9 ⟨w.core,rfl,by show (1:Int)<=5/\(5:Int)<=7;decide⟩ (λ _=>hbase) (λ _=>?_) (λ x lc xi=>?_)
    ·unfold Vw.base;rw [a6,a7];exact hbase
    ·rw [show (n.az m).1.st m.line=1 from a5];rw [s2,k] at lc;exact lc.dem
   ·obtain ⟨a1,a2,a3,a4,a5,a6,a7⟩:=q0g w.ni hcn hmw.l.1 hl1 k s2;rw [a1];have hz:(n.az m).1.st m.line=0:=by unfold No.st;rw [a5];rfl
    refine h.jT hf hn hc hni a2 a3 a4 a7 ⟨w.core,rfl,by show (1:Int)<=5/\(5:Int)<=7;decide⟩ (λ _=>hbase) (λ q=>absurd hz q) (λ x lc xi=>?_);rw [hz];rw [s2,k] at lc;exact lc.rcl
 ·-- GrantS
  have hot:n.ot m.line=1:=by
   have o1:=lc.o1;rw [k] at o1;simp (config:={ decide:=true }) only [Qs.add,xa,qo] at o1;have:=zU (n.ot m.line) 1;exact vH (by omega)
  have hs:=lc.t1 hot;have hout:=wA w (.inl rfl) hot;obtain ⟨o,a1,a2⟩:=qyh w.ni hcn hmw.l.1 hl1 (.inl ⟨k,hout⟩) hs;rw [qg (by omega)] at a2;refine h.pI hf hn hc hni (.inl ⟨k,rfl⟩) a1 a2 hs (λ x lc=>?_);rw [hs,hot,k] at lc;exact lc.gS
 ·-- GrantM
  have hot:n.ot m.line=2:=by
   have o2:=lc.o2;rw [k] at o2;simp (config:={ decide:=true }) only [Qs.add,xa,qo] at o2;have:=zU (n.ot m.line) 2;exact vH (by omega)
  have hs:=lc.t2 hot;have hout:=wA w (.inr rfl) hot;rcases (show n.st m.line=0\/n.st m.line=1 by omega) with s0|s1
  ·obtain ⟨o,a1,a2⟩:=qyh w.ni hcn hmw.l.1 hl1 (.inr ⟨k,hout⟩) s0;rw [ql k] at a2;refine h.pI hf hn hc hni (.inr ⟨k,rfl⟩) a1 a2 s0 (λ x lc=>?_);rw [hot,k] at lc;exact lc.gM hs
  ·obtain ⟨a1,a2,a3,a4,a5,a6⟩:=AX w.ni hcn hmw.l.1 hl1 k hout s1;rw [a1];have hst:∀ l,(n.az m).1.st l=if l=m.line then 2 else n.st l:=λ l=>by unfold No.st;rw [a6];split<;>rfl
   have hw1:(n.vw m.line).w=false:=by
    rcases w.ni.ci.u5 m.line with ⟨q,-⟩|⟨-,-,-,q⟩
    ·exact absurd (q.symm.trans s1) (by decide)
    ·cases hq:(n.vw m.line).w with
     | false=>rfl
     | true=>exact absurd ((q hq).symm.trans s1) (by decide)
   refine h.node hn ⟨hni,a2.core.trans w.core,a2.lines.trans w.lines,.inl (by rw [a3]),by rw [a4];exact w.bw⟩ q1 q2 q3 (λ m' hm=>?_) (λ _=>.inl rfl) (λ l l0 l1 x y e=>?_) (λ l q=>?_) (λ m' hm hk2=>?_)
   ·rw [xl.1 hm];exact ⟨⟨.inl (by show (1:Int)<=7/\(7:Int)<=7;decide),by show 0<=n.core/\n.core<_;rw [w.core];omega,hmw.l⟩,w.core,by show (7:Int) ≠ 15;decide⟩
   ·have lc:=e.lc c (by omega) hcl;obtain ⟨b1,b2,b3⟩:=cP hn l;rw [b1,b2,b3] at lc;rw [hst,q6s a3,show (n.az m).1.bk l=n.bk l from by unfold No.bk;rw [a4]]
    by_cases q:l=m.line
    ·subst q;rw [ql rfl,FP (m:=n.msg 7 m.line) (c:=(c:Int)) (l:=m.line) ⟨w.core,rfl⟩];rw [q5,hot,k] at lc;exact lc.gM hs
    ·rw [qg q,BK (λ m' hm w3=>by rw [xl.1 hm] at w3;exact q w3.2.symm),q4 l q];rw [show n.ot l=0 from by unfold No.ot;rw [hout];exact qg (yt q)] at lc;exact lc
   ·rw [a6]
    by_cases e2:l=m.line
    ·rw [ql e2];unfold Vw.base;rw [e2];simp only [hw1];exact e.dm m (by rw [hf];simp) rfl (by omega)
    ·rw [qg e2];exact h.bs c n hn l (by rw [hst,qg e2] at q;exact q)
   ·rw [xl.1 hm] at hk2;have hk2:(7:Int)=3\/(7:Int)=5\/(7:Int)=14\/(7:Int)=15:=hk2;omega
 ·-- PutAck
  have hbk:m.line ∈ n.aq:=by
   have bs:=lc.bks;rw [k] at bs;simp (config:={ decide:=true }) only [Qs.add,xa,qo] at bs;unfold No.bk at bs;split at bs
   ·assumption
   ·omega
  rw [jY hcn hmw.l.1 hl1 k hbk];rw [jY hcn hmw.l.1 hl1 k hbk] at hni;refine h.node hn ⟨hni,w.core,w.lines,w.out,λ l hl=>w.bw l (va.1 hl).1⟩ q1 q2 q3 (λ m' hm=>by cases hm) (λ _=>.inl rfl) (λ l l0 l1 x y e=>?_) (λ l q=>h.bs c n hn l q) (λ m' hm=>by cases hm);have lc:=e.lc c (by omega) hcl;obtain ⟨b1,b2,b3⟩:=cP hn l;rw [b1,b2,b3] at lc;rw [xt]
  by_cases q:l=m.line
  ·subst q;rw [show n.bk m.line=1 from ql hbk,q5,k] at lc;rw [show No.bk { n with aq:=n.aq.filter (· ≠ m.line) } m.line=0 from qg (by simp)];exact lc.pack
  ·rw [q4 l q,show No.bk { n with aq:=n.aq.filter (· ≠ m.line) } l=n.bk l from by unfold No.bk;simp only [va,ne_eq,decide_not,Gr,decide_eq_false_iff_not,q,not_false_eq_true,od]];exact lc
end BuI
end Go.Am
