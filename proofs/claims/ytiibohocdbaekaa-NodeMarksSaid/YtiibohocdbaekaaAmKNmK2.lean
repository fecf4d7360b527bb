/- NmK2: NoT NoU NoV. -/
import Derived.Test.YtiibohocdbaekaaAmKNmK1
import Derived.Test.YtiibohocdbaekaaAmKNmK0
set_option linter.unusedVariables false
set_option linter.unusedSimpArgs false
namespace Go.Am
namespace Ca
section
variable {lines:Int} {c:Ca}
theorem plain.word (h:c.plain) (hc:CI lines c) (a:Nat):(c.word a).1.plain:=by
 unfold Ca.word
 cases hp:c.pos ((a / 8:Nat):Int) with
 | none=>exact h
 | some i=>obtain ⟨-,b,d,-⟩:=hc.pos_some hp;exact h.set b (e:={ c.en i with u:=c.us+1 }) (fun _=>h i b d) (c.us+1)
theorem plain.put (h:c.plain) (hc:CI lines c) (a:Nat) (y:Int):(c.put a y).plain:=by
 unfold Ca.put
 cases hp:c.inS ((a / 8:Nat):Int) 2 with
 | none=>exact h
 | some i =>
  obtain ⟨q,-⟩:=qez hp
  obtain ⟨-,b,d,-⟩:=hc.pos_some q
  exact h.set b (e:={ c.en i with u:=c.us+1,d:=(c.en i).d.put (a % 8) y }) (fun _=>h i b d) (c.us+1)
theorem plain.drop (h:c.plain) (hc:CI lines c) (line:Int):(c.drop line).1.plain:=by
 unfold Ca.drop
 rw [inS_0]
 cases hp:c.pos line with
 | none=>exact h
 | some i=>obtain ⟨-,b,-⟩:=hc.pos_some hp;exact h.set b (e:=.zero) (fun q=>absurd rfl q) c.us
theorem plain.demote (h:c.plain) (hc:CI lines c) (line:Int):(c.demote line).1.plain:=by
 unfold Ca.demote
 cases hp:c.inS line 2 with
 | none=>exact h
 | some i =>
  obtain ⟨q,-⟩:=qez hp
  obtain ⟨-,b,d,-⟩:=hc.pos_some q
  exact h.set b (e:={ c.en i with st:=1 }) (fun _=>h i b d) c.us
theorem plain.promote (h:c.plain) (hc:CI lines c) (line:Int) (x:L8):(c.promote line x).plain:=by
 unfold Ca.promote
 cases hp:c.inS line 1 with
 | none=>exact h
 | some i =>
  obtain ⟨q,-⟩:=qez hp
  obtain ⟨-,b,d,-⟩:=hc.pos_some q
  exact h.set b (e:={ c.en i with st:=2,d:=x }) (fun _=>h i b d) c.us
theorem plain.fill (h:c.plain) (hc:CI lines c) {line st:Int} {x:L8}:(c.fill line st x).1.plain:=by
 unfold Ca.fill
 cases hp:c.pos line with
 | some _=>exact h
 | none =>
  show Ca.plain (match c.room line with|none=>(c,En.zero,(22:Int)) | some i=>({ c with us:=c.us+1,sl:=c.sl.set i ⟨line,st,false,false,x,.zero,c.us+1⟩ },c.en i,0)).1
  cases hr:c.room line with
  | none=>exact h
  | some i =>
   obtain ⟨k,a,b,-⟩:=qm9 hr
   exact h.set (by rw [b];exact hc.fr_lt line a) (e:=⟨line,st,false,false,x,.zero,c.us+1⟩) (fun _=>⟨rfl,rfl⟩) (c.us+1)
theorem fill_out {line st:Int} {x:L8}:(c.fill line st x).2.2=21/\(c.fill line st x).1=c/\(c.fill line st x).2.1=.zero\/(c.fill line st x).2.2=22/\(c.fill line st x).1=c/\(c.fill line st x).2.1=.zero \/
 (c.fill line st x).2.2=0 /\ ∃ i,c.room line=some i/\(c.fill line st x).2.1=c.en i:=by
 unfold Ca.fill
 cases c.pos line with
 | some _=>exact .inl ⟨rfl,rfl,rfl⟩
 | none =>
  cases hr:c.room line with
  | none=>exact .inr (.inl ⟨rfl,rfl,rfl⟩)
  | some i=>exact .inr (.inr ⟨rfl,i,rfl,rfl⟩)
end
end Ca
open Ca
namespace No
structure NI (n:No):Prop where
 ci:CI n.lines n.c
 pl:n.live=false->n.c.plain
section
variable {n:No}
theorem NI.abt (h:n.NI) (k:Int):(n.abt k).NI:=⟨h.ci.discard,fun _=>h.ci.plain_d⟩
theorem NI.lost (h:n.NI) (x:En) (too:Bool):(n.lost x too).NI:=by
 unfold No.lost
 split
 ·split
  ·exact h.abt 2
  ·exact h.abt 1
 ·exact h
theorem NI.ask (h:n.NI) (k line:Int):(n.ask k line).1.NI:=by
 unfold No.ask
 split
 ·exact h
 ·exact ⟨h.ci,h.pl⟩
theorem ask_k {k line:Int}:∀ m ∈ (n.ask k line).2,m.k=k:=by
 unfold No.ask
 split
 ·intro m q;cases q
 ·intro m q;rw [kr.1 q];rfl
theorem NI.with_c (h:n.NI) {c:Ca} (hc:CI n.lines c) (hp:n.live=false->c.plain):NI { n with c:=c }:=⟨hc,hp⟩
theorem NI.gone (h:n.NI) (x:En):(n.gone x).1.NI:=by
 unfold No.gone
 split
 ·exact ⟨h.ci,h.pl⟩
 ·exact h
theorem NI.fillE (h:n.NI) {m:Mg} {st:Int} (hs:st=1\/st=2) (h0:0<=m.line) (h1:m.line<n.lines):(n.fillE m st).1.NI:=by
 have hb:NI { n with c:=(n.c.fill m.line st m.d).1 }:=h.with_c (h.ci.fill h0 h1 hs) fun w=>(h.pl w).fill h.ci
 unfold No.fillE
 split
 ·exact NI.gone (n:={ n with c:=(n.c.fill m.line st m.d).1 }) hb _
 ·exact hb
theorem NI.fill (h:n.NI) {m:Mg} (h0:0<=m.line) (h1:m.line<n.lines):(n.fill m).1.NI:=by
 have hs:(if m.k=15 then (2:Int) else 1)=1\/(if m.k=15 then (2:Int) else 1)=2:=by split<;>simp
 unfold No.fill No.fillS
 generalize (if m.k=15 then (2:Int) else 1)=st at hs
 split
 ·exact (h.abt 3).fillE hs h0 h1
 ·exact h.fillE hs h0 h1
theorem NI.load (h:n.NI) (a:Int):(n.load a).1.NI:=by
 unfold No.load
 split
 ·cases hf:n.c.find (ln a) with
  | none=>exact h.ask _ _
  | some x =>
   refine h.with_c (CI.word ?_ _) fun q=>?_
   ·split
    ·exact h.ci.mark _ _
    ·exact h.ci
   ·rw [qn (by rw [q];decide)];exact (h.pl q).word h.ci _
 ·exact h
theorem NI.store (h:n.NI) (a y:Int):(n.store a y).1.NI:=by
 unfold No.store
 split
 ·split
  ·refine h.with_c (CI.put ?_ _ _) fun q=>?_
   ·split
    ·exact h.ci.mark _ _
    ·exact h.ci
   ·rw [qn (by rw [q];decide)];exact (h.pl q).put h.ci _ _
  ·exact h.ask _ _
 ·exact h
theorem NI.cas (h:n.NI) (a o y:Int):(n.cas a o y).1.NI:=by
 unfold No.cas
 split
 ·split
  ·exact h
  ·split
   ·simp only
    split
    ·exact h.with_c ((h.ci.word _).put _ _) fun q=>((h.pl q).word h.ci _).put (h.ci.word _) _ _
    ·exact h.with_c (h.ci.word _) fun q=>(h.pl q).word h.ci _
   ·exact h.ask _ _
 ·exact h
theorem lost_unw {x:En} {too:Bool} {i:Nat} (h:n.NI) (hi:i<n.c.sl.length) (hv:(n.c.en i).st ≠ 0) (hx:x=n.c.en i):((n.lost x too).c.en i).w=false:=by
 unfold No.lost
 split
 ·have e:(n.c.discard).en i=back (n.c.en i):=qoy hi
  split<;>(show (n.c.discard.en i).w=false;rw [e];exact (qme hv).2.1)
 ·rename_i q
  rw [ym] at q
  cases hw:(n.c.en i).w with
  | false=>rfl
  | true=>exact (q (.inl (by rw [hx];exact hw))).elim
theorem qxr (x:En) (too:Bool) (line:Int):(n.lost x too).c.pos line=n.c.pos line:=by
 unfold No.lost
 split
 ·split<;>exact q5y qj4 qn7 line
 ·rfl
theorem NI.hear (h:n.NI) (m:Mg):(n.hear m).1.NI:=by
 unfold No.hear
 split
 ·exact h
 rename_i hg
 have h0:0<=m.line:=by have:=not_or.1 (not_or.1 hg).2;omega
 have h1:m.line<n.lines:=by have:=not_or.1 (not_or.1 (not_or.1 hg).2).2;omega
 have hd:∀ x too,NI { n.lost x too with c:=((n.lost x too).c.drop m.line).1 }:=fun x too =>
  (h.lost x too).with_c ((h.lost x too).ci.drop m.line) fun q=>((h.lost x too).pl q).drop (h.lost x too).ci m.line
 split
 ·exact hd _ _
 split
 ·cases hf:n.c.find m.line with
  | none=>exact h
  | some x =>
   simp only
   split
   ·refine (h.lost x false).with_c ((h.lost x false).ci.demote m.line fun i hi=>?_) fun q=>((h.lost x false).pl q).demote (h.lost x false).ci m.line
    obtain ⟨j,a,b⟩:=qiq hf
    rw [qxr,a] at hi;injection hi with hi;subst hi
    obtain ⟨-,hl,hv,-⟩:=h.ci.pos_some a
    exact lost_unw h hl hv b
   ·exact hd _ _
 split
 ·exact ⟨h.ci,h.pl⟩
 ·cases hf:n.c.find m.line with
  | some x=>exact ⟨h.ci.promote _ _,fun q=>(h.pl q).promote h.ci _ _⟩
  | none=>exact NI.fill (n:={ n with out:=⟨0,0,0,.zero⟩ }) ⟨h.ci,h.pl⟩ h0 h1
theorem NI.dropL (h:n.NI) (line:Int):(n.dropL line).1.NI:=by
 unfold No.dropL
 split
 ·exact h
 ·cases hf:n.c.find line with
  | none=>exact h
  | some x =>
   simp only
   have hb:NI (if (x.r || x.w)=true then n.abt 4 else n):=by
    split
    ·exact h.abt 4
    ·exact h
   generalize (if (x.r || x.w)=true then n.abt 4 else n)=n1 at hb
   exact NI.gone (n:={ n1 with c:=(n1.c.drop line).1 }) (hb.with_c (hb.ci.drop line) fun q=>(hb.pl q).drop hb.ci line) _
theorem NI.play (h:n.NI) (x:Sp):(n.play x).1.NI:=by
 unfold No.play
 split;· exact h.load _
 split;· exact h.store _ _
 split;· exact h.cas _ _ _
 split
 ·unfold No.begin;split
  ·exact h
  ·exact ⟨h.ci,fun q=>by cases q⟩
 split
 ·unfold No.commit;split
  ·exact ⟨h.ci.commit,fun _=>h.ci.plain_c⟩
  ·exact h
 split
 ·unfold No.abort;split
  ·split
   ·exact h
   ·exact h.abt _
  ·exact h
 split;· exact h.hear _
 split;· exact h.dropL _
 exact h
def Outs (n:No) (n':No) (l:List Mg):Prop:=n.live=true -> ∀ m ∈ l,m.k=3\/m.k=5 -> ∀ i,i<n.c.sl.length->(n.c.en i).st ≠ 0->(n.c.en i).line=m.line->(n.c.en i).w=true->m.d=(n.c.en i).o/\n'.live=false
theorem Outs.k {n n':No} {l:List Mg} (h:∀ m ∈ l,m.k ≠ 3/\m.k ≠ 5):Outs n n' l:=fun _ m hm q=>by have:=h m hm;omega
theorem qej {n n':No}:Outs n n' []:=Outs.k fun m q=>by cases q
theorem qx4 {n n':No} {k line:Int} (h3:k ≠ 3) (h5:k ≠ 5):Outs n n' (n.ask k line).2:=Outs.k fun m q=>by rw [ask_k m q];exact ⟨h3,h5⟩
theorem q4q {k:Int} {i:Nat} (hi:i<n.c.sl.length):(n.abt k).c.en i=back (n.c.en i):=qoy hi
theorem qw7 {c:Ca} {line:Int} {i:Nat} (hp:c.pos line=some i):(c.drop line).2=c.en i:=by
 unfold Ca.drop;rw [inS_0,hp]
theorem lost_w {too:Bool} {i:Nat} (hi:i<n.c.sl.length) (hv:(n.c.en i).st ≠ 0) (hw:(n.c.en i).w=true):(n.lost (n.c.en i) too).live=false/\((n.lost (n.c.en i) too).c.en i).d=(n.c.en i).o:=by
 unfold No.lost
 rw [hw]
 simp only [Bool.true_or,qbl]
 have e:n.c.discard.en i=back (n.c.en i):=qoy hi
 split<;>exact ⟨rfl,by show (n.c.discard.en i).d=_;rw [e,(qme hv).2.2,xb hw]⟩
theorem q2e {n:No} {x:En}:∀ m ∈ (n.gone x).2,m=⟨3,n.core,x.line,x.d⟩:=by
 unfold No.gone
 split
 ·intro m q;exact kr.1 q
 ·intro m q;cases q
theorem qzd {n:No} {x:En}:(n.gone x).1.live=n.live:=by unfold No.gone;split<;>rfl
theorem NI.fillE_mem {n:No} {m:Mg} {st:Int}:∀ y ∈ (n.fillE m st).2,∃ i,n.c.room m.line=some i/\(n.c.en i).st ≠ 0/\y=⟨3,n.core,(n.c.en i).line,(n.c.en i).d⟩:=by
 intro y hy
 unfold No.fillE at hy
 split at hy
 ·rename_i q
  rcases fill_out (c:=n.c) (line:=m.line) (st:=st) (x:=m.d) with ⟨e1,-⟩|⟨e1,-⟩|⟨e1,j,e2,e3⟩
  ·rw [e1] at q;exact absurd q.1 (by decide)
  ·rw [e1] at q;exact absurd q.1 (by decide)
  ·rw [e3] at q hy
   exact ⟨j,e2,q.2,q2e (n:={ n with c:=(n.c.fill m.line st m.d).1 }) y hy⟩
 ·cases hy
theorem q3g {n:No} {m:Mg} {st:Int}:(n.fillE m st).1.live=n.live:=by
 unfold No.fillE
 split
 ·rw [qzd]
 ·rfl
theorem NI.fill_outs (h:n.NI) {m:Mg}:Outs n (n.fill m).1 (n.fill m).2:=by
 intro hl y hy hk i hi hv hline hw
 unfold No.fill No.fillS at hy ⊢
 generalize (if m.k=15 then (2:Int) else 1)=st at hy ⊢
 split at hy
 ·rename_i q
  rw [xb q]
  obtain ⟨j,e2,e3,rfl⟩:=NI.fillE_mem y hy
  obtain ⟨k,a,b,-⟩:=qm9 e2
  have hj:j<n.c.sl.length:=by
   have:=(h.abt 3).ci.fr_lt m.line a
   rw [<-b] at this
   have e:(n.abt 3).c.sl.length=n.c.sl.length:=zn _
   omega
  rw [q4q hj,qn7] at e3
  rw [q4q hj] at hline ⊢
  have hline:(n.c.en i).line=(back (n.c.en j)).line:=hline
  rw [qj4] at hline
  have:i=j:=h.ci.uq i j hi hj hv e3 hline
  subst this
  refine ⟨?_,by rw [q3g];rfl⟩
  show (back (n.c.en i)).d=_
  rw [(qme hv).2.2,xb hw]
 ·obtain ⟨j,e2,e3,rfl⟩:=NI.fillE_mem y hy
  obtain ⟨k,a,b,d⟩:=qm9 e2
  have hj:j<n.c.sl.length:=by rw [b];exact h.ci.fr_lt m.line a
  have:i=j:=h.ci.uq i j hi hj hv e3 hline
  subst this
  rcases d with d|d
  ·exact absurd d e3
  ·rw [d.2] at hw;cases hw
theorem NI.hear_outs (h:n.NI) (m:Mg):Outs n (n.hear m).1 (n.hear m).2:=by
 unfold No.hear
 split
 ·exact qej
 split
 ·exact Outs.k fun y q=>by rw [kr.1 q];exact ⟨by show (4:Int) ≠ 3;decide,by show (4:Int) ≠ 5;decide⟩
 split
 ·cases hf:n.c.find m.line with
  | none=>exact Outs.k fun y q=>by rw [kr.1 q];exact ⟨by show (6:Int) ≠ 3;decide,by show (6:Int) ≠ 5;decide⟩
  | some x =>
   obtain ⟨j,a,b⟩:=qiq hf
   obtain ⟨-,hj,hvj,hlj,-⟩:=h.ci.pos_some a
   subst b
   simp only
   split
   ·intro hl y hy hk i hi hv hline hw
    rw [kr.1 hy] at hline ⊢
    have:i=j:=h.ci.uq i j hi hj hv hvj (by rw [hline,hlj])
    subst this
    obtain ⟨q1,q2⟩:=lost_w (too:=false) hi hv hw
    refine ⟨?_,q1⟩
    show (Ca.demote _ _).2=_
    have hin:(n.lost (n.c.en i) false).c.inS m.line 2=some i:=by
     unfold Ca.inS
     rw [qxr,a]
     simp only
     rw [qn]
     rintro ⟨-,q⟩
     have hst:(n.c.en i).st=2:=(h.ci.ok i hi hv).2.2.2.2 hw
     apply q
     unfold No.lost
     have e:n.c.discard.en i=back (n.c.en i):=qoy hi
     split
     ·split<;>(show (n.c.discard.en i).st=2;rw [e,qn7];exact hst)
     ·exact hst
    unfold Ca.demote
    rw [hin]
    exact q2
   ·intro hl y hy hk i hi hv hline hw
    rw [kr.1 hy] at hline ⊢
    have:i=j:=h.ci.uq i j hi hj hv hvj (by rw [hline,hlj])
    subst this
    obtain ⟨q1,q2⟩:=lost_w (too:=true) hi hv hw
    refine ⟨?_,q1⟩
    show (Ca.drop _ _).2.d=_
    rw [qw7 (i:=i) (by rw [qxr];exact a)]
    exact q2
 split
 ·exact qej
 ·cases hf:n.c.find m.line with
  | some x=>exact Outs.k fun y q=>by rw [kr.1 q];exact ⟨by show (7:Int) ≠ 3;decide,by show (7:Int) ≠ 5;decide⟩
  | none =>
   intro hl y hy hk
   rcases kg.1 hy with q|q
   ·exact NI.fill_outs (n:={ n with out:=⟨0,0,0,.zero⟩ }) ⟨h.ci,h.pl⟩ hl y q hk
   ·rw [kr.1 q] at hk
    have hk:(7:Int)=3\/(7:Int)=5:=hk
    omega
theorem NI.drop_outs (h:n.NI) (line:Int):Outs n (n.dropL line).1 (n.dropL line).2:=by
 unfold No.dropL
 split
 ·exact qej
 ·cases hf:n.c.find line with
  | none=>exact qej
  | some x =>
   obtain ⟨j,a,b⟩:=qiq hf
   obtain ⟨-,hj,hvj,hlj,-⟩:=h.ci.pos_some a
   subst b
   simp only
   intro hl y hy hk i hi hv hline hw
   have hm:=q2e y hy
   by_cases q:((n.c.en j).r || (n.c.en j).w)=true
   ·rw [xb q] at hm hy ⊢
    have hp:(n.abt 4).c.pos line=some j:=(q5y qj4 qn7 line).trans a
    rw [qw7 hp,q4q hj] at hm
    rw [hm] at hline ⊢
    have hline:(n.c.en i).line=(back (n.c.en j)).line:=hline
    rw [qj4] at hline
    have:i=j:=h.ci.uq i j hi hj hv hvj hline
    subst this
    refine ⟨?_,by rw [qzd];rfl⟩
    show (back (n.c.en i)).d=_
    rw [(qme hv).2.2,xb hw]
   ·rw [qn q] at hm
    rw [qw7 a] at hm
    rw [hm] at hline
    have:i=j:=h.ci.uq i j hi hj hv hvj hline
    subst this
    exact (q (by rw [hw,Bool.or_true])).elim
theorem cas_outs (a o y:Int):Outs n (n.cas a o y).1 (n.cas a o y).2:=by
 unfold No.cas
 split
 ·split
  ·exact qej
  ·split
   ·exact qej
   ·exact qx4 (by decide) (by decide)
 ·exact qej
theorem q5j (a:Int):Outs n (n.load a).1 (n.load a).2.2.2.1:=by
 unfold No.load
 split
 ·cases hf:n.c.find (ln a) with
  | none=>exact qx4 (by decide) (by decide)
  | some x=>exact qej
 ·exact qej
theorem q4a (a y:Int):Outs n (n.store a y).1 (n.store a y).2.2.1:=by
 unfold No.store
 split
 ·split
  ·exact qej
  ·exact qx4 (by decide) (by decide)
 ·exact qej
theorem NI.play_outs (h:n.NI) (x:Sp):Outs n (n.play x).1 (n.play x).2:=by
 unfold No.play
 split;· exact q5j _
 split;· exact q4a _ _
 split;· exact cas_outs _ _ _
 split;· exact qej
 split;· exact qej
 split;· exact qej
 split;· exact h.hear_outs _
 split;· exact h.drop_outs _
 exact qej
end
end No
end Go.Am
namespace Go.Am
theorem L8.put_get (x:L8) {i:Nat} (h:i<8) (y:Int):(x.put i y).get i=y:=by
 unfold L8.put L8.get
 simp only
 rw [xq (by rw [x.h];exact h)];rfl
namespace Ca
section
variable {lines:Int} {c:Ca}
structure Shp (c c':Ca):Prop where
 sets:c'.sets=c.sets
 ways:c'.ways=c.ways
 len:c'.sl.length=c.sl.length
 st:∀ i,(c'.en i).st=(c.en i).st
 line:∀ i,(c'.en i).line=(c.en i).line
theorem Shp.refl (c:Ca):Shp c c:=⟨rfl,rfl,rfl,fun _=>rfl,fun _=>rfl⟩
theorem Shp.trans {a b d:Ca} (h:Shp a b) (h':Shp b d):Shp a d:=⟨h'.sets.trans h.sets,h'.ways.trans h.ways,h'.len.trans h.len,fun i=>(h'.st i).trans (h.st i),fun i=>(h'.line i).trans (h.line i)⟩
theorem Shp.set {c:Ca} {i:Nat} {e:En} (us:Int) (hl:e.line=(c.en i).line) (hs:e.st=(c.en i).st):Shp c { c.set i e with us:=us }:=by
 have he:∀ j,Ca.en { c.set i e with us:=us } j=(c.set i e).en j:=fun j=>rfl
 have hlen:(c.set i e).sl.length=c.sl.length:=qt
 rcases jc i c.sl.length with hi|hi
 ·refine ⟨rfl,rfl,hlen,fun j=>?_,fun j=>?_⟩<;>(rw [he,qg4 hi];by_cases q:i=j)
  ·subst q;rw [xb rfl,hs]
  ·rw [qn q]
  ·subst q;rw [xb rfl,hl]
  ·rw [qn q]
 ·have:(c.set i e)=c:=by
   unfold Ca.set
   rw [List.set_eq_of_length_le hi]
  rw [this];exact ⟨rfl,rfl,rfl,fun _=>rfl,fun _=>rfl⟩
theorem Shp.pos {c c':Ca} (h:Shp c c') (line:Int):c'.pos line=c.pos line:=by
 have hf:∀ line,c'.fr line=c.fr line:=fun line=>by unfold fr;rw [h.sets,h.ways]
 have hh:c'.hit line=c.hit line:=funext fun i=>by unfold hit;rw [hf,h.st,h.line]
 unfold Ca.pos;rw [hh,h.ways,hf]
theorem Shp.map {c:Ca} {g:En->En} (hl:∀ e,(g e).line=e.line) (hs:∀ e,(g e).st=e.st):Shp c { c with sl:=c.sl.map g }:=by
 have ho:∀ i,c.sl.length<=i->Ca.en { c with sl:=c.sl.map g } i=.zero:=fun i q=>qta (by show (c.sl.map g).length<=i;rw [zn];exact q)
 refine ⟨rfl,rfl,zn _,fun i=>?_,fun i=>?_⟩
 ·rcases jc i c.sl.length with q|q
  ·rw [qoy q,hs]
  ·rw [ho i q,qta q]
 ·rcases jc i c.sl.length with q|q
  ·rw [qoy q,hl]
  ·rw [ho i q,qta q]
def base (e:En):L8:=if e.w then e.o else e.d
structure BK (c1 c:Ca):Prop where
 sh:Shp c1 c
 b:∀ i,(c1.en i).st ≠ 0->base (c.en i)=(c1.en i).d
theorem BK.upd {c1 c:Ca} (h:BK c1 c) {i:Nat} {e:En} (hi:i<c.sl.length) (us:Int) (hl:e.line=(c.en i).line) (hs:e.st=(c.en i).st) (hb:base e=base (c.en i)):BK c1 { c.set i e with us:=us }:=by
 refine ⟨h.sh.trans (Shp.set us hl hs),fun j hj=>?_⟩
 show base ((c.set i e).en j)=_
 rw [qg4 hi]
 by_cases q:i=j
 ·subst q;rw [xb rfl,hb];exact h.b i hj
 ·rw [qn q];exact h.b j hj
theorem BK.store {c1 c:Ca} (h:BK c1 c) (hc:CI lines c) {a:Nat} {i:Nat} (hp:c.pos ((a / 8:Nat):Int)=some i) (hs:(c.en i).st=2) (y:Int):BK c1 ((c.mark ((a / 8:Nat):Int) true).put a y) /\
 ∀ j,(((c.mark ((a / 8:Nat):Int) true).put a y).en j).d=if i=j then (c.en i).d.put (a % 8) y else (c.en j).d:=by
 obtain ⟨-,hi,hv,-⟩:=hc.pos_some hp
 have hin:c.inS ((a / 8:Nat):Int) 2=some i:=by
  unfold inS;rw [hp];simp only;rw [qn fun q=>q.2 hs]
 obtain ⟨c2,h2,b2,w2,d2,p2,l2,s2⟩:∃ c2,c.mark ((a / 8:Nat):Int) true=c2/\BK c1 c2/\(c2.en i).w=true/\(∀ j,(c2.en j).d=(c.en j).d)/\c2.pos ((a / 8:Nat):Int)=some i/\i<c2.sl.length/\(c2.en i).st=2:=by
  unfold Ca.mark
  rw [xb rfl,hin]
  simp only
  cases hw:(c.en i).w with
  | true=>exact ⟨c,xb rfl,h,hw,fun _=>rfl,hp,hi,hs⟩
  | false =>
   rw [qn (by decide)]
   have hb:BK c1 { c.set i { c.en i with w:=true,o:=(c.en i).d } with us:=c.us }:=h.upd hi c.us rfl rfl (by unfold base;rw [hw];rfl)
   refine ⟨c.set i { c.en i with w:=true,o:=(c.en i).d },rfl,hb,by rw [qg4 hi,xb rfl],fun j=>?_,?_,by show i<(c.sl.set i _).length;rw [qt];exact hi,by rw [qg4 hi,xb rfl];exact hs⟩
   ·rw [qg4 hi]
    by_cases q:i=j
    ·subst q;rw [xb rfl]
    ·rw [qn q]
   ·have sh:Shp c { c.set i { c.en i with w:=true,o:=(c.en i).d } with us:=c.us }:=Shp.set c.us rfl rfl
    exact (sh.pos _).trans hp
 rw [h2]
 have hin2:c2.inS ((a / 8:Nat):Int) 2=some i:=by
  unfold inS;rw [p2];simp only;rw [qn fun q=>q.2 s2]
 unfold Ca.put
 rw [hin2]
 simp only
 refine ⟨b2.upd (e:={ c2.en i with u:=c2.us+1,d:=(c2.en i).d.put (a % 8) y }) l2 (c2.us+1) rfl rfl (by unfold base;rw [w2];rfl),fun j=>?_⟩
 show ((c2.set i { c2.en i with u:=c2.us+1,d:=(c2.en i).d.put (a % 8) y }).en j).d=_
 rw [qg4 l2]
 by_cases q:i=j
 ·subst q;rw [xb rfl,xb rfl,d2]
 ·rw [qn q,qn q,d2]
theorem BK.load {c1 c:Ca} (h:BK c1 c) (hc:CI lines c) (a:Nat) {i:Nat} (hp:c.pos ((a / 8:Nat):Int)=some i):BK c1 ((c.mark ((a / 8:Nat):Int) false).word a).1/\((c.mark ((a / 8:Nat):Int) false).word a).2=some ((c.en i).d.get (a % 8)) /\
 ∀ j,((((c.mark ((a / 8:Nat):Int) false).word a).1).en j).d=(c.en j).d:=by
 obtain ⟨-,hi,hv,-⟩:=hc.pos_some hp
 obtain ⟨c2,h2,b2,d2,p2,l2⟩:∃ c2,c.mark ((a / 8:Nat):Int) false=c2/\BK c1 c2/\(∀ j,(c2.en j).d=(c.en j).d)/\c2.pos ((a / 8:Nat):Int)=some i/\i<c2.sl.length:=by
  unfold Ca.mark
  rw [qn (by decide),inS_0,hp]
  simp only
  have hb:BK c1 { c.set i { c.en i with r:=true } with us:=c.us }:=h.upd hi c.us rfl rfl rfl
  refine ⟨c.set i { c.en i with r:=true },rfl,hb,fun j=>?_,?_,by show i<(c.sl.set i _).length;rw [qt];exact hi⟩
  ·rw [qg4 hi]
   by_cases q:i=j
   ·subst q;rw [xb rfl]
   ·rw [qn q]
  ·have sh:Shp c { c.set i { c.en i with r:=true } with us:=c.us }:=Shp.set c.us rfl rfl
   exact (sh.pos _).trans hp
 rw [h2]
 unfold Ca.word
 rw [p2]
 simp only
 refine ⟨b2.upd (e:={ c2.en i with u:=c2.us+1 }) l2 (c2.us+1) rfl rfl rfl,by rw [d2],fun j=>?_⟩
 show ((c2.set i { c2.en i with u:=c2.us+1 }).en j).d=_
 rw [qg4 l2]
 by_cases q:i=j
 ·subst q;rw [xb rfl,d2]
 ·rw [qn q,d2]
end
end Ca
open Ca
namespace No
structure NB (n1 n:No):Prop where
 ni:n.NI
 live:n.live=true
 lines:n.lines=n1.lines
 bk:BK n1.c n.c
theorem NB.ask {n1 n:No} (h:NB n1 n) (k line:Int):NB n1 (n.ask k line).1/\(n.ask k line).1.c=n.c:=by
 unfold No.ask
 split
 ·exact ⟨h,rfl⟩
 ·exact ⟨⟨⟨h.ni.ci,h.ni.pl⟩,h.live,h.lines,h.bk⟩,rfl⟩
theorem NB.store {n1 n:No} (h:NB n1 n) (a y:Int):NB n1 (n.store a y).1 /\
 ((n.store a y).2.1=true->n.may a /\ ∃ i,n.c.pos (ln a)=some i /\ ∀ j,((n.store a y).1.c.en j).d=if i=j then (n.c.en i).d.put (a.toNat % 8) y else (n.c.en j).d)/\((n.store a y).2.1=false->(n.store a y).1.c=n.c):=by
 have hni:=h.ni.store a y
 unfold No.store at hni ⊢
 split
 ·rename_i hm
  rw [xb hm] at hni
  split
  ·rename_i ho
   rw [xb ho] at hni
   unfold owned at ho
   cases hf:n.c.find (ln a) with
   | none=>rw [hf] at ho;cases ho
   | some x =>
    rw [hf] at ho
    obtain ⟨i,hp,rfl⟩:=qiq hf
    have hs:(n.c.en i).st=2:=by simpa using ho
    obtain ⟨b,d⟩:=h.bk.store (a:=a.toNat) h.ni.ci hp hs y
    rw [xb h.live] at hni ⊢
    exact ⟨⟨hni,h.live,h.lines,b⟩,fun _=>⟨hm,i,hp,d⟩,fun q=>by cases q⟩
  ·obtain ⟨p,q⟩:=h.ask 2 (ln a)
   exact ⟨p,fun w=>(by cases w),fun _=>q⟩
 ·exact ⟨h,fun w=>(by cases w),fun _=>rfl⟩
theorem NB.load {n1 n:No} (h:NB n1 n) (a:Int):NB n1 (n.load a).1/\(∀ j,((n.load a).1.c.en j).d=(n.c.en j).d)/\(n.may a -> ∀ i,n.c.pos (ln a)=some i->(n.load a).2.2.1=true/\(n.load a).2.1=(n.c.en i).d.get (a.toNat % 8)):=by
 have hni:=h.ni.load a
 unfold No.load at hni ⊢
 split
 ·rename_i hm
  rw [xb hm] at hni
  cases hf:n.c.find (ln a) with
  | none =>
   obtain ⟨p,q⟩:=h.ask 1 (ln a)
   refine ⟨p,fun j=>by show ((n.ask 1 (ln a)).1.c.en j).d=_;rw [q],fun _ i hi=>?_⟩
   unfold find at hf;rw [hi] at hf;cases hf
  | some x =>
   rw [hf] at hni
   obtain ⟨i,hp,rfl⟩:=qiq hf
   obtain ⟨b,e,d⟩:=h.bk.load (a:=a.toNat) h.ni.ci hp
   rw [xb h.live] at hni ⊢
   refine ⟨⟨hni,h.live,h.lines,b⟩,d,fun _ j hj=>⟨rfl,?_⟩⟩
   rw [hp] at hj;injection hj with hj;subst hj
   show ((n.c.mark (ln a) false).word a.toNat).2.getD 0=_
   rw [show ln a=((a.toNat / 8:Nat):Int) from rfl,e];rfl
 ·rename_i hm
  exact ⟨h,fun _=>rfl,fun q=>absurd q hm⟩
theorem NB.abt {n1 n:No} (h:NB n1 n) (k:Int):Shp n1.c (n.abt k).c /\ ∀ i,(n1.c.en i).st ≠ 0->((n.abt k).c.en i).d=(n1.c.en i).d/\((n.abt k).c.en i).r=false/\((n.abt k).c.en i).w=false:=by
 have sh:Shp n.c n.c.discard:=Shp.map qj4 qn7
 refine ⟨h.bk.sh.trans sh,fun i hi=>?_⟩
 have hil:i<n.c.sl.length:=by
  rcases jc i n.c.sl.length with q|q
  ·exact q
  ·rw [qta (by rw [<-h.bk.sh.len];exact q)] at hi;exact absurd rfl hi
 have e:n.c.discard.en i=back (n.c.en i):=qoy hil
 have hv:(n.c.en i).st ≠ 0:=by rw [h.bk.sh.st];exact hi
 obtain ⟨q1,q2,q3⟩:=qme hv
 have hb:=h.bk.b i hi
 show (n.c.discard.en i).d=_/\(n.c.discard.en i).r=false/\(n.c.discard.en i).w=false
 rw [e]
 exact ⟨q3.trans hb,q1,q2⟩
end No
end Go.Am
namespace Go.Am
open Ca No
def En.val (e:En):Bool:=e.st != 0
structure AllOf (c:Ca) (ys:List En):Prop where
 perm:ys.Perm (c.sl.filter En.val)
 srt:ys.Pairwise fun a b=>a.line<=b.line
theorem AllOf.mem {c:Ca} {ys:List En} (h:AllOf c ys) {e:En} (he:e ∈ ys):∃ i,i<c.sl.length/\c.en i=e/\(c.en i).st ≠ 0:=by
 have h1:=(h.perm.mem_iff).1 he
 rw [List.mem_filter] at h1
 obtain ⟨i,hi⟩:=qbb h1.1
 obtain ⟨a,b⟩:=en_of hi
 exact ⟨i,b,a,by rw [a];simpa [En.val] using h1.2⟩
theorem AllOf.has {c:Ca} {ys:List En} (h:AllOf c ys) {i:Nat} (hi:i<c.sl.length) (hv:(c.en i).st ≠ 0):c.en i ∈ ys:=by
 refine (h.perm.mem_iff).2 (List.mem_filter.2 ⟨z7 (qll hi),by simpa [En.val] using hv⟩)
structure WR (n1 n:No) (was W:List En):Prop where
 len:W.length=was.length
 at_:∀ (k:Nat) (x y:En),was[k]? = some x->W[k]? = some y -> ∃ i,i<n1.c.sl.length/\(n1.c.en i).st ≠ 0/\x=n1.c.en i/\y.line=x.line/\y.st=x.st/\y.d=(n.c.en i).d
def wput (a y:Int) (e:En):En:=if e.line=ln a then { e with d:=e.d.put (a.toNat % 8) y } else e
theorem WR.store {n1 n:No} {was W:List En} (h:WR n1 n was W) (hb:NB n1 n) {a y:Int} (hd:(n.store a y).2.1=true):WR n1 (n.store a y).1 was (W.map (wput a y)):=by
 obtain ⟨-,h2,-⟩:=hb.store a y
 obtain ⟨-,i0,hp,hdat⟩:=h2 hd
 obtain ⟨-,hi0,hv0,hl0,-⟩:=hb.ni.ci.pos_some hp
 refine ⟨by rw [zn];exact h.len,fun k x z hx hz=>?_⟩
 rw [xn,xc] at hz
 obtain ⟨w,hw,rfl⟩:=hz
 obtain ⟨i,hi,hv,ex,e1,e2,e3⟩:=h.at_ k x w hx hw
 have hlw:w.line=(n.c.en i).line:=by rw [e1,ex,hb.bk.sh.line]
 refine ⟨i,hi,hv,ex,?_,?_,?_⟩
 ·unfold wput;split<;>exact e1
 ·unfold wput;split<;>exact e2
 ·rw [hdat i]
  unfold wput
  by_cases q:w.line=ln a
  ·rw [xb q]
   have:i0=i:=hb.ni.ci.uq i0 i hi0 (by rw [hb.bk.sh.len];exact hi) hv0 (by rw [hb.bk.sh.st];exact hv) (by rw [hl0,<-hlw,q])
   subst this
   rw [xb rfl,<-e3]
  ·rw [qn q,qn]
   ·exact e3
   ·rintro rfl;exact q (hlw.trans hl0)
theorem WR.keep {n1 n n':No} {was W:List En} (h:WR n1 n was W) (hd:∀ j,(n'.c.en j).d=(n.c.en j).d):WR n1 n' was W :=
 ⟨h.len,fun k x z hx hz=>by
  obtain ⟨i,a,b,d,e,f,g⟩:=h.at_ k x z hx hz
  exact ⟨i,a,b,d,e,f,by rw [hd];exact g⟩⟩
theorem NB.read {n1 n:No} (h:NB n1 n) {a y:Int} (hd:(n.store a y).2.1=true):((n.store a y).1.load a).2.2.1=true/\((n.store a y).1.load a).2.1=y:=by
 obtain ⟨hb,h2,-⟩:=h.store a y
 obtain ⟨hm,i,hp,hdat⟩:=h2 hd
 obtain ⟨-,-,h3⟩:=hb.load a
 have hsh:Shp n1.c n.c:=h.bk.sh
 have hp2:(n.store a y).1.c.pos (ln a)=some i:=by rw [hb.bk.sh.pos,<-hsh.pos];exact hp
 have hm2:(n.store a y).1.may a:=by unfold No.may at hm ⊢;rw [hb.lines,<-h.lines];exact hm
 obtain ⟨q1,q2⟩:=h3 hm2 i hp2
 refine ⟨q1,q2.trans ?_⟩
 rw [hdat i,xb rfl,L8.put_get _ (Nat.mod_lt _ (by decide))]
end Go.Am
