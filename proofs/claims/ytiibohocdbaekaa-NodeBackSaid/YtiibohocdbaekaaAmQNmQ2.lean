/- NmQ2: NoT NoU NoV. -/
import Derived.Test.YtiibohocdbaekaaAmQNmQ1
import Derived.Test.YtiibohocdbaekaaAmQNmQ0
set_option linter.unusedVariables false
set_option linter.unusedSimpArgs false
namespace Go.Am
namespace Ca
section
variable {lines:Int} {c:Ca}
theorem plain.word (h:c.plain) (hc:CI lines c) (a:Nat):(c.word a).1.plain:=by
 unfold Ca.word
 cases hp:c.pos ((a / 8:Nat):Int) with
 | none=>exact h
 | some i=>obtain ⟨-,b,d,-⟩:=hc.pos_some hp;exact h.set b (e:={ c.en i with u:=c.us+1 }) (fun _=>h i b d) (c.us+1)
theorem plain.put (h:c.plain) (hc:CI lines c) (a:Nat) (y:Int):(c.put a y).plain:=by
 unfold Ca.put
 cases hp:c.inS ((a / 8:Nat):Int) 2 with
 | none=>exact h
 | some i =>
  obtain ⟨q,-⟩:=qe4 hp
  obtain ⟨-,b,d,-⟩:=hc.pos_some q
  exact h.set b (e:={ c.en i with u:=c.us+1,d:=(c.en i).d.put (a % 8) y }) (fun _=>h i b d) (c.us+1)
theorem plain.drop (h:c.plain) (hc:CI lines c) (line:Int):(c.drop line).1.plain:=by
 unfold Ca.drop
 rw [inS_0]
 cases hp:c.pos line with
 | none=>exact h
 | some i=>obtain ⟨-,b,-⟩:=hc.pos_some hp;exact h.set b (e:=.zero) (fun q=>absurd rfl q) c.us
theorem plain.demote (h:c.plain) (hc:CI lines c) (line:Int):(c.demote line).1.plain:=by
 unfold Ca.demote
 cases hp:c.inS line 2 with
 | none=>exact h
 | some i =>
  obtain ⟨q,-⟩:=qe4 hp
  obtain ⟨-,b,d,-⟩:=hc.pos_some q
  exact h.set b (e:={ c.en i with st:=1 }) (fun _=>h i b d) c.us
theorem plain.promote (h:c.plain) (hc:CI lines c) (line:Int) (x:L8):(c.promote line x).plain:=by
 unfold Ca.promote
 cases hp:c.inS line 1 with
 | none=>exact h
 | some i =>
  obtain ⟨q,-⟩:=qe4 hp
  obtain ⟨-,b,d,-⟩:=hc.pos_some q
  exact h.set b (e:={ c.en i with st:=2,d:=x }) (fun _=>h i b d) c.us
theorem plain.fill (h:c.plain) (hc:CI lines c) {line st:Int} {x:L8}:(c.fill line st x).1.plain:=by
 unfold Ca.fill
 cases hp:c.pos line with
 | some _=>exact h
 | none =>
  show Ca.plain (match c.room line with|none=>(c,En.zero,(22:Int)) | some i=>({ c with us:=c.us+1,sl:=c.sl.set i ⟨line,st,false,false,x,.zero,c.us+1⟩ },c.en i,0)).1
  cases hr:c.room line with
  | none=>exact h
  | some i =>
   obtain ⟨k,a,b,-⟩:=qvb hr
   exact h.set (by rw [b];exact hc.fr_lt line a) (e:=⟨line,st,false,false,x,.zero,c.us+1⟩) (fun _=>⟨rfl,rfl⟩) (c.us+1)
end
end Ca
open Ca
namespace No
structure NI (n:No):Prop where
 ci:CI n.lines n.c
 pl:n.live=false->n.c.plain
section
variable {n:No}
theorem NI.abt (h:n.NI) (k:Int):(n.abt k).NI:=⟨h.ci.discard,fun _=>h.ci.plain_d⟩
theorem NI.lost (h:n.NI) (x:En) (too:Bool):(n.lost x too).NI:=by
 unfold No.lost
 split
 ·split
  ·exact h.abt 2
  ·exact h.abt 1
 ·exact h
theorem NI.ask (h:n.NI) (k line:Int):(n.ask k line).1.NI:=by
 unfold No.ask
 split
 ·exact h
 ·exact ⟨h.ci,h.pl⟩
theorem NI.with_c (h:n.NI) {c:Ca} (hc:CI n.lines c) (hp:n.live=false->c.plain):NI { n with c:=c }:=⟨hc,hp⟩
theorem NI.gone (h:n.NI) (x:En):(n.gone x).1.NI:=by
 unfold No.gone
 split
 ·exact ⟨h.ci,h.pl⟩
 ·exact h
theorem NI.fillE (h:n.NI) {m:Mg} {st:Int} (hs:st=1\/st=2) (h0:0<=m.line) (h1:m.line<n.lines):(n.fillE m st).1.NI:=by
 have hb:NI { n with c:=(n.c.fill m.line st m.d).1 }:=h.with_c (h.ci.fill h0 h1 hs) fun w=>(h.pl w).fill h.ci
 unfold No.fillE
 split
 ·exact NI.gone (n:={ n with c:=(n.c.fill m.line st m.d).1 }) hb _
 ·exact hb
theorem NI.fill (h:n.NI) {m:Mg} (h0:0<=m.line) (h1:m.line<n.lines):(n.fill m).1.NI:=by
 have hs:(if m.k=15 then (2:Int) else 1)=1\/(if m.k=15 then (2:Int) else 1)=2:=by split<;>simp
 unfold No.fill No.fillS
 generalize (if m.k=15 then (2:Int) else 1)=st at hs
 split
 ·exact (h.abt 3).fillE hs h0 h1
 ·exact h.fillE hs h0 h1
theorem NI.load (h:n.NI) (a:Int):(n.load a).1.NI:=by
 unfold No.load
 split
 ·cases hf:n.c.find (ln a) with
  | none=>exact h.ask _ _
  | some x =>
   refine h.with_c (CI.word ?_ _) fun q=>?_
   ·split
    ·exact h.ci.mark _ _
    ·exact h.ci
   ·rw [qo (by rw [q];decide)];exact (h.pl q).word h.ci _
 ·exact h
theorem NI.store (h:n.NI) (a y:Int):(n.store a y).1.NI:=by
 unfold No.store
 split
 ·split
  ·refine h.with_c (CI.put ?_ _ _) fun q=>?_
   ·split
    ·exact h.ci.mark _ _
    ·exact h.ci
   ·rw [qo (by rw [q];decide)];exact (h.pl q).put h.ci _ _
  ·exact h.ask _ _
 ·exact h
theorem NI.cas (h:n.NI) (a o y:Int):(n.cas a o y).1.NI:=by
 unfold No.cas
 split
 ·split
  ·exact h
  ·split
   ·simp only
    split
    ·exact h.with_c ((h.ci.word _).put _ _) fun q=>((h.pl q).word h.ci _).put (h.ci.word _) _ _
    ·exact h.with_c (h.ci.word _) fun q=>(h.pl q).word h.ci _
   ·exact h.ask _ _
 ·exact h
theorem lost_unw {x:En} {too:Bool} {i:Nat} (h:n.NI) (hi:i<n.c.sl.length) (hv:(n.c.en i).st ≠ 0) (hx:x=n.c.en i):((n.lost x too).c.en i).w=false:=by
 unfold No.lost
 split
 ·have e:(n.c.discard).en i=back (n.c.en i):=qtd hi
  split<;>(show (n.c.discard.en i).w=false;rw [e];exact (qs4 hv).2.1)
 ·rename_i q
  rw [yn] at q
  cases hw:(n.c.en i).w with
  | false=>rfl
  | true=>exact (q (.inl (by rw [hx];exact hw))).elim
theorem lost_pos (x:En) (too:Bool) (line:Int):(n.lost x too).c.pos line=n.c.pos line:=by
 unfold No.lost
 split
 ·split<;>exact pos_map qs3 qxd line
 ·rfl
theorem NI.hear (h:n.NI) (m:Mg):(n.hear m).1.NI:=by
 unfold No.hear
 split
 ·exact h
 rename_i hg
 have h0:0<=m.line:=by have:=not_or.1 (not_or.1 hg).2;omega
 have h1:m.line<n.lines:=by have:=not_or.1 (not_or.1 (not_or.1 hg).2).2;omega
 have hd:∀ x too,NI { n.lost x too with c:=((n.lost x too).c.drop m.line).1 }:=fun x too =>
  (h.lost x too).with_c ((h.lost x too).ci.drop m.line) fun q=>((h.lost x too).pl q).drop (h.lost x too).ci m.line
 split
 ·exact hd _ _
 split
 ·cases hf:n.c.find m.line with
  | none=>exact h
  | some x =>
   simp only
   split
   ·refine (h.lost x false).with_c ((h.lost x false).ci.demote m.line fun i hi=>?_) fun q=>((h.lost x false).pl q).demote (h.lost x false).ci m.line
    obtain ⟨j,a,b⟩:=qmr hf
    rw [lost_pos,a] at hi;injection hi with hi;subst hi
    obtain ⟨-,hl,hv,-⟩:=h.ci.pos_some a
    exact lost_unw h hl hv b
   ·exact hd _ _
 split
 ·exact ⟨h.ci,h.pl⟩
 ·cases hf:n.c.find m.line with
  | some x=>exact ⟨h.ci.promote _ _,fun q=>(h.pl q).promote h.ci _ _⟩
  | none=>exact NI.fill (n:={ n with out:=⟨0,0,0,.zero⟩ }) ⟨h.ci,h.pl⟩ h0 h1
theorem NI.dropL (h:n.NI) (line:Int):(n.dropL line).1.NI:=by
 unfold No.dropL
 split
 ·exact h
 ·cases hf:n.c.find line with
  | none=>exact h
  | some x =>
   simp only
   have hb:NI (if (x.r || x.w)=true then n.abt 4 else n):=by
    split
    ·exact h.abt 4
    ·exact h
   generalize (if (x.r || x.w)=true then n.abt 4 else n)=n1 at hb
   exact NI.gone (n:={ n1 with c:=(n1.c.drop line).1 }) (hb.with_c (hb.ci.drop line) fun q=>(hb.pl q).drop hb.ci line) _
theorem NI.play (h:n.NI) (x:Sp):(n.play x).1.NI:=by
 unfold No.play
 split;· exact h.load _
 split;· exact h.store _ _
 split;· exact h.cas _ _ _
 split
 ·unfold No.begin;split
  ·exact h
  ·exact ⟨h.ci,fun q=>by cases q⟩
 split
 ·unfold No.commit;split
  ·exact ⟨h.ci.commit,fun _=>h.ci.plain_c⟩
  ·exact h
 split
 ·unfold No.abort;split
  ·split
   ·exact h
   ·exact h.abt _
  ·exact h
 split;· exact h.hear _
 split;· exact h.dropL _
 exact h
def Outs (n:No) (n':No) (l:List Mg):Prop:=n.live=true -> ∀ m ∈ l,m.k=3\/m.k=5 -> ∀ i,i<n.c.sl.length->(n.c.en i).st ≠ 0->(n.c.en i).line=m.line->(n.c.en i).w=true->m.d=(n.c.en i).o/\n'.live=false
theorem Outs.k {n n':No} {l:List Mg} (h:∀ m ∈ l,m.k ≠ 3/\m.k ≠ 5):Outs n n' l:=fun _ m hm q=>by have:=h m hm;omega
end
end No
end Go.Am
namespace Go.Am
theorem L8.put_get (x:L8) {i:Nat} (h:i<8) (y:Int):(x.put i y).get i=y:=by
 unfold L8.put L8.get
 simp only
 rw [xn (by rw [x.h];exact h)];rfl
namespace Ca
section
variable {lines:Int} {c:Ca}
structure Shp (c c':Ca):Prop where
 sets:c'.sets=c.sets
 ways:c'.ways=c.ways
 len:c'.sl.length=c.sl.length
 st:∀ i,(c'.en i).st=(c.en i).st
 line:∀ i,(c'.en i).line=(c.en i).line
theorem Shp.refl (c:Ca):Shp c c:=⟨rfl,rfl,rfl,fun _=>rfl,fun _=>rfl⟩
theorem Shp.trans {a b d:Ca} (h:Shp a b) (h':Shp b d):Shp a d:=⟨h'.sets.trans h.sets,h'.ways.trans h.ways,h'.len.trans h.len,fun i=>(h'.st i).trans (h.st i),fun i=>(h'.line i).trans (h.line i)⟩
theorem Shp.set {c:Ca} {i:Nat} {e:En} (us:Int) (hl:e.line=(c.en i).line) (hs:e.st=(c.en i).st):Shp c { c.set i e with us:=us }:=by
 have he:∀ j,Ca.en { c.set i e with us:=us } j=(c.set i e).en j:=fun j=>rfl
 have hlen:(c.set i e).sl.length=c.sl.length:=qt
 rcases z8 i c.sl.length with hi|hi
 ·refine ⟨rfl,rfl,hlen,fun j=>?_,fun j=>?_⟩<;>(rw [he,qg8 hi];by_cases q:i=j)
  ·subst q;rw [xc rfl,hs]
  ·rw [qo q]
  ·subst q;rw [xc rfl,hl]
  ·rw [qo q]
 ·have:(c.set i e)=c:=by
   unfold Ca.set
   rw [List.set_eq_of_length_le hi]
  rw [this];exact ⟨rfl,rfl,rfl,fun _=>rfl,fun _=>rfl⟩
theorem Shp.pos {c c':Ca} (h:Shp c c') (line:Int):c'.pos line=c.pos line:=by
 have hf:∀ line,c'.fr line=c.fr line:=fun line=>by unfold fr;rw [h.sets,h.ways]
 have hh:c'.hit line=c.hit line:=funext fun i=>by unfold hit;rw [hf,h.st,h.line]
 unfold Ca.pos;rw [hh,h.ways,hf]
theorem Shp.map {c:Ca} {g:En->En} (hl:∀ e,(g e).line=e.line) (hs:∀ e,(g e).st=e.st):Shp c { c with sl:=c.sl.map g }:=by
 have ho:∀ i,c.sl.length<=i->Ca.en { c with sl:=c.sl.map g } i=.zero:=fun i q=>qo4 (by show (c.sl.map g).length<=i;rw [zd];exact q)
 refine ⟨rfl,rfl,zd _,fun i=>?_,fun i=>?_⟩
 ·rcases z8 i c.sl.length with q|q
  ·rw [qtd q,hs]
  ·rw [ho i q,qo4 q]
 ·rcases z8 i c.sl.length with q|q
  ·rw [qtd q,hl]
  ·rw [ho i q,qo4 q]
def base (e:En):L8:=if e.w then e.o else e.d
structure BK (c1 c:Ca):Prop where
 sh:Shp c1 c
 b:∀ i,(c1.en i).st ≠ 0->base (c.en i)=(c1.en i).d
theorem BK.upd {c1 c:Ca} (h:BK c1 c) {i:Nat} {e:En} (hi:i<c.sl.length) (us:Int) (hl:e.line=(c.en i).line) (hs:e.st=(c.en i).st) (hb:base e=base (c.en i)):BK c1 { c.set i e with us:=us }:=by
 refine ⟨h.sh.trans (Shp.set us hl hs),fun j hj=>?_⟩
 show base ((c.set i e).en j)=_
 rw [qg8 hi]
 by_cases q:i=j
 ·subst q;rw [xc rfl,hb];exact h.b i hj
 ·rw [qo q];exact h.b j hj
theorem BK.store {c1 c:Ca} (h:BK c1 c) (hc:CI lines c) {a:Nat} {i:Nat} (hp:c.pos ((a / 8:Nat):Int)=some i) (hs:(c.en i).st=2) (y:Int):BK c1 ((c.mark ((a / 8:Nat):Int) true).put a y) /\
 ∀ j,(((c.mark ((a / 8:Nat):Int) true).put a y).en j).d=if i=j then (c.en i).d.put (a % 8) y else (c.en j).d:=by
 obtain ⟨-,hi,hv,-⟩:=hc.pos_some hp
 have hin:c.inS ((a / 8:Nat):Int) 2=some i:=by
  unfold inS;rw [hp];simp only;rw [qo fun q=>q.2 hs]
 obtain ⟨c2,h2,b2,w2,d2,p2,l2,s2⟩:∃ c2,c.mark ((a / 8:Nat):Int) true=c2/\BK c1 c2/\(c2.en i).w=true/\(∀ j,(c2.en j).d=(c.en j).d)/\c2.pos ((a / 8:Nat):Int)=some i/\i<c2.sl.length/\(c2.en i).st=2:=by
  unfold Ca.mark
  rw [xc rfl,hin]
  simp only
  cases hw:(c.en i).w with
  | true=>exact ⟨c,xc rfl,h,hw,fun _=>rfl,hp,hi,hs⟩
  | false =>
   rw [qo (by decide)]
   have hb:BK c1 { c.set i { c.en i with w:=true,o:=(c.en i).d } with us:=c.us }:=h.upd hi c.us rfl rfl (by unfold base;rw [hw];rfl)
   refine ⟨c.set i { c.en i with w:=true,o:=(c.en i).d },rfl,hb,by rw [qg8 hi,xc rfl],fun j=>?_,?_,by show i<(c.sl.set i _).length;rw [qt];exact hi,by rw [qg8 hi,xc rfl];exact hs⟩
   ·rw [qg8 hi]
    by_cases q:i=j
    ·subst q;rw [xc rfl]
    ·rw [qo q]
   ·have sh:Shp c { c.set i { c.en i with w:=true,o:=(c.en i).d } with us:=c.us }:=Shp.set c.us rfl rfl
    exact (sh.pos _).trans hp
 rw [h2]
 have hin2:c2.inS ((a / 8:Nat):Int) 2=some i:=by
  unfold inS;rw [p2];simp only;rw [qo fun q=>q.2 s2]
 unfold Ca.put
 rw [hin2]
 simp only
 refine ⟨b2.upd (e:={ c2.en i with u:=c2.us+1,d:=(c2.en i).d.put (a % 8) y }) l2 (c2.us+1) rfl rfl (by unfold base;rw [w2];rfl),fun j=>?_⟩
 show ((c2.set i { c2.en i with u:=c2.us+1,d:=(c2.en i).d.put (a % 8) y }).en j).d=_
 rw [qg8 l2]
 by_cases q:i=j
 ·subst q;rw [xc rfl,xc rfl,d2]
 ·rw [qo q,qo q,d2]
theorem BK.load {c1 c:Ca} (h:BK c1 c) (hc:CI lines c) (a:Nat) {i:Nat} (hp:c.pos ((a / 8:Nat):Int)=some i):BK c1 ((c.mark ((a / 8:Nat):Int) false).word a).1/\((c.mark ((a / 8:Nat):Int) false).word a).2=some ((c.en i).d.get (a % 8)) /\
 ∀ j,((((c.mark ((a / 8:Nat):Int) false).word a).1).en j).d=(c.en j).d:=by
 obtain ⟨-,hi,hv,-⟩:=hc.pos_some hp
 obtain ⟨c2,h2,b2,d2,p2,l2⟩:∃ c2,c.mark ((a / 8:Nat):Int) false=c2/\BK c1 c2/\(∀ j,(c2.en j).d=(c.en j).d)/\c2.pos ((a / 8:Nat):Int)=some i/\i<c2.sl.length:=by
  unfold Ca.mark
  rw [qo (by decide),inS_0,hp]
  simp only
  have hb:BK c1 { c.set i { c.en i with r:=true } with us:=c.us }:=h.upd hi c.us rfl rfl rfl
  refine ⟨c.set i { c.en i with r:=true },rfl,hb,fun j=>?_,?_,by show i<(c.sl.set i _).length;rw [qt];exact hi⟩
  ·rw [qg8 hi]
   by_cases q:i=j
   ·subst q;rw [xc rfl]
   ·rw [qo q]
  ·have sh:Shp c { c.set i { c.en i with r:=true } with us:=c.us }:=Shp.set c.us rfl rfl
   exact (sh.pos _).trans hp
 rw [h2]
 unfold Ca.word
 rw [p2]
 simp only
 refine ⟨b2.upd (e:={ c2.en i with u:=c2.us+1 }) l2 (c2.us+1) rfl rfl rfl,by rw [d2],fun j=>?_⟩
 show ((c2.set i { c2.en i with u:=c2.us+1 }).en j).d=_
 rw [qg8 l2]
 by_cases q:i=j
 ·subst q;rw [xc rfl,d2]
 ·rw [qo q,d2]
end
end Ca
open Ca
namespace No
structure NB (n1 n:No):Prop where
 ni:n.NI
 live:n.live=true
 lines:n.lines=n1.lines
 bk:BK n1.c n.c
theorem NB.ask {n1 n:No} (h:NB n1 n) (k line:Int):NB n1 (n.ask k line).1/\(n.ask k line).1.c=n.c:=by
 unfold No.ask
 split
 ·exact ⟨h,rfl⟩
 ·exact ⟨⟨⟨h.ni.ci,h.ni.pl⟩,h.live,h.lines,h.bk⟩,rfl⟩
theorem NB.store {n1 n:No} (h:NB n1 n) (a y:Int):NB n1 (n.store a y).1 /\
 ((n.store a y).2.1=true->n.may a /\ ∃ i,n.c.pos (ln a)=some i /\ ∀ j,((n.store a y).1.c.en j).d=if i=j then (n.c.en i).d.put (a.toNat % 8) y else (n.c.en j).d)/\((n.store a y).2.1=false->(n.store a y).1.c=n.c):=by
 have hni:=h.ni.store a y
 unfold No.store at hni ⊢
 split
 ·rename_i hm
  rw [xc hm] at hni
  split
  ·rename_i ho
   rw [xc ho] at hni
   unfold owned at ho
   cases hf:n.c.find (ln a) with
   | none=>rw [hf] at ho;cases ho
   | some x =>
    rw [hf] at ho
    obtain ⟨i,hp,rfl⟩:=qmr hf
    have hs:(n.c.en i).st=2:=by simpa using ho
    obtain ⟨b,d⟩:=h.bk.store (a:=a.toNat) h.ni.ci hp hs y
    rw [xc h.live] at hni ⊢
    exact ⟨⟨hni,h.live,h.lines,b⟩,fun _=>⟨hm,i,hp,d⟩,fun q=>by cases q⟩
  ·obtain ⟨p,q⟩:=h.ask 2 (ln a)
   exact ⟨p,fun w=>(by cases w),fun _=>q⟩
 ·exact ⟨h,fun w=>(by cases w),fun _=>rfl⟩
theorem NB.load {n1 n:No} (h:NB n1 n) (a:Int):NB n1 (n.load a).1/\(∀ j,((n.load a).1.c.en j).d=(n.c.en j).d)/\(n.may a -> ∀ i,n.c.pos (ln a)=some i->(n.load a).2.2.1=true/\(n.load a).2.1=(n.c.en i).d.get (a.toNat % 8)):=by
 have hni:=h.ni.load a
 unfold No.load at hni ⊢
 split
 ·rename_i hm
  rw [xc hm] at hni
  cases hf:n.c.find (ln a) with
  | none =>
   obtain ⟨p,q⟩:=h.ask 1 (ln a)
   refine ⟨p,fun j=>by show ((n.ask 1 (ln a)).1.c.en j).d=_;rw [q],fun _ i hi=>?_⟩
   unfold find at hf;rw [hi] at hf;cases hf
  | some x =>
   rw [hf] at hni
   obtain ⟨i,hp,rfl⟩:=qmr hf
   obtain ⟨b,e,d⟩:=h.bk.load (a:=a.toNat) h.ni.ci hp
   rw [xc h.live] at hni ⊢
   refine ⟨⟨hni,h.live,h.lines,b⟩,d,fun _ j hj=>⟨rfl,?_⟩⟩
   rw [hp] at hj;injection hj with hj;subst hj
   show ((n.c.mark (ln a) false).word a.toNat).2.getD 0=_
   rw [show ln a=((a.toNat / 8:Nat):Int) from rfl,e];rfl
 ·rename_i hm
  exact ⟨h,fun _=>rfl,fun q=>absurd q hm⟩
theorem NB.abt {n1 n:No} (h:NB n1 n) (k:Int):Shp n1.c (n.abt k).c /\ ∀ i,(n1.c.en i).st ≠ 0->((n.abt k).c.en i).d=(n1.c.en i).d/\((n.abt k).c.en i).r=false/\((n.abt k).c.en i).w=false:=by
 have sh:Shp n.c n.c.discard:=Shp.map qs3 qxd
 refine ⟨h.bk.sh.trans sh,fun i hi=>?_⟩
 have hil:i<n.c.sl.length:=by
  rcases z8 i n.c.sl.length with q|q
  ·exact q
  ·rw [qo4 (by rw [<-h.bk.sh.len];exact q)] at hi;exact absurd rfl hi
 have e:n.c.discard.en i=back (n.c.en i):=qtd hil
 have hv:(n.c.en i).st ≠ 0:=by rw [h.bk.sh.st];exact hi
 obtain ⟨q1,q2,q3⟩:=qs4 hv
 have hb:=h.bk.b i hi
 show (n.c.discard.en i).d=_/\(n.c.discard.en i).r=false/\(n.c.discard.en i).w=false
 rw [e]
 exact ⟨q3.trans hb,q1,q2⟩
theorem NB.cmt {n1 n:No} (h:NB n1 n):Shp n1.c n.commit.c/\n.commit.live=false /\ ∀ i,(n1.c.en i).st ≠ 0->(n.commit.c.en i).d=(n.c.en i).d/\(n.commit.c.en i).r=false/\(n.commit.c.en i).w=false:=by
 have sh:Shp n.c n.c.commit:=Shp.map q2d q2e
 have e1:n.commit = { n with c:=n.c.commit,live:=false }:=by unfold No.commit;rw [xc h.live]
 rw [e1]
 refine ⟨h.bk.sh.trans sh,rfl,fun i hi=>?_⟩
 have hil:i<n.c.sl.length:=by
  rcases z8 i n.c.sl.length with q|q
  ·exact q
  ·rw [qo4 (by rw [<-h.bk.sh.len];exact q)] at hi;exact absurd rfl hi
 have e:n.c.commit.en i=clr (n.c.en i):=qtd hil
 have hv:(n.c.en i).st ≠ 0:=by rw [h.bk.sh.st];exact hi
 obtain ⟨q1,q2,q3⟩:=q2f hv
 show (n.c.commit.en i).d=_/\(n.c.commit.en i).r=false/\(n.c.commit.en i).w=false
 rw [e]
 exact ⟨q3,q1,q2⟩
end No
end Go.Am
namespace Go.Am
open Ca No
def En.val (e:En):Bool:=e.st != 0
structure AllOf (c:Ca) (ys:List En):Prop where
 perm:ys.Perm (c.sl.filter En.val)
 srt:ys.Pairwise fun a b=>a.line<=b.line
theorem AllOf.mem {c:Ca} {ys:List En} (h:AllOf c ys) {e:En} (he:e ∈ ys):∃ i,i<c.sl.length/\c.en i=e/\(c.en i).st ≠ 0:=by
 have h1:=(h.perm.mem_iff).1 he
 rw [List.mem_filter] at h1
 obtain ⟨i,hi⟩:=qbl h1.1
 obtain ⟨a,b⟩:=en_of hi
 exact ⟨i,b,a,by rw [a];simpa [En.val] using h1.2⟩
theorem AllOf.has {c:Ca} {ys:List En} (h:AllOf c ys) {i:Nat} (hi:i<c.sl.length) (hv:(c.en i).st ≠ 0):c.en i ∈ ys:=by
 refine (h.perm.mem_iff).2 (List.mem_filter.2 ⟨jf (qjn hi),by simpa [En.val] using hv⟩)
theorem map_ext {c c':Ca} (h:Shp c c'):c'.sl.map (fun e=>(e.st,e.line))=c.sl.map fun e=>(e.st,e.line):=by
 refine vz fun i=>?_
 rw [xf,xf]
 rcases z8 i c.sl.length with q|q
 ·rw [qjn q,qjn (by rw [h.len];exact q)]
  show some ((c'.en i).st,(c'.en i).line)=some ((c.en i).st,(c.en i).line)
  rw [h.st,h.line]
 ·rw [zr q,zr (by rw [h.len];exact q)]
theorem qq8 (l:List En):(l.filter En.val).map En.line=((l.map fun e=>(e.st,e.line)).filter fun p=>p.1 != 0).map Prod.snd:=by
 induction l with
 | nil=>rfl
 | cons e l ih =>
  rw [xw,List.filter_cons,List.filter_cons]
  show List.map En.line (if (e.st != 0)=true then _ else _)=List.map Prod.snd (if (e.st != 0)=true then _ else _)
  split
  ·rw [xw,xw,ih]
  ·exact ih
theorem AllOf.both {lines:Int} {c c':Ca} (hc:CI lines c) (h:Shp c c') {ys ys':List En} (a:AllOf c ys) (a':AllOf c' ys'):ys'.length=ys.length /\ ∀ (k:Nat) (x y:En),ys[k]? = some x->ys'[k]? = some y -> ∃ i,i<c.sl.length/\(c.en i).st ≠ 0/\x=c.en i/\y=c'.en i:=by
 have hp:(ys'.map En.line).Perm (ys.map En.line):=by
  have h1:=a.perm.map En.line
  have h2:=a'.perm.map En.line
  rw [qq8,map_ext h,<-qq8] at h2
  exact h2.trans h1.symm
 have s1:(ys.map En.line).Pairwise (· <= ·):=List.pairwise_map.2 a.srt
 have s2:(ys'.map En.line).Pairwise (· <= ·):=List.pairwise_map.2 a'.srt
 have he:ys'.map En.line=ys.map En.line:=List.Perm.eq_of_pairwise (le:=(· <= ·)) (fun x y _ _ h1 h2=>Int.le_antisymm h1 h2) s2 s1 hp
 have hl:ys'.length=ys.length:=by have:=congrArg List.length he;simpa using this
 refine ⟨hl,fun k x y hx hy=>?_⟩
 have hxy:y.line=x.line:=by
  have h1:=congrArg (fun l=>l[k]?) he
  simp only [xf,hx,hy,qc3,qb] at h1
  exact h1
 obtain ⟨i,hi,ei,vi⟩:=a.mem (jf hx)
 obtain ⟨j,hj,ej,vj⟩:=a'.mem (jf hy)
 have hj:j<c.sl.length:=by rw [<-h.len];exact hj
 have:i=j:=hc.uq i j hi hj vi (by rw [<-h.st];exact vj) (by rw [ei,<-h.line,ej,hxy])
 subst this
 exact ⟨i,hi,vi,ei.symm,ej.symm⟩
structure WR (n1 n:No) (was W:List En):Prop where
 len:W.length=was.length
 at_:∀ (k:Nat) (x y:En),was[k]? = some x->W[k]? = some y -> ∃ i,i<n1.c.sl.length/\(n1.c.en i).st ≠ 0/\x=n1.c.en i/\y.line=x.line/\y.st=x.st/\y.d=(n.c.en i).d
def wput (a y:Int) (e:En):En:=if e.line=ln a then { e with d:=e.d.put (a.toNat % 8) y } else e
theorem WR.store {n1 n:No} {was W:List En} (h:WR n1 n was W) (hb:NB n1 n) {a y:Int} (hd:(n.store a y).2.1=true):WR n1 (n.store a y).1 was (W.map (wput a y)):=by
 obtain ⟨-,h2,-⟩:=hb.store a y
 obtain ⟨-,i0,hp,hdat⟩:=h2 hd
 obtain ⟨-,hi0,hv0,hl0,-⟩:=hb.ni.ci.pos_some hp
 refine ⟨by rw [zd];exact h.len,fun k x z hx hz=>?_⟩
 rw [xf,qv] at hz
 obtain ⟨w,hw,rfl⟩:=hz
 obtain ⟨i,hi,hv,ex,e1,e2,e3⟩:=h.at_ k x w hx hw
 have hlw:w.line=(n.c.en i).line:=by rw [e1,ex,hb.bk.sh.line]
 refine ⟨i,hi,hv,ex,?_,?_,?_⟩
 ·unfold wput;split<;>exact e1
 ·unfold wput;split<;>exact e2
 ·rw [hdat i]
  unfold wput
  by_cases q:w.line=ln a
  ·rw [xc q]
   have:i0=i:=hb.ni.ci.uq i0 i hi0 (by rw [hb.bk.sh.len];exact hi) hv0 (by rw [hb.bk.sh.st];exact hv) (by rw [hl0,<-hlw,q])
   subst this
   rw [xc rfl,<-e3]
  ·rw [qo q,qo]
   ·exact e3
   ·rintro rfl;exact q (hlw.trans hl0)
theorem WR.keep {n1 n n':No} {was W:List En} (h:WR n1 n was W) (hd:∀ j,(n'.c.en j).d=(n.c.en j).d):WR n1 n' was W :=
 ⟨h.len,fun k x z hx hz=>by
  obtain ⟨i,a,b,d,e,f,g⟩:=h.at_ k x z hx hz
  exact ⟨i,a,b,d,e,f,by rw [hd];exact g⟩⟩
theorem NB.read {n1 n:No} (h:NB n1 n) {a y:Int} (hd:(n.store a y).2.1=true):((n.store a y).1.load a).2.2.1=true/\((n.store a y).1.load a).2.1=y:=by
 obtain ⟨hb,h2,-⟩:=h.store a y
 obtain ⟨hm,i,hp,hdat⟩:=h2 hd
 obtain ⟨-,-,h3⟩:=hb.load a
 have hsh:Shp n1.c n.c:=h.bk.sh
 have hp2:(n.store a y).1.c.pos (ln a)=some i:=by rw [hb.bk.sh.pos,<-hsh.pos];exact hp
 have hm2:(n.store a y).1.may a:=by unfold No.may at hm ⊢;rw [hb.lines,<-h.lines];exact hm
 obtain ⟨q1,q2⟩:=h3 hm2 i hp2
 refine ⟨q1,q2.trans ?_⟩
 rw [hdat i,xc rfl,L8.put_get _ (qhc _ (by decide))]
end Go.Am
