/- NmK2: nM NoUs NoVs. -/
import Derived.Test.YtiibohocdbaekaaGreatAmCNmK1
import Derived.Test.YtiibohocdbaekaaGreatAmCNmK0
set_option linter.unusedVariables false
set_option linter.unusedSimpArgs false
namespace Go.Am
namespace Ca
section
variable {lines:Int} {c:Ca}
theorem plain.word (h:c.plain) (hc:CI lines c) (a:Nat):(c.word a).1.plain:=by
 unfold Ca.word;cases hp:c.pos ((a / 8:Nat):Int) with
 | none=>exact h
 | some i=>obtain ⟨-,b,d,-⟩:=hc.aN hp;exact h.set b (e:={ c.en i with u:=c.us+1 }) (λ _=>h i b d) (c.us+1)
theorem plain.put (h:c.plain) (hc:CI lines c) (a:Nat) (y:Int):(c.put a y).plain:=by
 unfold Ca.put;cases hp:c.gq ((a / 8:Nat):Int) 2 with
 | none=>exact h
 | some i =>
  obtain ⟨q,-⟩:=rL hp;obtain ⟨-,b,d,-⟩:=hc.aN q;exact h.set b (e:={ c.en i with u:=c.us+1,d:=(c.en i).d.put (a % 8) y }) (λ _=>h i b d) (c.us+1)
theorem plain.drop (h:c.plain) (hc:CI lines c) (line:Int):(c.drop line).1.plain:=by
 unfold Ca.drop;rw [lF];cases hp:c.pos line with
 | none=>exact h
 | some i=>obtain ⟨-,b,-⟩:=hc.aN hp;exact h.set b (e:=.zero) (λ q=>absurd rfl q) c.us
theorem plain.bq (h:c.plain) (hc:CI lines c) (line:Int):(c.bq line).1.plain:=by
 unfold Ca.bq;cases hp:c.gq line 2 with
 | none=>exact h
 | some i =>
  obtain ⟨q,-⟩:=rL hp;obtain ⟨-,b,d,-⟩:=hc.aN q;exact h.set b (e:={ c.en i with st:=1 }) (λ _=>h i b d) c.us
theorem plain.bH (h:c.plain) (hc:CI lines c) (line:Int) (x:L8):(c.bH line x).plain:=by
 unfold Ca.bH;cases hp:c.gq line 1 with
 | none=>exact h
 | some i =>
  obtain ⟨q,-⟩:=rL hp;obtain ⟨-,b,d,-⟩:=hc.aN q;exact h.set b (e:={ c.en i with st:=2,d:=x }) (λ _=>h i b d) c.us
theorem plain.fill (h:c.plain) (hc:CI lines c) {line st:Int} {x:L8}:(c.fill line st x).1.plain:=by
 unfold Ca.fill;cases hp:c.pos line with
 | some _=>exact h
 | none =>
  show Ca.plain (match c.room line with|none=>(c,En.zero,(22:Int)) | some i=>({ c with us:=c.us+1,sl:=c.sl.set i ⟨line,st,false,false,x,.zero,c.us+1⟩ },c.en i,0)).1;cases hr:c.room line with
  | none=>exact h
  | some i =>
   obtain ⟨k,a,b,-⟩:=LL hr;exact h.set (by rw [b];exact hc.gk line a) (e:=⟨line,st,false,false,x,.zero,c.us+1⟩) (λ _=>⟨rfl,rfl⟩) (c.us+1)
end
end Ca
open Ca
namespace No
structure NI (n:No):Prop where
 ci:CI n.lines n.c
 pl:n.live=false->n.c.plain
section
variable {n:No}
theorem NI.dO (h:n.NI) (k:Int):(n.dO k).NI:=⟨h.ci.discard,λ _=>h.ci.Co⟩
theorem NI.lost (h:n.NI) (x:En) (too:Bool):(n.lost x too).NI:=by
 unfold No.lost;split
 ·split
  ·exact h.dO 2
  ·exact h.dO 1
 ·exact h
theorem NI.ask (h:n.NI) (k line:Int):(n.ask k line).1.NI:=by
 unfold No.ask;split
 ·exact h
 ·exact ⟨h.ci,h.pl⟩
theorem NI.hZ (h:n.NI) {c:Ca} (hc:CI n.lines c) (hp:n.live=false->c.plain):NI { n with c:=c }:=⟨hc,hp⟩
theorem NI.gone (h:n.NI) (x:En):(n.gone x).1.NI:=by
 unfold No.gone;split
 ·exact ⟨h.ci,h.pl⟩
 ·exact h
theorem NI.bV (h:n.NI) {m:Mg} {st:Int} (hs:st=1\/st=2) (h0:0<=m.line) (h1:m.line<n.lines):(n.bV m st).1.NI:=by
 have hb:NI { n with c:=(n.c.fill m.line st m.d).1 }:=h.hZ (h.ci.fill h0 h1 hs) λ w=>(h.pl w).fill h.ci;unfold No.bV;split
 ·exact NI.gone (n:={ n with c:=(n.c.fill m.line st m.d).1 }) hb _
 ·exact hb
theorem NI.fill (h:n.NI) {m:Mg} (h0:0<=m.line) (h1:m.line<n.lines):(n.fill m).1.NI:=by
 have hs:(if m.k=15 then (2:Int) else 1)=1\/(if m.k=15 then (2:Int) else 1)=2:=by split<;>simp
 unfold No.fill No.fG;generalize (if m.k=15 then (2:Int) else 1)=st at hs;split
 ·exact (h.dO 3).bV hs h0 h1
 ·exact h.bV hs h0 h1
theorem NI.load (h:n.NI) (a:Int):(n.load a).1.NI:=by
 unfold No.load;split
 ·cases hf:n.c.find (ln a) with
  | none=>exact h.ask _ _
  | some x =>
   refine h.hZ (CI.word ?_ _) λ q=>?_
   ·split
    ·exact h.ci.mark _ _
    ·exact h.ci
   ·rw [qg (by rw [q];decide)];exact (h.pl q).word h.ci _
 ·exact h
theorem NI.store (h:n.NI) (a y:Int):(n.store a y).1.NI:=by
 unfold No.store;split
 ·split
  ·refine h.hZ (CI.put ?_ _ _) λ q=>?_
   ·split
    ·exact h.ci.mark _ _
    ·exact h.ci
   ·rw [qg (by rw [q];decide)];exact (h.pl q).put h.ci _ _
  ·exact h.ask _ _
 ·exact h
theorem NI.fq (h:n.NI) (a o y:Int):(n.fq a o y).1.NI:=by
 unfold No.fq;split
 ·split
  ·exact h
  ·split
   ·simp only;split
    ·exact h.hZ ((h.ci.word _).put _ _) λ q=>((h.pl q).word h.ci _).put (h.ci.word _) _ _
    ·exact h.hZ (h.ci.word _) λ q=>(h.pl q).word h.ci _
   ·exact h.ask _ _
 ·exact h
theorem NU {x:En} {too:Bool} {i:Nat} (h:n.NI) (hi:i<n.c.sl.length) (hv:(n.c.en i).st ≠ 0) (hx:x=n.c.en i):((n.lost x too).c.en i).w=false:=by
 unfold No.lost;split
 ·have e:(n.c.discard).en i=back (n.c.en i):=Gn hi;split<;>(show (n.c.discard.en i).w=false;rw [e];exact (JP hv).2.1)
 ·rename_i q;rw [yj] at q;cases hw:(n.c.en i).w with
  | false=>rfl
  | true=>exact (q (.inl (by rw [hx];exact hw))).elim
theorem Pk (x:En) (too:Bool) (line:Int):(n.lost x too).c.pos line=n.c.pos line:=by
 unfold No.lost;split
 ·split<;>exact q6y Lk Gm line
 ·rfl
theorem NI.az (h:n.NI) (m:Mg):(n.az m).1.NI:=by
 unfold No.az;split
 ·exact h
 rename_i hg;have h0:0<=m.line:=by have:=not_or.1 (not_or.1 hg).2;omega
 have h1:m.line<n.lines:=by have:=not_or.1 (not_or.1 (not_or.1 hg).2).2;omega
 have hd:∀ x too,NI { n.lost x too with c:=((n.lost x too).c.drop m.line).1 }:=λ x too =>
  (h.lost x too).hZ ((h.lost x too).ci.drop m.line) λ q=>((h.lost x too).pl q).drop (h.lost x too).ci m.line
 split
 ·exact hd _ _
 split
 ·cases hf:n.c.find m.line with
  | none=>exact h
  | some x =>
   simp only;split
   ·refine (h.lost x false).hZ ((h.lost x false).ci.bq m.line λ i hi=>?_) λ q=>((h.lost x false).pl q).bq (h.lost x false).ci m.line;obtain ⟨j,a,b⟩:=CS hf;rw [Pk,a] at hi;injection hi with hi;subst hi
    obtain ⟨-,hl,hv,-⟩:=h.ci.aN a;exact NU h hl hv b
   ·exact hd _ _
 split
 ·exact ⟨h.ci,h.pl⟩
 ·cases hf:n.c.find m.line with
  | some x=>exact ⟨h.ci.bH _ _,λ q=>(h.pl q).bH h.ci _ _⟩
  | none=>exact NI.fill (n:={ n with out:=⟨0,0,0,.zero⟩ }) ⟨h.ci,h.pl⟩ h0 h1
theorem NI.aH (h:n.NI) (line:Int):(n.aH line).1.NI:=by
 unfold No.aH;split
 ·exact h
 ·cases hf:n.c.find line with
  | none=>exact h
  | some x =>
   simp only;have hb:NI (if (x.r || x.w)=true then n.dO 4 else n):=by
    split
    ·exact h.dO 4
    ·exact h
   generalize (if (x.r || x.w)=true then n.dO 4 else n)=n1 at hb;exact NI.gone (n:={ n1 with c:=(n1.c.drop line).1 }) (hb.hZ (hb.ci.drop line) λ q=>(hb.pl q).drop hb.ci line) _
theorem NI.oU (h:n.NI) (x:Sp):(n.oU x).1.NI:=by
 unfold No.oU;split;· exact h.load _
 split;· exact h.store _ _
 split;· exact h.fq _ _ _
 split
 ·unfold No.begin;split
  ·exact h
  ·exact ⟨h.ci,λ q=>by cases q⟩
 split
 ·unfold No.bj;split
  ·exact ⟨h.ci.bj,λ _=>h.ci.rC⟩
  ·exact h
 split
 ·unfold No.abort;split
  ·split
   ·exact h
   ·exact h.dO _
  ·exact h
 split;· exact h.az _
 split;· exact h.aH _
 exact h
def Jh (n:No) (n':No) (l:List Mg):Prop:=n.live=true -> ∀ m ∈ l,m.k=3\/m.k=5 -> ∀ i,i<n.c.sl.length->(n.c.en i).st ≠ 0->(n.c.en i).line=m.line->(n.c.en i).w=true->m.d=(n.c.en i).o/\n'.live=false
theorem Jh.k {n n':No} {l:List Mg} (h:∀ m ∈ l,m.k ≠ 3/\m.k ≠ 5):Jh n n' l:=λ _ m hm q=>by have:=h m hm;omega
theorem D4 {k:Int} {i:Nat} (hi:i<n.c.sl.length):(n.dO k).c.en i=back (n.c.en i):=Gn hi
theorem q1n {c:Ca} {line:Int} {i:Nat} (hp:c.pos line=some i):(c.drop line).2=c.en i:=by
 unfold Ca.drop;rw [lF,hp]
theorem FZ {n:No} {x:En}:(n.gone x).1.live=n.live:=by unfold No.gone;split<;>rfl
theorem quy {n:No} {m:Mg} {st:Int}:(n.bV m st).1.live=n.live:=by
 unfold No.bV;split
 ·rw [FZ]
 ·rfl
end
end No
end Go.Am
namespace Go.Am
namespace Ca
section
variable {lines:Int} {c:Ca}
structure Cz (c c':Ca):Prop where
 cW:c'.cW=c.cW
 ways:c'.ways=c.ways
 len:c'.sl.length=c.sl.length
 st:∀ i,(c'.en i).st=(c.en i).st
 line:∀ i,(c'.en i).line=(c.en i).line
theorem Cz.refl (c:Ca):Cz c c:=⟨rfl,rfl,rfl,λ _=>rfl,λ _=>rfl⟩
theorem Cz.set {c:Ca} {i:Nat} {e:En} (us:Int) (hl:e.line=(c.en i).line) (hs:e.st=(c.en i).st):Cz c { c.set i e with us:=us }:=by
 have he:∀ j,Ca.en { c.set i e with us:=us } j=(c.set i e).en j:=λ j=>rfl;have hlen:(c.set i e).sl.length=c.sl.length:=qv;rcases zt i c.sl.length with hi|hi
 ·refine ⟨rfl,rfl,hlen,λ j=>?_,λ j=>?_⟩<;>(rw [he,qF hi];by_cases q:i=j)
  ·subst q;rw [ql rfl,hs]
  ·rw [qg q]
  ·subst q;rw [ql rfl,hl]
  ·rw [qg q]
 ·have:(c.set i e)=c:=by
   unfold Ca.set;rw [List.set_eq_of_length_le hi]
  rw [this];exact ⟨rfl,rfl,rfl,λ _=>rfl,λ _=>rfl⟩
theorem Cz.pos {c c':Ca} (h:Cz c c') (line:Int):c'.pos line=c.pos line:=by
 have hf:∀ line,c'.fr line=c.fr line:=λ line=>by unfold fr;rw [h.cW,h.ways]
 have hh:c'.iX line=c.iX line:=funext λ i=>by unfold iX;rw [hf,h.st,h.line]
 unfold Ca.pos;rw [hh,h.ways,hf]
end
end Ca
end Go.Am
namespace Go.Am
open Ca No
def En.val (e:En):Bool:=e.st != 0
structure lH (c:Ca) (ys:List En):Prop where
 perm:ys.Perm (c.sl.filter En.val)
 srt:ys.Pairwise λ a b=>a.line<=b.line
theorem lH.mem {c:Ca} {ys:List En} (h:lH c ys) {e:En} (he:e ∈ ys):∃ i,i<c.sl.length/\c.en i=e/\(c.en i).st ≠ 0:=by
 have h1:=(h.perm.mem_iff).1 he;rw [va] at h1;obtain ⟨i,hi⟩:=ki h1.1;obtain ⟨a,b⟩:=yA hi;exact ⟨i,b,a,by rw [a];simpa [En.val] using h1.2⟩
theorem lH.has {c:Ca} {ys:List En} (h:lH c ys) {i:Nat} (hi:i<c.sl.length) (hv:(c.en i).st ≠ 0):c.en i ∈ ys:=by
 refine (h.perm.mem_iff).2 (va.2 ⟨zg (rO hi),by simpa [En.val] using hv⟩)
end Go.Am
