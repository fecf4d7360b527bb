/- NmK2: mh NoUs. -/
import Derived.Test.YtiibohocdbaekaaAmRNmK1
set_option linter.unusedVariables false
set_option linter.unusedSimpArgs false
namespace Go.Am
namespace Ca
section
variable {lines:Int} {c:Ca}
theorem plain.word (h:c.plain) (hc:CI lines c) (a:Nat):(c.word a).1.plain:=by
 unfold Ca.word;cases hp:c.pos ((a / 8:Nat):Int) with
 | none=>exact h
 | some i=>obtain ⟨-,b,d,-⟩:=hc.aW hp;exact h.set b (e:={ c.en i with u:=c.us+1 }) (λ _=>h i b d) (c.us+1)
theorem plain.put (h:c.plain) (hc:CI lines c) (a:Nat) (y:Int):(c.put a y).plain:=by
 unfold Ca.put;cases hp:c.fJ ((a / 8:Nat):Int) 2 with
 | none=>exact h
 | some i =>
  obtain ⟨q,-⟩:=pP hp;obtain ⟨-,b,d,-⟩:=hc.aW q;exact h.set b (e:={ c.en i with u:=c.us+1,d:=(c.en i).d.put (a % 8) y }) (λ _=>h i b d) (c.us+1)
theorem plain.drop (h:c.plain) (hc:CI lines c) (line:Int):(c.drop line).1.plain:=by
 unfold Ca.drop;rw [i9];cases hp:c.pos line with
 | none=>exact h
 | some i=>obtain ⟨-,b,-⟩:=hc.aW hp;exact h.set b (e:=.zero) (λ q=>absurd rfl q) c.us
theorem plain.bI (h:c.plain) (hc:CI lines c) (line:Int):(c.bI line).1.plain:=by
 unfold Ca.bI;cases hp:c.fJ line 2 with
 | none=>exact h
 | some i =>
  obtain ⟨q,-⟩:=pP hp;obtain ⟨-,b,d,-⟩:=hc.aW q;exact h.set b (e:={ c.en i with st:=1 }) (λ _=>h i b d) c.us
theorem plain.bZ (h:c.plain) (hc:CI lines c) (line:Int) (x:L8):(c.bZ line x).plain:=by
 unfold Ca.bZ;cases hp:c.fJ line 1 with
 | none=>exact h
 | some i =>
  obtain ⟨q,-⟩:=pP hp;obtain ⟨-,b,d,-⟩:=hc.aW q;exact h.set b (e:={ c.en i with st:=2,d:=x }) (λ _=>h i b d) c.us
theorem plain.fill (h:c.plain) (hc:CI lines c) {line st:Int} {x:L8}:(c.fill line st x).1.plain:=by
 unfold Ca.fill;cases hp:c.pos line with
 | some _=>exact h
 | none =>
  show Ca.plain (match c.room line with|none=>(c,En.zero,(22:Int)) | some i=>({ c with us:=c.us+1,sl:=c.sl.set i ⟨line,st,false,false,x,.zero,c.us+1⟩ },c.en i,0)).1;cases hr:c.room line with
  | none=>exact h
  | some i =>
   obtain ⟨k,a,b,-⟩:=Jv hr;exact h.set (by rw [b];exact hc.fV line a) (e:=⟨line,st,false,false,x,.zero,c.us+1⟩) (λ _=>⟨rfl,rfl⟩) (c.us+1)
end
end Ca
open Ca
namespace No
structure NI (n:No):Prop where
 ci:CI n.lines n.c
 pl:n.live=false->n.c.plain
section
variable {n:No}
theorem NI.dB (h:n.NI) (k:Int):(n.dB k).NI:=⟨h.ci.discard,λ _=>h.ci.At⟩
theorem NI.lost (h:n.NI) (x:En) (too:Bool):(n.lost x too).NI:=by
 unfold No.lost;split
 ·split
  ·exact h.dB 2
  ·exact h.dB 1
 ·exact h
theorem NI.ask (h:n.NI) (k line:Int):(n.ask k line).1.NI:=by
 unfold No.ask;split
 ·exact h
 ·exact ⟨h.ci,h.pl⟩
theorem NI.gK (h:n.NI) {c:Ca} (hc:CI n.lines c) (hp:n.live=false->c.plain):NI { n with c:=c }:=⟨hc,hp⟩
theorem NI.gone (h:n.NI) (x:En):(n.gone x).1.NI:=by
 unfold No.gone;split
 ·exact ⟨h.ci,h.pl⟩
 ·exact h
theorem NI.cI (h:n.NI) {m:Mg} {st:Int} (hs:st=1\/st=2) (h0:0<=m.line) (h1:m.line<n.lines):(n.cI m st).1.NI:=by
 have hb:NI { n with c:=(n.c.fill m.line st m.d).1 }:=h.gK (h.ci.fill h0 h1 hs) λ w=>(h.pl w).fill h.ci;unfold No.cI;split
 ·exact NI.gone (n:={ n with c:=(n.c.fill m.line st m.d).1 }) hb _
 ·exact hb
theorem NI.fill (h:n.NI) {m:Mg} (h0:0<=m.line) (h1:m.line<n.lines):(n.fill m).1.NI:=by
 have hs:(if m.k=15 then (2:Int) else 1)=1\/(if m.k=15 then (2:Int) else 1)=2:=by split<;>simp
 unfold No.fill No.fZ;generalize (if m.k=15 then (2:Int) else 1)=st at hs;split
 ·exact (h.dB 3).cI hs h0 h1
 ·exact h.cI hs h0 h1
theorem NI.load (h:n.NI) (a:Int):(n.load a).1.NI:=by
 unfold No.load;split
 ·cases hf:n.c.find (ln a) with
  | none=>exact h.ask _ _
  | some x =>
   refine h.gK (CI.word ?_ _) λ q=>?_
   ·split
    ·exact h.ci.mark _ _
    ·exact h.ci
   ·rw [qd (by rw [q];decide)];exact (h.pl q).word h.ci _
 ·exact h
theorem NI.store (h:n.NI) (a y:Int):(n.store a y).1.NI:=by
 unfold No.store;split
 ·split
  ·refine h.gK (CI.put ?_ _ _) λ q=>?_
   ·split
    ·exact h.ci.mark _ _
    ·exact h.ci
   ·rw [qd (by rw [q];decide)];exact (h.pl q).put h.ci _ _
  ·exact h.ask _ _
 ·exact h
theorem NI.eD (h:n.NI) (a o y:Int):(n.eD a o y).1.NI:=by
 unfold No.eD;split
 ·split
  ·exact h
  ·split
   ·simp only;split
    ·exact h.gK ((h.ci.word _).put _ _) λ q=>((h.pl q).word h.ci _).put (h.ci.word _) _ _
    ·exact h.gK (h.ci.word _) λ q=>(h.pl q).word h.ci _
   ·exact h.ask _ _
 ·exact h
theorem LL {x:En} {too:Bool} {i:Nat} (h:n.NI) (hi:i<n.c.sl.length) (hv:(n.c.en i).st ≠ 0) (hx:x=n.c.en i):((n.lost x too).c.en i).w=false:=by
 unfold No.lost;split
 ·have e:(n.c.discard).en i=back (n.c.en i):=Fa hi;split<;>(show (n.c.discard.en i).w=false;rw [e];exact (Gu hv).2.1)
 ·rename_i q;rw [vq] at q;cases hw:(n.c.en i).w with
  | false=>rfl
  | true=>exact (q (.inl (by rw [hx];exact hw))).elim
theorem LJ (x:En) (too:Bool) (line:Int):(n.lost x too).c.pos line=n.c.pos line:=by
 unfold No.lost;split
 ·split<;>exact q9u I3 Fb line
 ·rfl
theorem NI.av (h:n.NI) (m:Mg):(n.av m).1.NI:=by
 unfold No.av;split
 ·exact h
 rename_i hg;have h0:0<=m.line:=by have:=not_or.1 (not_or.1 hg).2;omega
 have h1:m.line<n.lines:=by have:=not_or.1 (not_or.1 (not_or.1 hg).2).2;omega
 have hd:∀ x too,NI { n.lost x too with c:=((n.lost x too).c.drop m.line).1 }:=λ x too =>
  (h.lost x too).gK ((h.lost x too).ci.drop m.line) λ q=>((h.lost x too).pl q).drop (h.lost x too).ci m.line
 split
 ·exact hd _ _
 split
 ·cases hf:n.c.find m.line with
  | none=>exact h
  | some x =>
   simp only;split
   ·refine (h.lost x false).gK ((h.lost x false).ci.bI m.line λ i hi=>?_) λ q=>((h.lost x false).pl q).bI (h.lost x false).ci m.line;obtain ⟨j,a,b⟩:=E6 hf;rw [LJ,a] at hi;injection hi with hi;subst hi
    obtain ⟨-,hl,hv,-⟩:=h.ci.aW a;exact LL h hl hv b
   ·exact hd _ _
 split
 ·exact ⟨h.ci,h.pl⟩
 ·cases hf:n.c.find m.line with
  | some x=>exact ⟨h.ci.bZ _ _,λ q=>(h.pl q).bZ h.ci _ _⟩
  | none=>exact NI.fill (n:={ n with out:=⟨0,0,0,.zero⟩ }) ⟨h.ci,h.pl⟩ h0 h1
theorem NI.aQ (h:n.NI) (line:Int):(n.aQ line).1.NI:=by
 unfold No.aQ;split
 ·exact h
 ·cases hf:n.c.find line with
  | none=>exact h
  | some x =>
   simp only;have hb:NI (if (x.r || x.w)=true then n.dB 4 else n):=by
    split
    ·exact h.dB 4
    ·exact h
   generalize (if (x.r || x.w)=true then n.dB 4 else n)=n1 at hb;exact NI.gone (n:={ n1 with c:=(n1.c.drop line).1 }) (hb.gK (hb.ci.drop line) λ q=>(hb.pl q).drop hb.ci line) _
theorem NI.oM (h:n.NI) (x:Sp):(n.oM x).1.NI:=by
 unfold No.oM;split;· exact h.load _
 split;· exact h.store _ _
 split;· exact h.eD _ _ _
 split
 ·unfold No.begin;split
  ·exact h
  ·exact ⟨h.ci,λ q=>by cases q⟩
 split
 ·unfold No.bn;split
  ·exact ⟨h.ci.bn,λ _=>h.ci.pQ⟩
  ·exact h
 split
 ·unfold No.abort;split
  ·split
   ·exact h
   ·exact h.dB _
  ·exact h
 split;· exact h.av _
 split;· exact h.aQ _
 exact h
def Ih (n:No) (n':No) (l:List Mg):Prop:=n.live=true -> ∀ m ∈ l,m.k=3\/m.k=5 -> ∀ i,i<n.c.sl.length->(n.c.en i).st ≠ 0->(n.c.en i).line=m.line->(n.c.en i).w=true->m.d=(n.c.en i).o/\n'.live=false
theorem Ih.k {n n':No} {l:List Mg} (h:∀ m ∈ l,m.k ≠ 3/\m.k ≠ 5):Ih n n' l:=λ _ m hm q=>by have:=h m hm;omega
theorem DU {k:Int} {i:Nat} (hi:i<n.c.sl.length):(n.dB k).c.en i=back (n.c.en i):=Fa hi
theorem q4v {c:Ca} {line:Int} {i:Nat} (hp:c.pos line=some i):(c.drop line).2=c.en i:=by
 unfold Ca.drop;rw [i9,hp]
theorem FL {n:No} {x:En}:(n.gone x).1.live=n.live:=by unfold No.gone;split<;>rfl
theorem qx4 {n:No} {m:Mg} {st:Int}:(n.cI m st).1.live=n.live:=by
 unfold No.cI;split
 ·rw [FL]
 ·rfl
end
end No
end Go.Am
namespace Go.Am
theorem L8.Al (x:L8) {i:Nat} (h:i<8) (y:Int):(x.put i y).get i=y:=by
 unfold L8.put L8.get;simp only;rw [xp (by rw [x.h];exact h)];rfl
namespace Ca
section
variable {lines:Int} {c:Ca}
structure ry (c c':Ca):Prop where
 dk:c'.dk=c.dk
 ways:c'.ways=c.ways
 len:c'.sl.length=c.sl.length
 st:∀ i,(c'.en i).st=(c.en i).st
 line:∀ i,(c'.en i).line=(c.en i).line
theorem ry.refl (c:Ca):ry c c:=⟨rfl,rfl,rfl,λ _=>rfl,λ _=>rfl⟩
theorem ry.trans {a b d:Ca} (h:ry a b) (h':ry b d):ry a d:=⟨h'.dk.trans h.dk,h'.ways.trans h.ways,h'.len.trans h.len,λ i=>(h'.st i).trans (h.st i),λ i=>(h'.line i).trans (h.line i)⟩
theorem ry.set {c:Ca} {i:Nat} {e:En} (us:Int) (hl:e.line=(c.en i).line) (hs:e.st=(c.en i).st):ry c { c.set i e with us:=us }:=by
 have he:∀ j,Ca.en { c.set i e with us:=us } j=(c.set i e).en j:=λ j=>rfl;have hlen:(c.set i e).sl.length=c.sl.length:=qz;rcases jp i c.sl.length with hi|hi
 ·refine ⟨rfl,rfl,hlen,λ j=>?_,λ j=>?_⟩<;>(rw [he,og hi];by_cases q:i=j)
  ·subst q;rw [qm rfl,hs]
  ·rw [qd q]
  ·subst q;rw [qm rfl,hl]
  ·rw [qd q]
 ·have:(c.set i e)=c:=by
   unfold Ca.set;rw [List.set_eq_of_length_le hi]
  rw [this];exact ⟨rfl,rfl,rfl,λ _=>rfl,λ _=>rfl⟩
theorem ry.pos {c c':Ca} (h:ry c c') (line:Int):c'.pos line=c.pos line:=by
 have hf:∀ line,c'.fr line=c.fr line:=λ line=>by unfold fr;rw [h.dk,h.ways]
 have hh:c'.iI line=c.iI line:=funext λ i=>by unfold iI;rw [hf,h.st,h.line]
 unfold Ca.pos;rw [hh,h.ways,hf]
end
end Ca
end Go.Am
