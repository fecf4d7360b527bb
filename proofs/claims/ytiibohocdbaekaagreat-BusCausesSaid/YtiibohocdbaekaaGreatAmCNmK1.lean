/- NmK1: NoP NoQ bR NoS. -/
import Derived.Test.YtiibohocdbaekaaGreatAmCB4
set_option linter.unusedVariables false
set_option linter.unusedSimpArgs false
namespace Go.Am
structure L8 where
 l:List Int
 h:l.length=8
namespace L8
theorem eq {a b:L8} (h:a.l=b.l):a=b:=by cases a;cases b;simp only at h;subst h;rfl
instance:DecidableEq L8:=λ a b=>if h:a.l=b.l then isTrue (L8.eq h) else isFalse λ q=>h (by rw [q])
def zero:L8:=⟨[0,0,0,0,0,0,0,0],rfl⟩
def put (x:L8) (i:Nat) (y:Int):L8:=⟨x.l.set i y,by rw [qv];exact x.h⟩
def get (x:L8) (i:Nat):Int:=x.l[i]?.getD 0
end L8
structure En where
 line:Int
 st:Int
 r:Bool
 w:Bool
 d:L8
 o:L8
 u:Int
def En.zero:En:=⟨0,0,false,false,.zero,.zero,0⟩
def b9 (p:Nat->Bool):Nat->Option Nat
 | 0=>none
 | n+1=>match b9 p n with
  | some i=>some i
  | none=>if p n then some n else none
theorem Eg {p:Nat->Bool}:∀ {n:Nat},(∀ j,j<n->p j=false)->b9 p n=none
 | 0,_=>rfl
 | n+1,h=>by rw [b9,Eg λ j hj=>h j (by omega),h n (by omega)];rfl
theorem GC {p:Nat->Bool} {i:Nat}:∀ {n:Nat},i<n->p i=true->(∀ j,j<i->p j=false)->b9 p n=some i
 | 0,h,_,_=>by omega
 | n+1,h,hp,hl=>by
  rw [b9];rcases zt i n with q|q
  ·rw [GC q hp hl]
  ·have:i=n:=by omega
   subst this;rw [Eg hl,hp];rfl
theorem E7 {p:Nat->Bool} {i:Nat}:∀ {n:Nat},b9 p n=some i->i<n/\p i=true /\ ∀ j,j<i->p j=false
 | 0,h=>by cases h
 | n+1,h=>by
  rw [b9] at h;cases hf:b9 p n with
  | some k =>
   rw [hf] at h;injection h with h;subst h
   obtain ⟨a,b,c⟩:=E7 hf;exact ⟨by omega,b,c⟩
  | none =>
   rw [hf] at h;simp only at h;split at h
   ·rename_i hp;injection h with h;subst h
    refine ⟨by omega,hp,λ j hj=>?_⟩;cases hq:p j with
    | false=>rfl
    | true =>
     exfalso;exact firstN_not (n:=n) hf j hj hq
   ·cases h
where
 firstN_not {p:Nat->Bool}:∀ {n:Nat},b9 p n=none -> ∀ j,j<n->p j=true->False
 | 0,_,j,hj,_=>by omega
 | n+1,h,j,hj,hp=>by
  rw [b9] at h;cases hf:b9 p n with
  | some k=>rw [hf] at h;cases h
  | none =>
   rw [hf] at h;simp only at h;split at h
   ·cases h
   ·rename_i hq;rcases zt j n with q|q
    ·exact firstN_not hf j q hp
    ·exact hq (by rw [<-show j=n by omega];exact hp)
theorem OZ {p:Nat->Bool} {n:Nat} (h:b9 p n=none):∀ j,j<n->p j=false:=λ j hj=>by
 cases hq:p j with
 | false=>rfl
 | true=>exact (E7.firstN_not h j hj hq).elim
structure Ca where
 cW:Nat
 ways:Nat
 sl:List En
 us:Int
namespace Ca
def fr (c:Ca) (line:Int):Nat:=(line.toNat % c.cW)*c.ways
def en (c:Ca) (i:Nat):En:=c.sl[i]?.getD .zero
def iX (c:Ca) (line:Int) (i:Nat):Bool:=(c.en (c.fr line+i)).st != 0 && (c.en (c.fr line+i)).line == line
def pos (c:Ca) (line:Int):Option Nat:=if line<0 then none else (b9 (c.iX line) c.ways).map (c.fr line + ·)
def set (c:Ca) (i:Nat) (e:En):Ca:={ c with sl:=c.sl.set i e }
def find (c:Ca) (line:Int):Option En:=(c.pos line).map c.en
def use (c:Ca) (i:Nat):Ca:={ c with us:=c.us+1,sl:=c.sl.set i { c.en i with u:=c.us+1 } }
def word (c:Ca) (a:Nat):Ca × Option Int:=match c.pos ((a / 8:Nat):Int) with
 | none=>(c,none)
 | some i=>(c.use i,some ((c.en i).d.get (a % 8)))
def gq (c:Ca) (line st:Int):Option Nat:=match c.pos line with
 | none=>none
 | some i=>if st ≠ 0/\(c.en i).st ≠ st then none else some i
def put (c:Ca) (a:Nat) (y:Int):Ca:=match c.gq ((a / 8:Nat):Int) 2 with
 | none=>c
 | some i=>{ c with us:=c.us+1,sl:=c.sl.set i { c.en i with u:=c.us+1,d:=(c.en i).d.put (a % 8) y } }
def mark (c:Ca) (line:Int) (wr:Bool):Ca:=if wr then
 match c.gq line 2 with
 | none=>c
 | some i=>if (c.en i).w then c else c.set i { c.en i with w:=true,o:=(c.en i).d }
 else match c.gq line 0 with
  | none=>c
  | some i=>c.set i { c.en i with r:=true }
def bq (c:Ca) (line:Int):Ca × L8:=match c.gq line 2 with
 | none=>(c,.zero)
 | some i=>(c.set i { c.en i with st:=1 },(c.en i).d)
def bH (c:Ca) (line:Int) (d:L8):Ca:=match c.gq line 1 with
 | none=>c
 | some i=>c.set i { c.en i with st:=2,d:=d }
def drop (c:Ca) (line:Int):Ca × En:=match c.gq line 0 with
 | none=>(c,.zero)
 | some i=>(c.set i .zero,c.en i)
def kH (e:En):En:=if e.st=0 then e else { e with r:=false,w:=false,o:=.zero }
def back (e:En):En:=if e.st=0 then e else { e with r:=false,w:=false,o:=.zero,d:=if e.w then e.o else e.d }
def bj (c:Ca):Ca:={ c with sl:=c.sl.map kH }
def discard (c:Ca):Ca:={ c with sl:=c.sl.map back }
def eE (c:Ca) (line:Int):Nat->Option Nat
 | 0=>none
 | n+1=>if (c.en (c.fr line+n)).r || (c.en (c.fr line+n)).w then c.eE line n else match c.eE line n with
  | none=>some n
  | some j=>if (c.en (c.fr line+n)).u<(c.en (c.fr line+j)).u then some n else some j
def free (c:Ca) (line:Int) (i:Nat):Bool:=(c.en (c.fr line+i)).st == 0
def room (c:Ca) (line:Int):Option Nat:=match b9 (c.free line) c.ways with
 | some i=>some (c.fr line+i)
 | none=>(c.eE line c.ways).map (c.fr line + ·)
def fill (c:Ca) (line st:Int) (d:L8):Ca × En × Int :=
 match c.pos line with
 | some _=>(c,.zero,21)
 | none=>match c.room line with
  | none=>(c,.zero,22)
  | some i=>({ c with us:=c.us+1,sl:=c.sl.set i ⟨line,st,false,false,d,.zero,c.us+1⟩ },c.en i,0)
end Ca
end Go.Am
namespace Go.Am
structure Mg where
 k:Int
 core:Int
 line:Int
 d:L8
 deriving DecidableEq
structure No where
 core:Int
 lines:Int
 c:Ca
 out:Mg
 aq:List Int
 live:Bool
 code:Int
namespace No
def may (n:No) (a:Int):Prop:=0<=a/\a<n.lines*8
instance (n:No) (a:Int):Decidable (n.may a):=inferInstanceAs (Decidable (_/\_))
def msg (n:No) (k line:Int):Mg:=⟨k,n.core,line,.zero⟩
def ask (n:No) (k line:Int):No × List Mg:=if n.out.k ≠ 0\/line ∈ n.aq then (n,[]) else ({ n with out:=n.msg k line },[n.msg k line])
def ln (a:Int):Int:=((a.toNat / 8:Nat):Int)
def load (n:No) (a:Int):No × Int × Bool × List Mg × Int :=
 if n.may a then match n.c.find (ln a) with
  | none=>((n.ask 1 (ln a)).1,0,false,(n.ask 1 (ln a)).2,0)
  | some _=>({ n with c:=((if n.live then n.c.mark (ln a) false else n.c).word a.toNat).1 },((if n.live then n.c.mark (ln a) false else n.c).word a.toNat).2.getD 0,true,[],0)
 else (n,0,false,[],2)
def owned (n:No) (line:Int):Bool:=match n.c.find line with
 | none=>false
 | some x=>x.st == 2
def store (n:No) (a y:Int):No × Bool × List Mg × Int :=
 if n.may a then if n.owned (ln a) then ({ n with c:=(if n.live then n.c.mark (ln a) true else n.c).put a.toNat y },true,[],0)
  else ((n.ask 2 (ln a)).1,false,(n.ask 2 (ln a)).2,0)
 else (n,false,[],2)
def fq (n:No) (a old y:Int):No × List Mg :=
 if n.may a then if n.live then (n,[]) else if n.owned (ln a) then
  ({ n with c:=if (n.c.word a.toNat).2.getD 0=old then (n.c.word a.toNat).1.put a.toNat y else (n.c.word a.toNat).1 },[])
  else n.ask 2 (ln a)
 else (n,[])
def begin (n:No):No:=if n.live then n else { n with live:=true,code:=0 }
def bj (n:No):No:=if n.live then { n with c:=n.c.bj,live:=false } else n
def dO (n:No) (code:Int):No:={ n with c:=n.c.discard,live:=false,code:=code }
def abort (n:No) (code:Int):No × Int:=if n.live then if code<1\/7<code then (n,2) else (n.dO code,0) else (n,40)
def lost (n:No) (x:En) (too:Bool):No:=if x.w || (x.r && too) then if x.line=0 then n.dO 2 else n.dO 1 else n
def cR (n:No) (m:Mg) (x:En):Prop :=
 m.k=11/\x.st ≠ 2\/(m.k=12\/m.k=13)/\x.st ≠ 1\/m.k=14/\n.out=n.msg 1 m.line\/m.k=15/\n.out=n.msg 2 m.line\/m.k=16/\m.line ∈ n.aq
instance (n:No) (m:Mg) (x:En):Decidable (n.cR m x):=inferInstanceAs (Decidable (_\/_))
def gone (n:No) (x:En):No × List Mg:=if x.st=2 then ({ n with aq:=n.aq ++ [x.line] },[⟨3,n.core,x.line,x.d⟩]) else (n,[])
def bV (n:No) (m:Mg) (st:Int):No × List Mg :=
 if (n.c.fill m.line st m.d).2.2=0/\(n.c.fill m.line st m.d).2.1.st ≠ 0 then gone { n with c:=(n.c.fill m.line st m.d).1 } (n.c.fill m.line st m.d).2.1
 else ({ n with c:=(n.c.fill m.line st m.d).1 },[])
def fG (n:No) (m:Mg) (st:Int):No × List Mg:=if (n.c.fill m.line st m.d).2.2=22 then (n.dO 3).bV m st else n.bV m st
def fill (n:No) (m:Mg):No × List Mg:=n.fG m (if m.k=15 then 2 else 1)
end No
end Go.Am
namespace Go.Am
namespace Ca
structure CI (lines:Int) (c:Ca):Prop where
 len:c.sl.length=c.cW*c.ways
 s0:0<c.cW
 w0:0<c.ways
 ok:∀ i,i<c.sl.length->(c.en i).st ≠ 0->((c.en i).st=1\/(c.en i).st=2)/\0<=(c.en i).line/\(c.en i).line<lines/\i / c.ways=(c.en i).line.toNat % c.cW/\((c.en i).w=true->(c.en i).st=2)
 uq:∀ i j,i<c.sl.length->j<c.sl.length->(c.en i).st ≠ 0->(c.en j).st ≠ 0->(c.en i).line=(c.en j).line->i=j
theorem rO {c:Ca} {i:Nat} (h:i<c.sl.length):c.sl[i]? = some (c.en i):=by
 unfold en;rw [qy h];rfl
theorem yA {c:Ca} {i:Nat} {e:En} (h:c.sl[i]? = some e):c.en i=e/\i<c.sl.length:=by
 unfold en;rw [h];exact ⟨rfl,(qe.1 h).1⟩
theorem qF {c:Ca} {i j:Nat} {e:En} (h:i<c.sl.length):(c.set i e).en j=if i=j then e else c.en j:=by
 unfold en set
 by_cases q:i=j
 ·subst q;rw [ql rfl];simp [qu h]
 ·rw [qg q];simp only;rw [qm q]
theorem MI {c:Ca} {i:Nat} (h:c.sl.length<=i):c.en i=.zero:=by
 unfold en;rw [xz h];rfl
section
variable {lines:Int} {c:Ca}
theorem CI.gk (h:CI lines c) (line:Int) {k:Nat} (hk:k<c.ways):c.fr line+k<c.sl.length:=by
 have h1:line.toNat % c.cW<c.cW:=Nat.mod_lt _ h.s0;have h2:(line.toNat % c.cW+1)*c.ways<=c.cW*c.ways:=jl _ h1;rw [j4,Nat.one_mul] at h2;unfold fr;rw [h.len];omega
theorem CI.xU (h:CI lines c) (line:Int) {k:Nat} (hk:k<c.ways):(c.fr line+k) / c.ways=line.toNat % c.cW:=by
 unfold fr;rw [Nat.add_comm,Nat.add_mul_div_right _ _ h.w0,Nat.div_eq_of_lt hk,jy]
theorem CI.aN (h:CI lines c) {line:Int} {i:Nat} (hp:c.pos line=some i):0<=line/\i<c.sl.length/\(c.en i).st ≠ 0/\(c.en i).line=line /\ ∃ k,k<c.ways/\i=c.fr line+k/\b9 (c.iX line) c.ways=some k:=by
 unfold pos at hp;split at hp
 ·cases hp
 ·rename_i hl;rw [xe] at hp;obtain ⟨k,hk,rfl⟩:=hp;obtain ⟨a,b,-⟩:=E7 hk;unfold iX at b;simp only [xh,bne_iff_ne,ne_eq,AN] at b;exact ⟨by omega,h.gk line a,b.1,b.2,k,a,rfl,hk⟩
theorem CI.p9 (h:CI lines c) {i:Nat} (hi:i<c.sl.length) (hv:(c.en i).st ≠ 0):c.pos (c.en i).line=some i:=by
 obtain ⟨-,a,-,b,-⟩:=h.ok i hi hv;have hk:i % c.ways<c.ways:=Nat.mod_lt _ h.w0;have hfr:c.fr (c.en i).line+i % c.ways=i:=by
  unfold fr;rw [<-b];exact Nat.div_add_mod' i c.ways
 unfold pos;rw [qg (by omega),GC (i:=i % c.ways) hk]
 ·show some (c.fr (c.en i).line+i % c.ways)=some i;rw [hfr]
 ·unfold iX;rw [hfr];simp [hv]
 ·intro j hj;cases hq:c.iX (c.en i).line j with
  | false=>rfl
  | true =>
   unfold iX at hq;simp only [xh,bne_iff_ne,ne_eq,AN] at hq;have:=h.uq _ _ (h.gk (c.en i).line (show j<c.ways by omega)) hi hq.1 hv hq.2;omega
theorem CI.pC (h:CI lines c) {line:Int} (hp:c.pos line=none):∀ i,i<c.sl.length->(c.en i).st ≠ 0->(c.en i).line ≠ line:=λ i hi hv q=>by
 have:=h.p9 hi hv;rw [q,hp] at this;cases this
theorem CI.Fz (h:CI lines c) {i:Nat} (hi:i<c.sl.length) {e:En} (hv:(c.en i).st ≠ 0) (hl:e.line=(c.en i).line) (hs:e.st=1\/e.st=2) (hw:e.w=true->e.st=2):CI lines (c.set i e):=by
 have hlen:(c.set i e).sl.length=c.sl.length:=by show (c.sl.set i e).length=_;rw [qv]
 have hst:e.st ≠ 0:=by omega
 obtain ⟨-,a,b,d,-⟩:=h.ok i hi hv;refine ⟨by rw [hlen];exact h.len,h.s0,h.w0,λ j hj hvj=>?_,λ j k hj hk hvj hvk q=>?_⟩
 ·rw [hlen] at hj;rw [qF hi] at hvj ⊢
  by_cases q:i=j
  ·subst q;rw [ql rfl,hl];exact ⟨hs,a,b,d,hw⟩
  ·rw [qg q] at hvj ⊢;exact h.ok j hj hvj
 ·rw [hlen] at hj hk;rw [qF hi] at hvj q;rw [qF hi] at hvk q
  by_cases q1:i=j
  ·by_cases q2:i=k
   ·omega
   ·rw [ql q1,qg q2,hl] at q;rw [qg q2] at hvk;rw [<-q1];exact h.uq i k hi hk hv hvk q
  ·by_cases q2:i=k
   ·rw [qg q1,ql q2,hl] at q;rw [qg q1] at hvj;rw [<-q2];exact h.uq j i hj hi hvj hv q
   ·rw [qg q1,qg q2] at q;rw [qg q1] at hvj;rw [qg q2] at hvk;exact h.uq j k hj hk hvj hvk q
theorem CI.off (h:CI lines c) {i:Nat} (hi:i<c.sl.length):CI lines (c.set i .zero):=by
 have hlen:(c.set i .zero).sl.length=c.sl.length:=by show (c.sl.set i .zero).length=_;rw [qv]
 have hz:∀ j,((c.set i .zero).en j).st ≠ 0->i ≠ j/\(c.set i .zero).en j=c.en j:=λ j hj=>by
  rw [qF hi] at hj ⊢
  by_cases q:i=j
  ·rw [ql q] at hj;exact absurd rfl hj
  ·rw [qg q];exact ⟨q,rfl⟩
 refine ⟨by rw [hlen];exact h.len,h.s0,h.w0,λ j hj hvj=>?_,λ j k hj hk hvj hvk q=>?_⟩
 ·rw [hlen] at hj;have:=(hz j hvj).2;rw [this] at hvj ⊢;exact h.ok j hj hvj
 ·rw [hlen] at hj hk;have e1:=(hz j hvj).2;have e2:=(hz k hvk).2;rw [e1] at hvj q;rw [e2] at hvk q;exact h.uq j k hj hk hvj hvk q
theorem CI.DP (h:CI lines c) {i k:Nat} {line:Int} {e:En} (hk:k<c.ways) (hi:i=c.fr line+k) (hn:c.pos line=none) (hl:e.line=line) (h0:0<=line) (h1:line<lines) (hs:e.st=1\/e.st=2) (hw:e.w=false):CI lines (c.set i e):=by
 have hil:i<c.sl.length:=by rw [hi];exact h.gk line hk
 have hlen:(c.set i e).sl.length=c.sl.length:=by show (c.sl.set i e).length=_;rw [qv]
 have hne:=h.pC hn;refine ⟨by rw [hlen];exact h.len,h.s0,h.w0,λ j hj hvj=>?_,λ j m hj hm hvj hvm q=>?_⟩
 ·rw [hlen] at hj;rw [qF hil] at hvj ⊢
  by_cases q:i=j
  ·rw [ql q,hl];exact ⟨hs,h0,h1,by rw [<-q,hi];exact h.xU line hk,λ q=>by rw [hw] at q;cases q⟩
  ·rw [qg q] at hvj ⊢;exact h.ok j hj hvj
 ·rw [hlen] at hj hm;rw [qF hil] at hvj q;rw [qF hil] at hvm q
  by_cases q1:i=j
  ·by_cases q2:i=m
   ·omega
   ·rw [ql q1,qg q2,hl] at q;rw [qg q2] at hvm;exact (hne m hm hvm q.symm).elim
  ·by_cases q2:i=m
   ·rw [qg q1,ql q2,hl] at q;rw [qg q1] at hvj;exact (hne j hj hvj q).elim
   ·rw [qg q1,qg q2] at q;rw [qg q1] at hvj;rw [qg q2] at hvm;exact h.uq j m hj hm hvj hvm q
theorem CI.map (h:CI lines c) {g:En->En} (hl:∀ e,(g e).line=e.line) (hs:∀ e,(g e).st=e.st) (hw:∀ e,e.st ≠ 0->(g e).w=true->e.w=true) (us:Int):CI lines { c with sl:=c.sl.map g,us:=us }:=by
 have hlen:(c.sl.map g).length=c.sl.length:=xu _;have he:∀ j,j<c.sl.length->Ca.en { c with sl:=c.sl.map g,us:=us } j=g (c.en j):=λ j hj=>by
  unfold en;simp only [xg];rw [qy hj];rfl
 refine ⟨by show (c.sl.map g).length=_;rw [hlen];exact h.len,h.s0,h.w0,λ j hj hvj=>?_,λ j k hj hk hvj hvk q=>?_⟩
 ·have hj:j<c.sl.length:=by rw [<-hlen];exact hj
  rw [he j hj] at hvj ⊢;rw [hs] at hvj;obtain ⟨a,b,d,e,f⟩:=h.ok j hj hvj;rw [hl,hs];exact ⟨a,b,d,e,λ q=>f (hw _ hvj q)⟩
 ·have hj:j<c.sl.length:=by rw [<-hlen];exact hj
  have hk:k<c.sl.length:=by rw [<-hlen];exact hk
  rw [he j hj] at hvj q;rw [he k hk] at hvk q;rw [hs] at hvj hvk;rw [hl,hl] at q;exact h.uq j k hj hk hvj hvk q
theorem CI.us (h:CI lines c) (u:Int):CI lines { c with us:=u }:=⟨h.len,h.s0,h.w0,h.ok,h.uq⟩
end
end Ca
end Go.Am
namespace Go.Am
namespace No
def az (n:No) (m:Mg):No × List Mg :=
 if m.core ≠ n.core\/m.line<0\/n.lines<=m.line \/ ¬ n.cR m ((n.c.find m.line).getD .zero) then (n,[])
 else if m.k=11 then ({ n.lost ((n.c.find m.line).getD .zero) true with c:=((n.lost ((n.c.find m.line).getD .zero) true).c.drop m.line).1 },[n.msg 4 m.line])
 else if m.k=12\/m.k=13 then match n.c.find m.line with
  | none=>(n,[n.msg 6 m.line])
  | some x =>
   if m.k=12 then ({ n.lost x false with c:=((n.lost x false).c.bq m.line).1 },[⟨5,n.core,m.line,((n.lost x false).c.bq m.line).2⟩])
   else ({ n.lost x true with c:=((n.lost x true).c.drop m.line).1 },[⟨5,n.core,m.line,((n.lost x true).c.drop m.line).2.d⟩])
 else if m.k=16 then ({ n with aq:=n.aq.filter (· ≠ m.line) },[])
 else match n.c.find m.line with
  | some _=>({ n with out:=⟨0,0,0,.zero⟩,c:=n.c.bH m.line m.d },[n.msg 7 m.line])
  | none=>((fill { n with out:=⟨0,0,0,.zero⟩ } m).1,(fill { n with out:=⟨0,0,0,.zero⟩ } m).2 ++ [n.msg 7 m.line])
def aH (n:No) (line:Int):No × List Mg :=
 if line<0\/n.lines<=line then (n,[]) else match n.c.find line with
  | none=>(n,[])
  | some x =>
   gone { (if x.r || x.w then n.dO 4 else n) with c:=((if x.r || x.w then n.dO 4 else n).c.drop line).1 } ((if x.r || x.w then n.dO 4 else n).c.drop line).2
end No
structure Sp where
 k:Int
 n:Int
 v:Int
 o:Int
 m:Mg
def No.oU (n:No) (x:Sp):No × List Mg :=
 if x.k=0 then ((n.load x.n).1,(n.load x.n).2.2.2.1)
 else if x.k=1 then ((n.store x.n x.v).1,(n.store x.n x.v).2.2.1)
 else if x.k=2 then n.fq x.n x.o x.v
 else if x.k=3 then (n.begin,[])
 else if x.k=4 then (n.bj,[])
 else if x.k=5 then ((n.abort x.n).1,[])
 else if x.k=6 then n.az x.m
 else if x.k=7 then n.aH x.n
 else (n,[])
namespace Ca
section
variable {lines:Int} {c:Ca}
theorem Ct {g:En->En} (hl:∀ e,(g e).line=e.line) (hs:∀ e,(g e).st=e.st) (line:Int) (i:Nat):Ca.iX { c with sl:=c.sl.map g } line i=c.iX line i:=by
 have he:∀ j,(Ca.en { c with sl:=c.sl.map g } j).st=(c.en j).st/\((Ca.en { c with sl:=c.sl.map g } j).st ≠ 0->(Ca.en { c with sl:=c.sl.map g } j).line=(c.en j).line):=λ j=>by
  unfold en;simp only [xg];cases hq:c.sl[j]? with
  | none=>exact ⟨rfl,λ q=>absurd rfl q⟩
  | some e=>exact ⟨hs e,λ _=>hl e⟩
 have hf:Ca.fr { c with sl:=c.sl.map g } line=c.fr line:=rfl;unfold iX;rw [hf];obtain ⟨a,b⟩:=he (c.fr line+i);rw [a] at b ⊢
 by_cases q:(c.en (c.fr line+i)).st=0
 ·rw [q];rfl
 ·rw [b q]
theorem q6y {g:En->En} (hl:∀ e,(g e).line=e.line) (hs:∀ e,(g e).st=e.st) (line:Int):Ca.pos { c with sl:=c.sl.map g } line=c.pos line:=by
 have:Ca.iX { c with sl:=c.sl.map g } line=c.iX line:=funext λ i=>Ct hl hs line i;unfold pos;rw [this];rfl
theorem Gn {g:En->En} {i:Nat} (hi:i<c.sl.length):Ca.en { c with sl:=c.sl.map g } i=g (c.en i):=by
 unfold en;simp only [xg];rw [qy hi];rfl
theorem Lk (e:En):(back e).line=e.line:=by unfold back;split<;>rfl
theorem Gm (e:En):(back e).st=e.st:=by unfold back;split<;>rfl
theorem q1j (e:En):(kH e).line=e.line:=by unfold kH;split<;>rfl
theorem KY (e:En):(kH e).st=e.st:=by unfold kH;split<;>rfl
theorem JP {e:En} (h:e.st ≠ 0):(back e).r=false/\(back e).w=false/\(back e).d=if e.w then e.o else e.d:=by unfold back;rw [qg h];exact ⟨rfl,rfl,rfl⟩
theorem Ql {e:En} (h:e.st ≠ 0):(kH e).r=false/\(kH e).w=false/\(kH e).d=e.d:=by unfold kH;rw [qg h];exact ⟨rfl,rfl,rfl⟩
def plain (c:Ca):Prop:=∀ i,i<c.sl.length->(c.en i).st ≠ 0->(c.en i).r=false/\(c.en i).w=false
theorem CI.discard (h:CI lines c):CI lines c.discard:=by
 refine (h.map (g:=back) Lk Gm (λ e he q=>?_) c.us);rw [(JP he).2.1] at q;cases q
theorem CI.bj (h:CI lines c):CI lines c.bj:=by
 refine (h.map (g:=kH) q1j KY (λ e he q=>?_) c.us);rw [(Ql he).2.1] at q;cases q
theorem CI.Co (h:CI lines c):c.discard.plain:=λ i hi hv=>by
 have hi:i<c.sl.length:=by have:c.discard.sl.length=c.sl.length:=xu _;omega
 have e:c.discard.en i=back (c.en i):=Gn hi;rw [e] at hv ⊢;rw [Gm] at hv;exact ⟨(JP hv).1,(JP hv).2.1⟩
theorem CI.rC (h:CI lines c):c.bj.plain:=λ i hi hv=>by
 have hi:i<c.sl.length:=by have:c.bj.sl.length=c.sl.length:=xu _;omega
 have e:c.bj.en i=kH (c.en i):=Gn hi;rw [e] at hv ⊢;rw [KY] at hv;exact ⟨(Ql hv).1,(Ql hv).2.1⟩
theorem plain.set (h:c.plain) {i:Nat} (hi:i<c.sl.length) {e:En} (hr:e.st ≠ 0->e.r=false/\e.w=false) (us:Int):Ca.plain { c.set i e with us:=us }:=λ j hj hv=>by
 have hj:j<c.sl.length:=by have:(c.sl.set i e).length=c.sl.length:=qv;have hj:j<(c.sl.set i e).length:=hj;omega
 have e1:Ca.en { c.set i e with us:=us } j=(c.set i e).en j:=rfl;rw [e1,qF hi] at hv ⊢
 by_cases q:i=j
 ·rw [ql q] at hv ⊢;exact hr hv
 ·rw [qg q] at hv ⊢;exact h j hj hv
theorem CS {line:Int} {x:En} (h:c.find line=some x):∃ i,c.pos line=some i/\x=c.en i:=by
 unfold find at h;rw [xe] at h;obtain ⟨i,a,b⟩:=h;exact ⟨i,a,b.symm⟩
theorem rL {line st:Int} {i:Nat} (h:c.gq line st=some i):c.pos line=some i/\(st ≠ 0->(c.en i).st=st):=by
 unfold gq at h;cases hp:c.pos line with
 | none=>rw [hp] at h;cases h
 | some k =>
  rw [hp] at h;simp only at h;split at h
  ·cases h
  ·rename_i hc;injection h with h;subst h
   exact ⟨rfl,λ q=>vg.1 λ w=>hc ⟨q,w⟩⟩
theorem lF {line:Int}:c.gq line 0=c.pos line:=by
 unfold gq;cases c.pos line with
 | none=>rfl
 | some k=>simp only;rw [qg (λ q=>q.1 rfl)]
theorem CI.use (h:CI lines c) {i:Nat} (hi:i<c.sl.length) (hv:(c.en i).st ≠ 0):CI lines (c.use i):=by
 obtain ⟨a,-,-,-,b⟩:=h.ok i hi hv;exact (h.Fz hi (e:={ c.en i with u:=c.us+1 }) hv rfl a b).us (c.us+1)
theorem CI.word (h:CI lines c) (a:Nat):CI lines (c.word a).1:=by
 unfold Ca.word;cases hp:c.pos ((a / 8:Nat):Int) with
 | none=>exact h
 | some i=>obtain ⟨-,b,d,-⟩:=h.aN hp;exact h.use b d
theorem CI.put (h:CI lines c) (a:Nat) (y:Int):CI lines (c.put a y):=by
 unfold Ca.put;cases hp:c.gq ((a / 8:Nat):Int) 2 with
 | none=>exact h
 | some i =>
  obtain ⟨q,-⟩:=rL hp;obtain ⟨-,b,d,-⟩:=h.aN q;obtain ⟨k,-,-,-,l⟩:=h.ok i b d;exact (h.Fz b (e:={ c.en i with u:=c.us+1,d:=(c.en i).d.put (a % 8) y }) d rfl k l).us (c.us+1)
theorem CI.mark (h:CI lines c) (line:Int) (wr:Bool):CI lines (c.mark line wr):=by
 unfold Ca.mark;cases wr with
 | true =>
  rw [ql rfl];cases hp:c.gq line 2 with
  | none=>exact h
  | some i =>
   obtain ⟨q,s⟩:=rL hp;obtain ⟨-,b,d,-⟩:=h.aN q;show CI lines (if (c.en i).w then c else c.set i { c.en i with w:=true,o:=(c.en i).d });split
   ·exact h
   ·exact h.Fz b d rfl (.inr (s (by decide))) λ _=>s (by decide)
 | false =>
  rw [qg (by decide)];cases hp:c.gq line 0 with
  | none=>exact h
  | some i =>
   obtain ⟨q,-⟩:=rL hp;obtain ⟨-,b,d,-⟩:=h.aN q;obtain ⟨k,-,-,-,l⟩:=h.ok i b d;exact h.Fz b (e:={ c.en i with r:=true }) d rfl k l
theorem CI.drop (h:CI lines c) (line:Int):CI lines (c.drop line).1:=by
 unfold Ca.drop;rw [lF];cases hp:c.pos line with
 | none=>exact h
 | some i=>obtain ⟨-,b,-⟩:=h.aN hp;exact h.off b
theorem CI.bq (h:CI lines c) (line:Int) (hu:∀ i,c.pos line=some i->(c.en i).w=false):CI lines (c.bq line).1:=by
 unfold Ca.bq;cases hp:c.gq line 2 with
 | none=>exact h
 | some i =>
  obtain ⟨q,-⟩:=rL hp;obtain ⟨-,b,d,-⟩:=h.aN q;have hw:=hu i q;exact h.Fz b (e:={ c.en i with st:=1 }) d rfl (.inl rfl) λ w=>by rw [hw] at w;cases w
theorem CI.bH (h:CI lines c) (line:Int) (x:L8):CI lines (c.bH line x):=by
 unfold Ca.bH;cases hp:c.gq line 1 with
 | none=>exact h
 | some i =>
  obtain ⟨q,-⟩:=rL hp;obtain ⟨-,b,d,-⟩:=h.aN q;exact h.Fz b (e:={ c.en i with st:=2,d:=x }) d rfl (.inr rfl) λ _=>rfl
theorem LI {line:Int}:∀ {n i:Nat},c.eE line n=some i->i<n/\(c.en (c.fr line+i)).r=false/\(c.en (c.fr line+i)).w=false
 | 0,i,h=>by cases h
 | n+1,i,h=>by
  rw [eE] at h;split at h
  ·obtain ⟨a,b⟩:=LI h;exact ⟨by omega,b⟩
  ·rename_i hm;have hm:(c.en (c.fr line+n)).r=false/\(c.en (c.fr line+n)).w=false:=by simpa using hm
   cases hb:c.eE line n with
   | none=>rw [hb] at h;injection h with h;subst h;exact ⟨by omega,hm⟩
   | some j =>
    rw [hb] at h;simp only at h;obtain ⟨a,b⟩:=LI hb;split at h<;>(injection h with h;subst h)
    ·exact ⟨by omega,hm⟩
    ·exact ⟨by omega,b⟩
theorem LL {line:Int} {i:Nat} (h:c.room line=some i):∃ k,k<c.ways/\i=c.fr line+k/\((c.en i).st=0\/(c.en i).r=false/\(c.en i).w=false):=by
 unfold room at h;cases hf:b9 (c.free line) c.ways with
 | some k =>
  rw [hf] at h;injection h with h;subst h
  obtain ⟨a,b,-⟩:=E7 hf;exact ⟨k,a,rfl,.inl (by unfold free at b;simpa using b)⟩
 | none =>
  rw [hf] at h;simp only [xe] at h;obtain ⟨k,hk,rfl⟩:=h;obtain ⟨a,b⟩:=LI hk;exact ⟨k,a,rfl,.inr b⟩
theorem CI.fill (h:CI lines c) {line st:Int} {x:L8} (h0:0<=line) (h1:line<lines) (hs:st=1\/st=2):CI lines (c.fill line st x).1:=by
 unfold Ca.fill;cases hp:c.pos line with
 | some _=>exact h
 | none =>
  show CI lines (match c.room line with|none=>(c,En.zero,(22:Int)) | some i=>({ c with us:=c.us+1,sl:=c.sl.set i ⟨line,st,false,false,x,.zero,c.us+1⟩ },c.en i,0)).1;cases hr:c.room line with
  | none=>exact h
  | some i =>
   obtain ⟨k,a,b,-⟩:=LL hr;exact (h.DP (e:=⟨line,st,false,false,x,.zero,c.us+1⟩) a b hp rfl h0 h1 hs rfl).us (c.us+1)
end
end Ca
end Go.Am
