/- BuKc: BmA BrA BrB BrC. -/
import Derived.Test.YtiibohocdbaekaaAmRBuK9
import Derived.Test.YtiibohocdbaekaaAmRBuK7
set_option linter.unusedVariables false
set_option linter.unusedSimpArgs false
namespace Go.Am
open No BuI
theorem Df (x:L8) {i j:Nat} (h:i ≠ j) (y:Int):(x.put i y).get j=x.get j:=by
 unfold L8.put L8.get;simp only;rw [xx h]
def KW (n n':No):Prop:=n'.live=true->n.live=true /\ ∀ l,n'.vw l=n.vw l\/(n.vw l).w=false/\(n'.vw l).w=false
theorem KW.refl (n:No):KW n n:=λ h=>⟨h,λ l=>.inl rfl⟩
def OL (n:No) (own:List Pr) (V:Int->L8):Prop:=∀ (l:Int) (i:Nat),0<=l->i<8->((n.vw l).w=true->(n.vw l).d.get i=(eU own (8*l+i)).getD ((V l).get i))/\((n.vw l).w=false->eU own (8*l+i)=none)
theorem OL.v {n:No} {own:List Pr} {V V':Int->L8} (h:OL n own V) (k:∀ l,(n.vw l).w=true->V' l=V l):OL n own V':=λ l i h0 hi=>⟨λ q=>by rw [k l q];exact (h l i h0 hi).1 q,(h l i h0 hi).2⟩
theorem OL.nil {n:No} (V:Int->L8) (h:∀ l,(n.vw l).w=false):OL n [] V:=λ l i h0 hi=>⟨λ q=>(by rw [h l] at q;cases q),λ _=>rfl⟩
theorem G9 {a:Int} (h0:0<=a):a=8*ln a+(a.toNat % 8:Nat):=by unfold ln;omega
theorem AL {l a:Int} {i:Nat} (h0:0<=a) (hl:0<=l) (hi:i<8) (e:a=8*l+i):l=ln a/\i=a.toNat % 8:=by unfold ln;omega
theorem OL.store {n n':No} {own:List Pr} {V:Int->L8} (h:OL n own V) {a y:Int} (h0:0<=a) (hb:(n.vw (ln a)).w=false->(n.vw (ln a)).d=V (ln a)) (hv:∀ l,n'.vw l=if l=ln a then (n.vw l).put true (a.toNat % 8) y else n.vw l):OL n' (own ++ [⟨a,y⟩]) V:=by
 intro l i hl hi;rw [hv l,qye];have hm:a.toNat % 8<8:=zH _ (by decide)
 by_cases q:l=ln a
 ·rw [qm q];refine ⟨λ _=>?_,λ w=>?_⟩
  ·show ((n.vw l).d.put (a.toNat % 8) y).get i=_
   by_cases e:a=8*l+i
   ·rw [qm e,<-(AL h0 hl hi e).2,L8.Al _ hi];rfl
   ·have hne:a.toNat % 8 ≠ i:=λ w=>e (by rw [q,<-w];exact G9 h0);rw [qd e,Df _ hne];cases hw:(n.vw l).w with
    | true=>exact (h l i hl hi).1 hw
    | false =>
     rw [(h l i hl hi).2 hw];rw [q] at hw ⊢;rw [hb hw];rfl
  ·have:((n.vw l).w || true)=false:=w;rw [Bool.or_true] at this;cases this
 ·rw [qd q];have e:¬ a=8*l+i:=λ e=>q (AL h0 hl hi e).1;rw [qd e];exact h l i hl hi
structure GV (b:Bu) (g:Gh) (V:Int->L8):Prop where
 w:∀ a:Int,0<=a->a<8*b.l.length->g.at' a=(V (ln a)).get (a.toNat % 8)
 o:∀ (c:Nat) n,b.ns[c]? = some n->n.live=true->OL n (g.own c) V
section
variable {b:Bu} {V:Int->L8} {g:Gh} {k:Nat}
end
end Go.Am
namespace Go.Am
open No BuI
def iN (f:Nat->Nat):Nat->Nat
 | 0=>0
 | n+1=>iN f n+f n
theorem Ld {f g:Nat->Nat}:∀ {n:Nat},(∀ l,l<n->f l=g l)->iN f n=iN g n
 | 0,_=>rfl
 | n+1,h=>by rw [iN,iN,Ld λ l hl=>h l (by omega),h n (by omega)]
theorem JH {f g:Nat->Nat} {i:Nat}:∀ {n:Nat},i<n->(∀ l,l<n->l ≠ i->f l=g l)->iN f n+g i=iN g n+f i
 | 0,hi,_=>by omega
 | n+1,hi,h=>by
  rw [iN,iN]
  by_cases e:i=n
  ·subst e;have:=Ld (f:=f) (g:=g) (n:=i) λ l hl=>h l (by omega) (by omega);omega
  ·have:=JH (f:=f) (g:=g) (i:=i) (n:=n) (by omega) λ l hl=>h l (by omega);have:=h n (by omega) (λ q=>e q.symm);omega
theorem sP {f g:Nat->Nat} {i j n:Nat} (hi:i<n) (hj:j<n) (hij:i ≠ j) (h:∀ l,l<n->l ≠ i->l ≠ j->f l=g l):iN f n+g i+g j=iN g n+f i+f j:=by
 have h1:=JH (f:=f) (g:=λ l=>if l=i then g i else f l) (i:=i) hi λ l hl q=>(qd q).symm;have h2:=JH (f:=λ l=>if l=i then g i else f l) (g:=g) (i:=j) hj λ l hl q=>by
  show (if l=i then g i else f l)=g l
  by_cases e:l=i
  ·rw [qm e,e]
  ·rw [qd e];exact h l hl e q
 simp only [qw] at h1 h2;rw [qd (vp hij)] at h2;omega
def m2 (n:No) (l:Nat):Nat:=if n.st (l:Int)=2 then 1 else 0
def mT (n:No) (L:Nat):Nat:=iN (m2 n) L
theorem ta {n n':No} {l:Nat} (h:n'.st (l:Int)=n.st (l:Int)):m2 n' l=m2 n l:=by unfold m2;rw [h]
theorem Ol {n n':No} {L:Nat} (h:∀ l:Nat,l<L->n'.st (l:Int)=n.st (l:Int)):mT n' L=mT n L:=Ld λ l hl=>ta (h l hl)
theorem F9 {n n':No} {L:Nat} {i:Int} (h0:0<=i) (h1:i<L) (h:∀ l:Int,l ≠ i->n'.st l=n.st l):mT n' L+(if n.st i=2 then 1 else 0)=mT n L+(if n'.st i=2 then 1 else 0):=by
 have:=JH (f:=m2 n') (g:=m2 n) (i:=i.toNat) (n:=L) (by omega) λ l hl q=>ta (h l (by omega));unfold m2 at this;rw [vr h0] at this;exact this
theorem xU {n n':No} {L:Nat} {i j:Int} (h0:0<=i) (h1:i<L) (j0:0<=j) (j1:j<L) (hij:i ≠ j) (h:∀ l:Int,l ≠ i->l ≠ j->n'.st l=n.st l) :
 mT n' L+(if n.st i=2 then 1 else 0)+(if n.st j=2 then 1 else 0)=mT n L+(if n'.st i=2 then 1 else 0)+(if n'.st j=2 then 1 else 0):=by
 have:=sP (f:=m2 n') (g:=m2 n) (i:=i.toNat) (j:=j.toNat) (n:=L) (by omega) (by omega) (by omega) λ l hl q1 q2=>ta (h l (by omega) (by omega));unfold m2 at this;rw [vr h0,vr j0] at this;exact this
theorem Ab.s {n n':No} {l:Int} (h:Ab n n' l):n'.st l=n.st l:=(Ab.st h).1
inductive HS (n:No) (m:Mg) (L:Nat):No->List Mg->Prop where
 | same:HS n m L n []
 | Gp (n':No) (a:Mg) (hk:m.k=11\/m.k=12\/m.k=13) (ha:a.k=4\/a.k=5\/a.k=6) (hm:mT n' L<=mT n L) (ho:n'.out=n.out):HS n m L n' [a]
 | packed (n':No) (hk:m.k=16) (hm:mT n' L=mT n L) (ho:n'.out=n.out):HS n m L n' []
 | Ee (n':No) (o:List Mg) (a:Mg) (hk:m.k=14/\n.out.k=1\/m.k=15/\n.out.k=2) (ha:a.k=7) (ho:n'.out.k=0)
  (hm:o=[]/\mT n' L=mT n L+(if m.k=15 then 1 else 0) \/ ∃ z:Mg,z.k=3/\o=[z]/\mT n' L+1=mT n L+(if m.k=15 then 1 else 0)):HS n m L n' (o ++ [a])
theorem xZ {n:No} (h:n.NI) (m:Mg) {L:Nat} (hL:n.lines=L) (t1:n.out=n.msg 1 m.line->n.st m.line=0) (t2:n.out=n.msg 2 m.line->n.st m.line ≠ 2):HS n m L (n.av m).1 (n.av m).2:=by
 by_cases hg:m.core ≠ n.core\/m.line<0\/n.lines<=m.line \/ ¬ n.cM m ((n.c.find m.line).getD .zero)
 ·have:n.av m=(n,[]):=by unfold No.av;rw [qm hg]
  rw [this];exact .same
 have hc:m.core=n.core:=by
  by_cases q:m.core=n.core
  ·exact q
  ·exact absurd (.inl q) hg
 have h0:0<=m.line:=by
  by_cases q:m.line<0
  ·exact absurd (.inr (.inl q)) hg
  ·omega
 have h1:m.line<n.lines:=by
  by_cases q:n.lines<=m.line
  ·exact absurd (.inr (.inr (.inl q))) hg
  ·omega
 have hh:n.cM m ((n.c.find m.line).getD .zero):=by
  by_cases q:n.cM m ((n.c.find m.line).getD .zero)
  ·exact q
  ·exact absurd (.inr (.inr (.inr q))) hg
 obtain ⟨es,-⟩:=Hl h m.line;have s3:n.st m.line=0\/n.st m.line=1\/n.st m.line=2:=by
  rcases h.ci.nh m.line with ⟨q,-⟩|⟨q,-⟩
  ·exact .inl q
  ·exact .inr q
 have hmk:∀ k l,(n.msg k l).k=k:=λ _ _=>rfl;have n2:∀ {x:Int},x ≠ 2->(if x=2 then (1:Nat) else 0)=0:=λ q=>qd q;rcases hh with ⟨k,s⟩|⟨k,s⟩|⟨k,o⟩|⟨k,o⟩|⟨k,o⟩
 ·rw [es] at s;obtain ⟨e,-,eo,-,hv,hab⟩:=q46 h hc h0 h1 k s;rw [e];have hz:(n.av m).1.st m.line=0:=by unfold No.st;rw [hv];rfl
  have:=F9 (n:=n) (n':=(n.av m).1) (L:=L) h0 (by omega) λ l q=>Ab.s (hab l q);rw [n2 s,hz] at this;exact .Gp _ _ (.inl k) (.inl rfl) (by simpa using Nat.le_of_eq this) eo
 ·rw [es] at s
  by_cases z:n.st m.line=0
  ·rw [gN h hc h0 h1 k z];exact .Gp _ _ (.inr k) (.inr (.inr rfl)) (qg _) rfl
  ·have s2:n.st m.line=2:=by omega
   rcases k with k|k
   ·obtain ⟨e,-,eo,-,hs1,-,-,-,hab⟩:=qvf h hc h0 h1 k s2;rw [e];have:=F9 (n:=n) (n':=(n.av m).1) (L:=L) h0 (by omega) λ l q=>Ab.s (hab l q);rw [s2,show (n.av m).1.st m.line=1 from hs1] at this;exact .Gp _ _ (.inr (.inl k)) (.inr (.inl rfl)) (by simp at this;omega) eo
   ·obtain ⟨e,-,eo,-,hv,-,hab⟩:=qvh h hc h0 h1 k s2;rw [e];have hz:(n.av m).1.st m.line=0:=by unfold No.st;rw [hv];rfl
    have:=F9 (n:=n) (n':=(n.av m).1) (L:=L) h0 (by omega) λ l q=>Ab.s (hab l q);rw [s2,hz] at this;exact .Gp _ _ (.inr (.inr k)) (.inr (.inl rfl)) (by simp at this;omega) eo
 all_goals try (rw [gy hc h0 h1 k o];exact .packed _ k (Ol λ l _=>rfl) rfl)
 all_goals
  have fillk:(m.k=14/\n.out=n.msg 1 m.line\/m.k=15/\n.out=n.msg 2 m.line)->n.st m.line=0->HS n m L (n.av m).1 (n.av m).2:=by
   intro hk hs;obtain ⟨o',e,f⟩:=NY h hc h0 h1 hk hs;rw [e];have hnew:(n.av m).1.st m.line=if m.k=15 then 2 else 1:=by unfold No.st;rw [f.new]
   have e15:(if (n.av m).1.st m.line=2 then (1:Nat) else 0)=if m.k=15 then 1 else 0:=by
    rw [hnew];by_cases q:m.k=15
    ·rw [qm q,qm q];rfl
    ·rw [qd q,qd q];rfl
   refine .Ee _ o' _ (hk.imp (λ q=>⟨q.1,by rw [q.2];rfl⟩) λ q=>⟨q.1,by rw [q.2];rfl⟩) rfl (by rw [f.out]) ?_;rcases f.go with ⟨eo,-,hab⟩|⟨b,hb,b0,b1,hvb,hab,-,hb2⟩
   ·have:=F9 (n:=n) (n':=(n.av m).1) (L:=L) h0 (by omega) λ l q=>Ab.s (hab l q);rw [hs,e15] at this;exact .inl ⟨eo,by simpa using this⟩
   ·have hzb:(n.av m).1.st b=0:=by unfold No.st;rw [hvb];rfl
    have b1:b<n.lines:=b1;have:=xU (n:=n) (n':=(n.av m).1) (L:=L) h0 (by omega) b0 (by omega) (vp hb) λ l q1 q2=>Ab.s (hab l q1 q2);rw [hs,e15,hzb] at this;rcases hb2 with ⟨sb,eo,-⟩|⟨sb,eo,-⟩
    ·have sb:n.st b=1:=sb;rw [sb] at this;exact .inl ⟨eo,by simpa using this⟩
    ·have sb:n.st b=2:=sb;rw [sb] at this;exact .inr ⟨_,rfl,eo,by simpa using this⟩
 ·exact fillk (.inl ⟨k,o⟩) (t1 o)
 ·by_cases z:n.st m.line=0
  ·exact fillk (.inr ⟨k,o⟩) z
  ·have s1:n.st m.line=1:=by have:=t2 o;omega
   obtain ⟨e,-,eo,-,-,hv⟩:=q83 h hc h0 h1 k o s1;have:=F9 (n:=n) (n':=(n.av m).1) (L:=L) h0 (by omega) λ l q=>by unfold No.st;rw [hv l,qd q]
   have hs2:(n.av m).1.st m.line=2:=by unfold No.st;rw [hv,qm rfl]
   rw [s1,hs2] at this;rw [e];exact .Ee _ [] _ (.inr ⟨k,by rw [o];rfl⟩) rfl (by rw [eo]) (.inl ⟨rfl,by rw [qm k];simpa using this⟩)
end Go.Am
namespace Go.Am
open No BuI
def pop (s:Nat):Nat:=(jR s).length
theorem q9t {s:Nat} (hs:s<16) {c:Int} (c0:0<=c) (c1:c<4):pop (aX s c)<=3/\(hb s c=1->pop (aX s c)+1=pop s):=by
 have key:∀ s:Fin 16,∀ c:Fin 4,pop (aX s.val (c.val:Int))<=3/\(hb s.val (c.val:Int)=1->pop (aX s.val (c.val:Int))+1=pop s.val):=by decide
 have:=key ⟨s,hs⟩ ⟨c.toNat,by omega⟩;simp only [vr c0] at this;exact this
theorem KL {a:Int} (a0:0<=a) (a1:a<4):pop (2 ^ a.toNat)=1:=by
 have key:∀ c:Fin 4,pop (2 ^ c.val)=1:=by decide
 exact key ⟨a.toNat,by omega⟩
def JB (n:Mg) (x':De) (o:List Mg):Prop:=(x'.ph=4 /\ ∃ z:Mg,o=[z]/\z.k=13+n.k)\/((x'.ph=1\/x'.ph=2)/\x'.un.k=n.k/\(∀ z ∈ o,z.k=11\/z.k=12\/z.k=13)/\o.length=pop x'.ask/\o.length<=3)
inductive DH (x:De) (m:Mg):De->List Mg->Prop where
 | same:DH x m x []
 | wait (x':De) (z:Mg) (hk:m.k=1\/m.k=2) (hp:x'.ph=x.ph) (hu:x'.un=x.un) (ha:x'.ask=x.ask) (hz:z.k=m.k) (hw:x'.wt=x.wt ++ [z]):DH x m x' []
 | first (x':De) (o:List Mg) (hk:m.k=1\/m.k=2) (h0:x.ph=0) (hw:x'.wt=x.wt) (hb:JB m x' o):DH x m x' o
 | next (x':De) (o:List Mg) (n:Mg) (hk:m.k=7) (h4:x.ph=4) (hn:n.k=1\/n.k=2) (hw:x.wt=n::x'.wt) (hb:JB n x' o):DH x m x' o
 | rest (x':De) (hk:m.k=7) (h4:x.ph=4) (hw:x.wt=[]) (hw':x'.wt=[]) (h0:x'.ph=0):DH x m x' []
 | bg (x':De) (z:Mg) (hk:m.k=4\/m.k=5\/m.k=6) (hp:x.ph=1\/x.ph=2) (ha:pop x.ask<=1) (hu:x.un.k=1\/x.un.k=2) (hw:x'.wt=x.wt) (h4:x'.ph=4) (hz:z.k=13+x.un.k):DH x m x' [z]
 | ack (x':De) (hk:m.k=4) (hp:x.ph=1) (ha:pop x'.ask+1=pop x.ask) (hp':x'.ph=1) (hu:x'.un=x.un) (hw:x'.wt=x.wt):DH x m x' []
 | none (x':De) (hk:m.k=6) (hp:x.ph=2) (ha:pop x.ask<=1) (hp':x'.ph=3) (hu:x'.un=x.un) (hw:x'.wt=x.wt):DH x m x' []
 | put (x':De) (a:Mg) (hk:m.k=3) (hak:a.k=16) (hp:x'.ph=x.ph) (hu:x'.un=x.un) (ha:x'.ask=x.ask) (hw:x'.wt=x.wt):DH x m x' [a]
 | Ia (x':De) (a z:Mg) (hk:m.k=3) (hak:a.k=16) (hp:x.ph=3) (hu:x.un.k=1\/x.un.k=2) (hw:x'.wt=x.wt) (h4:x'.ph=4) (hz:z.k=13+x.un.k):DH x m x' [a,z]
theorem Gn (x:De) (w:L8) (hu:x.un.k=1\/x.un.k=2):(x.bg w).1.ph=4/\(x.bg w).1.wt=x.wt/\(x.bg w).2.k=13+x.un.k:=by
 unfold De.bg;rcases hu with q|q
 ·rw [qm q,q];exact ⟨rfl,rfl,rfl⟩
 ·rw [qd (by omega),q];exact ⟨rfl,rfl,rfl⟩
theorem q70 (x:De) (n:Mg) (w:L8) (hk:n.k=1\/n.k=2) (hs:x.sh<16) (ho:x.ow<4) (c0:0<=n.core) (c1:n.core<4):(x.begin n w).1.wt=x.wt/\JB n (x.begin n w).1 (x.begin n w).2:=by
 unfold De.begin;split
 ·rename_i h0;refine ⟨rfl,.inr ⟨.inr rfl,rfl,λ z hz=>?_,?_,(by show 1<=3;decide)⟩⟩
  ·rw [xl.1 hz];show (if n.k=2 then (13:Int) else 12)=11\/_\/_;split
   ·exact .inr (.inr rfl)
   ·exact .inr (.inl rfl)
  ·show 1=pop (2 ^ x.ow.toNat);rw [KL h0 ho]
 ·split
  ·obtain ⟨g1,g2,g3⟩:=Gn { x with un:=n,ask:=aX x.sh n.core } w hk;exact ⟨g2,.inl ⟨g1,_,rfl,g3⟩⟩
  ·refine ⟨rfl,.inr ⟨.inl rfl,rfl,λ z hz=>?_,?_,?_⟩⟩
   ·obtain ⟨c,-,rfl⟩:=Bk.1 hz;exact .inl rfl
   ·show (List.map _ _).length=_;rw [zb];rfl
   ·show (List.map _ _).length<=3;rw [zb];exact (q9t hs c0 c1).1
theorem zT {x:De} {N l:Int} (h:XI x N l) (w:L8) (m:Mg) (mc:0<=m.core/\m.core<N):DH x m (x.av w m).1 (x.av w m).2.2:=by
 have N4:=h.N4;have how:=h.ow;unfold De.av
 by_cases hm:x.may m
 ·rw [qd (λ q=>q hm)];unfold De.may at hm
  by_cases k12:m.k=1\/m.k=2
  ·rw [qm k12];split
   ·rename_i hp;exact .wait _ { m with d:=.zero } k12 rfl rfl rfl rfl rfl
   ·rename_i hp;obtain ⟨b1,b2⟩:=q70 x { m with d:=.zero } w k12 h.sb (by omega) mc.1 (by show m.core<4;omega);exact .first _ _ k12 (by omega) b1 b2
  rw [qd k12] at hm ⊢
  by_cases k4:m.k=4
  ·rw [qm k4] at hm ⊢;obtain ⟨hp,hh⟩:=hm;have hu:=(h.un (by omega)).1;obtain ⟨-,pd⟩:=q9t h.ab mc.1 (show m.core<4 by omega);have pd:=pd hh;unfold De.lY;split
   ·rename_i q;obtain ⟨g1,g2,g3⟩:=Gn { x with sh:=aX x.sh m.core,ask:=aX x.ask m.core } w hu;rw [q] at pd;exact .bg _ _ (.inl k4) (.inl hp) (by have p0:=(by decide:pop 0=0);omega) hu g2 g1 g3
   ·exact .ack _ k4 hp pd hp rfl rfl
  rw [qd k4] at hm ⊢
  by_cases k5:m.k=5
  ·rw [qm k5] at hm ⊢;obtain ⟨hp,-⟩:=hm;have hu:=(h.un (by omega)).1;obtain ⟨-,a,a0,a1,ea,-⟩:=h.p2 hp;unfold De.lY;rw [qm trivial];obtain ⟨g1,g2,g3⟩:=Gn { x with ow:=-1,sh:=if x.un.k=1 then gV x.sh m.core else x.sh } m.d hu;exact .bg _ _ (.inr (.inl k5)) (.inr hp) (by rw [ea,KL a0 (by omega)];exact qg _) hu g2 g1 g3
  rw [qd k5] at hm ⊢
  by_cases k6:m.k=6
  ·rw [qm k6] at hm ⊢;obtain ⟨hp,-⟩:=hm;have hu:=(h.un (by omega)).1;obtain ⟨-,a,a0,a1,ea,-⟩:=h.p2 hp;have hpop:pop x.ask<=1:=by rw [ea,KL a0 (by omega)];exact qg _
   unfold De.lY;split
   ·obtain ⟨g1,g2,g3⟩:=Gn { x with ph:=3 } w hu;exact .bg _ _ (.inr (.inr k6)) (.inr hp) hpop hu g2 g1 g3
   ·exact .none _ k6 hp hpop rfl rfl rfl
  rw [qd k6] at hm ⊢
  by_cases k3:m.k=3
  ·rw [qm k3] at hm ⊢;unfold De.lY;split
   ·rename_i hp;have hu:=(h.un (by have hp:x.ph=3:=hp;omega)).1;obtain ⟨g1,g2,g3⟩:=Gn { x with ow:=-1 } m.d hu;exact .Ia _ _ _ k3 rfl hp hu g2 g1 g3
   ·exact .put _ _ k3 rfl rfl rfl rfl rfl
  rw [qd k3] at hm ⊢;obtain ⟨k7,hp,-⟩:=hm;cases hw:x.wt with
  | nil=>exact .rest _ k7 hp hw rfl rfl
  | cons n r =>
   obtain ⟨nk,n0,n1,-⟩:=h.wt n (by rw [hw];exact vk ..);obtain ⟨b1,b2⟩:=q70 { x with ph:=0,un:=⟨0,0,0,.zero⟩,wt:=r } n w nk h.sb (by show x.ow<4;omega) n0 (by omega);refine .next _ _ n k7 hp nk ?_ b2
   show x.wt=n::(De.begin { x with ph:=0,un:=⟨0,0,0,.zero⟩,wt:=r } n w).1.wt;rw [b1];exact hw
 ·rw [qm hm];exact .same
end Go.Am
namespace Go.Am
open No BuI
def bc {α:Type} (f:α->Nat) (l:List α):Nat:=(l.map f).sum
theorem jr {α:Type} (f:α->Nat):bc f []=0:=rfl
theorem yi {α:Type} (f:α->Nat) (a:α) (l:List α):bc f (a::l)=f a+bc f l:=by unfold bc;rw [km,List.sum_cons]
theorem DP {α:Type} (f:α->Nat) (a b:List α):bc f (a++b)=bc f a+bc f b:=by unfold bc;rw [BH,List.sum_append]
theorem Jq {α:Type} (f:α->Nat):∀ (l:List α) (i:Nat) (x y:α),l[i]? = some x->bc f (l.set i y)+f x=bc f l+f y
 | [],i,x,y,h=>by simp at h
 | a::l,0,x,y,h=>by
  have h:a=x:=by simpa using h
  subst h;rw [List.set_cons_zero,yi,yi];omega
 | a::l,i+1,x,y,h=>by
  have:=Jq f l i x y (by simpa using h);rw [List.set_cons_succ,yi,yi];omega
theorem qyf {α:Type} (f:α->Nat):∀ (l:List α) (i:Nat) (x:α),l[i]? = some x->bc f (l.eraseIdx i)+f x=bc f l
 | [],i,x,h=>by simp at h
 | a::l,0,x,h=>by
  have h:a=x:=by simpa using h
  subst h;rw [List.eraseIdx_cons_zero,yi];omega
 | a::l,i+1,x,h=>by
  have:=qyf f l i x (by simpa using h);rw [List.eraseIdx_cons_succ,yi,yi];omega
theorem A6 {α:Type} (f:α->Nat) (c:Nat):∀ (l:List α),(∀ z ∈ l,f z=c)->bc f l=c*l.length
 | [],_=>rfl
 | a::l,h=>by
  rw [yi,h a (vk ..),A6 f c l λ z hz=>h z (vd _ hz),jx,Nat.mul_succ];omega
def wT (k:Int):Nat:=if k=1\/k=2 then 11 else if k=3\/11<=k/\k<=15 then 2 else 1
def wP (k:Int):Nat:=if k=2\/k=7\/k=16 then 1 else if k=3\/k=15 then 2 else 0
def w3 (k:Int):Nat:=if k=1\/k=2\/k=14\/k=15 then 1 else 0
def w4 (k:Int):Nat:=if 4<=k/\k<=6\/11<=k/\k<=13 then 1 else 0
def p3 (ph:Int):Nat:=if ph=1\/ph=2\/ph=3 then 1 else 0
def u2 (x:De):Nat:=if x.un.k=2 then 2*p3 x.ph else 0
def c2 (l:List Mg):Nat:=bc (λ m=>if m.k=2 then 2 else 0) l
def eT (x:De):Nat:=10*x.wt.length+3*p3 x.ph
def eP (x:De):Nat:=c2 x.wt+u2 x
def e3 (x:De):Nat:=x.wt.length+p3 x.ph
def e4 (x:De):Nat:=if x.ph=1\/x.ph=2 then pop x.ask else 0
def nT (L:Nat) (n:No):Nat:=2*mT n L+if n.out.k=2 then 2 else 0
def nP (L:Nat) (n:No):Nat:=2*mT n L
def n3 (n:No):Nat:=if n.out.k=0 then 1 else 0
def mS (w:Int->Nat) (m:Mg):Nat:=w m.k
theorem q7z {n:Mg} {x':De} {o:List Mg} (hk:n.k=1\/n.k=2) (h:JB n x' o) :
 bc (mS wT) o+3*p3 x'.ph<=9/\bc (mS wP) o+u2 x'<=(if n.k=2 then 2 else 0)/\bc (mS w3) o+p3 x'.ph=1/\bc (mS w4) o<=e4 x':=by
 rcases h with ⟨hp,z,rfl,hz⟩|⟨hp,hu,ha,hl,h3⟩
 ·have p0:p3 x'.ph=0:=by rw [hp];rfl
  have u0:u2 x'=0:=by unfold u2;rw [p0];split<;>rfl
  rw [p0,u0];simp only [yi,jr,mS,hz];rcases hk with q|q<;>rw [q]<;>exact ⟨by decide,by decide,by decide,zl _⟩
 ·have p1:p3 x'.ph=1:=by rcases hp with q|q<;>rw [q]<;>rfl
  have u0:u2 x'=if n.k=2 then 2 else 0:=by unfold u2;rw [p1,hu]
  have e:e4 x'=o.length:=by unfold e4;rw [qm hp,hl]
  have l1:bc (mS wT) o=2*o.length:=A6 _ 2 o λ z hz=>by unfold mS;rcases ha z hz with q|q|q<;>rw [q]<;>rfl
  have l2:bc (mS wP) o=0*o.length:=A6 _ 0 o λ z hz=>by unfold mS;rcases ha z hz with q|q|q<;>rw [q]<;>rfl
  have l3:bc (mS w3) o=0*o.length:=A6 _ 0 o λ z hz=>by unfold mS;rcases ha z hz with q|q|q<;>rw [q]<;>rfl
  have l4:bc (mS w4) o=1*o.length:=A6 _ 1 o λ z hz=>by unfold mS;rcases ha z hz with q|q|q<;>rw [q]<;>rfl
  rw [p1,u0,e,l1,l2,l3,l4];exact ⟨by omega,by omega,by omega,by omega⟩
theorem EM (l:List Mg) (z:Mg):c2 (l ++ [z])=c2 l+if z.k=2 then 2 else 0:=by unfold c2;rw [DP,yi,jr,qe]
theorem wZ (l:List Mg) (z:Mg):c2 (z::l)=(if z.k=2 then 2 else 0)+c2 l:=yi ..
theorem EI {x x':De} {m:Mg} {o:List Mg} (h:DH x m x' o) (hm:1<=m.k/\m.k<=7) :
 bc (mS wT) o+eT x'+1<=eT x+wT m.k/\bc (mS wP) o+eP x'<=eP x+wP m.k+1/\bc (mS w3) o+e3 x'<=e3 x+w3 m.k/\bc (mS w4) o+e4 x<=w4 m.k+e4 x':=by
 have t1:1<=wT m.k:=by
  unfold wT
  repeat' split
  all_goals omega
 unfold eT eP e3;cases h with
 | same=>exact ⟨by rw [jr];omega,by rw [jr];omega,by rw [jr];omega,by rw [jr];omega⟩
 | wait x' z hk hp hu ha hz hw =>
  have hu2:u2 x'=u2 x:=by unfold u2;rw [hu,hp]
  have he4:e4 x'=e4 x:=by unfold e4;rw [hp,ha]
  rw [jr,jr,jr,jr,hw,hp,hu2,he4,qu,EM,hz];rcases hk with q|q<;>rw [q]<;>simp (config:={ decide:=true }) only [wT,wP,w3,w4,qw,qo,jx,vx]<;>refine ⟨by omega,by omega,by omega,by omega⟩
 | first x' o hk h0 hw hb =>
  obtain ⟨b1,b2,b3,b4⟩:=q7z hk hb;have p0:p3 x.ph=0:=by rw [h0];rfl
  have he4:e4 x=0:=by unfold e4;rw [h0];rfl
  rw [hw,p0,he4];rcases hk with q|q<;>rw [q] at b2 ⊢<;>refine ⟨by simp only [show wT 1=11 from rfl,show wT 2=11 from rfl];omega,?_,by simp only [show w3 1=1 from rfl,show w3 2=1 from rfl];omega,by omega⟩
  ·simp (config:={ decide:=true }) only [wP,qw,qo] at b2 ⊢;omega
  ·simp (config:={ decide:=true }) only [wP,qw,qo] at b2 ⊢;omega
 | next x' o n hk h4 hn hw hb =>
  obtain ⟨b1,b2,b3,b4⟩:=q7z hn hb;have p0:p3 x.ph=0:=by rw [h4];rfl
  have he4:e4 x=0:=by unfold e4;rw [h4];rfl
  rw [hw,p0,he4,jx,wZ,hk];exact ⟨by simp only [show wT 7=1 from rfl];omega,by simp only [show wP 7=1 from rfl];omega,by simp only [show w3 7=0 from rfl];omega,by omega⟩
 | rest x' hk h4 hw hw' h0 =>
  have p0:p3 x.ph=0:=by rw [h4];rfl
  have p0':p3 x'.ph=0:=by rw [h0];rfl
  have u0:u2 x'=0:=by unfold u2;rw [p0'];split<;>rfl
  have he4:e4 x=0:=by unfold e4;rw [h4];rfl
  rw [jr,jr,jr,jr,hw',hw,p0,p0',u0,he4];refine ⟨by omega,?_,by omega,by omega⟩;have:c2 []=0:=rfl;omega
 | bg x' z hk hp ha hu hw h4 hz =>
  have p1:p3 x.ph=1:=by rcases hp with q|q<;>rw [q]<;>rfl
  have p0':p3 x'.ph=0:=by rw [h4];rfl
  have u0:u2 x'=0:=by unfold u2;rw [p0'];split<;>rfl
  have u1:u2 x=if x.un.k=2 then 2 else 0:=by unfold u2;rw [p1]
  have he4:e4 x<=1:=by unfold e4;rw [qm hp];exact ha
  have wk:wT m.k=1/\w3 m.k=0/\w4 m.k=1:=by rcases hk with q|q|q<;>rw [q]<;>exact ⟨rfl,rfl,rfl⟩
  obtain ⟨k1,k2,k3⟩:=wk;rw [hw,p1,p0',u0,u1,k1,k2,k3];simp only [yi,jr,mS,hz];rcases hu with q|q<;>rw [q]<;>simp (config:={ decide:=true }) only [wT,wP,w3,w4,qw,qo]<;>refine ⟨by omega,by omega,by omega,by omega⟩
 | ack x' hk hp ha hp' hu hw =>
  have p1:p3 x.ph=1:=by rw [hp];rfl
  have p1':p3 x'.ph=1:=by rw [hp'];rfl
  have hu2:u2 x'=u2 x:=by unfold u2;rw [hu,hp,hp']
  have he4:e4 x=pop x.ask:=by unfold e4;rw [qm (.inl hp)]
  have he4':e4 x'=pop x'.ask:=by unfold e4;rw [qm (.inl hp')]
  rw [jr,jr,jr,jr,hw,p1,p1',hu2,he4,he4',hk];exact ⟨by simp only [show wT 4=1 from rfl];omega,by omega,by omega,by simp only [show w4 4=1 from rfl];omega⟩
 | none x' hk hp ha hp' hu hw =>
  have p1:p3 x.ph=1:=by rw [hp];rfl
  have p1':p3 x'.ph=1:=by rw [hp'];rfl
  have hu2:u2 x'=u2 x:=by unfold u2;rw [hu,p1,p1']
  have he4:e4 x=pop x.ask:=by unfold e4;rw [qm (.inr hp)]
  rw [jr,jr,jr,jr,hw,p1,p1',hu2,he4,hk];exact ⟨by simp only [show wT 6=1 from rfl];omega,by omega,by omega,by simp only [show w4 6=1 from rfl];omega⟩
 | put x' a hk hak hp hu ha hw =>
  have hu2:u2 x'=u2 x:=by unfold u2;rw [hu,hp]
  have he4:e4 x'=e4 x:=by unfold e4;rw [hp,ha]
  rw [hw,hp,hu2,he4,hk];simp only [yi,jr,mS,hak];exact ⟨by simp only [show wT 16=1 from rfl,show wT 3=2 from rfl];omega,by simp only [show wP 16=1 from rfl];omega,by simp only [show w3 16=0 from rfl];omega,by simp only [show w4 16=0 from rfl];omega⟩
 | Ia x' a z hk hak hp hu hw h4 hz =>
  have p1:p3 x.ph=1:=by rw [hp];rfl
  have p0':p3 x'.ph=0:=by rw [h4];rfl
  have u0:u2 x'=0:=by unfold u2;rw [p0'];split<;>rfl
  have u1:u2 x=if x.un.k=2 then 2 else 0:=by unfold u2;rw [p1]
  have he4:e4 x=0:=by unfold e4;rw [hp];rfl
  rw [hw,p1,p0',u0,u1,he4,hk];simp only [yi,jr,mS,hz,hak];rcases hu with q|q<;>rw [q]<;>simp (config:={ decide:=true }) only [wT,wP,w3,w4,qw,qo]<;>refine ⟨by omega,by omega,by omega,by omega⟩
end Go.Am
