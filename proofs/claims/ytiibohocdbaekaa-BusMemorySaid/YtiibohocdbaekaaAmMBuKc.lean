/- BuKc: BmA BmB. -/
import Derived.Test.YtiibohocdbaekaaAmMBuK9
import Derived.Test.YtiibohocdbaekaaAmMBuK7
set_option linter.unusedVariables false
set_option linter.unusedSimpArgs false
namespace Go.Am
open No BuI
theorem rS (x:L8) {i j:Nat} (h:i ≠ j) (y:Int):(x.put i y).get j=x.get j:=by
 unfold L8.put L8.get;simp only;rw [xt h]
def KW (n n':No):Prop:=n'.live=true->n.live=true /\ ∀ l,n'.vw l=n.vw l\/(n.vw l).w=false/\(n'.vw l).w=false
theorem KW.refl (n:No):KW n n:=λ h=>⟨h,λ l=>.inl rfl⟩
theorem Ab.kw {n n':No} {l:Int} (h:Ab n n' l) (hl:n'.live=true):n'.vw l=n.vw l:=by
 rcases h with ⟨-,h⟩|⟨h,-⟩
 ·exact h
 ·rw [h] at hl;cases hl
theorem uK {n:No} (h:n.NI) {l:Int} (hs:n.st l ≠ 2):(n.vw l).w=false:=by
 rcases h.ci.nG l with ⟨-,q⟩|⟨-,-,-,q⟩
 ·have e:n.vw l=.no:=Ca.gN q;rw [e];rfl
 ·cases hw:(n.vw l).w with
  | false=>rfl
  | true=>exact absurd (q hw) hs
theorem yS {n:No} (h:n.NI) (l:Int):KW n (n.aO l).1:=by
 by_cases hs:n.st l=0
 ·rw [q4u h hs];exact KW.refl n
 ·obtain ⟨-,-,hv,hab,hlv,-⟩:=q1o h hs;intro hl;rcases hlv with ⟨e,hw⟩|e
  ·refine ⟨by rw [<-e];exact hl,λ i=>?_⟩
   by_cases q:i=l
   ·rw [q];exact .inr ⟨hw,by rw [hv];rfl⟩
   ·exact .inl (Ab.kw (hab i q) hl)
  ·rw [e] at hl;cases hl
theorem yH {n:No} (h:n.NI) (m:Mg) (t1:n.out=n.msg 1 m.line->n.st m.line=0) (t2:n.out=n.msg 2 m.line->n.st m.line ≠ 2):KW n (n.az m).1:=by
 by_cases hg:m.core ≠ n.core\/m.line<0\/n.lines<=m.line \/ ¬ n.cI m ((n.c.find m.line).getD .zero)
 ·have:(n.az m).1=n:=by unfold No.az;rw [qm hg]
  rw [this];exact KW.refl n
 have hc:m.core=n.core:=by
  by_cases q:m.core=n.core
  ·exact q
  ·exact absurd (.inl q) hg
 have h0:0<=m.line:=by
  by_cases q:m.line<0
  ·exact absurd (.inr (.inl q)) hg
  ·omega
 have h1:m.line<n.lines:=by
  by_cases q:n.lines<=m.line
  ·exact absurd (.inr (.inr (.inl q))) hg
  ·omega
 have hh:n.cI m ((n.c.find m.line).getD .zero):=by
  by_cases q:n.cI m ((n.c.find m.line).getD .zero)
  ·exact q
  ·exact absurd (.inr (.inr (.inr q))) hg
 obtain ⟨es,-⟩:=HJ h m.line;have s3:n.st m.line=0\/n.st m.line=1\/n.st m.line=2:=by
  rcases h.ci.nG m.line with ⟨q,-⟩|⟨q,-⟩
  ·exact .inl q
  ·exact .inr q
 have one:∀ {n':No},(n'.live=n.live/\(n.vw m.line).w=false\/n'.live=false)->(n'.vw m.line).w=false->(∀ l,l ≠ m.line->Ab n n' l)->KW n n':=by
  intro n' hlv hw' hab hl;rcases hlv with ⟨e,hw⟩|e
  ·refine ⟨by rw [<-e];exact hl,λ i=>?_⟩
   by_cases q:i=m.line
   ·rw [q];exact .inr ⟨hw,hw'⟩
   ·exact .inl (Ab.kw (hab i q) hl)
  ·rw [e] at hl;cases hl
 rcases hh with ⟨k,s⟩|⟨k,s⟩|⟨k,o⟩|⟨k,o⟩|⟨k,o⟩
 ·rw [es] at s;obtain ⟨-,-,-,-,hv,hab⟩:=q45 h hc h0 h1 k s;intro hl;refine ⟨Nz n m hl,λ i=>?_⟩
  by_cases q:i=m.line
  ·rw [q];exact .inr ⟨uK h s,by rw [hv];rfl⟩
  ·exact .inl (Ab.kw (hab i q) hl)
 ·rw [es] at s
  by_cases z:n.st m.line=0
  ·rw [gK h hc h0 h1 k z];exact KW.refl n
  ·have s2:n.st m.line=2:=by omega
   rcases k with k|k
   ·obtain ⟨-,-,-,-,-,hw,-,hlv,hab⟩:=qvp h hc h0 h1 k s2;exact one hlv hw hab
   ·obtain ⟨-,-,-,-,hv,hlv,hab⟩:=qvs h hc h0 h1 k s2;exact one hlv (by rw [hv];rfl) hab
 all_goals try (rw [gf hc h0 h1 k o];exact λ hl=>⟨hl,λ l=>.inl rfl⟩)
 all_goals
  have fillk:(m.k=14/\n.out=n.msg 1 m.line\/m.k=15/\n.out=n.msg 2 m.line)->n.st m.line=0->KW n (n.az m).1:=by
   intro hk hs;obtain ⟨o',-,f⟩:=Lr h hc h0 h1 hk hs;intro hl;refine ⟨Nz n m hl,λ i=>?_⟩
   by_cases q:i=m.line
   ·rw [q];exact .inr ⟨uK h (by rw [hs];decide),by rw [f.new]⟩
   ·rcases f.go with ⟨-,-,hab⟩|⟨b,-,-,-,hvb,hab,hlv,-⟩
    ·exact .inl (Ab.kw (hab i q) hl)
    ·by_cases qb:i=b
     ·rw [qb];rcases hlv with ⟨-,hw⟩|e
      ·exact .inr ⟨hw,by rw [hvb];rfl⟩
      ·rw [e] at hl;cases hl
     ·exact .inl (Ab.kw (hab i q qb) hl)
 ·exact fillk (.inl ⟨k,o⟩) (t1 o)
 ·by_cases z:n.st m.line=0
  ·exact fillk (.inr ⟨k,o⟩) z
  ·have s1:n.st m.line=1:=by have:=t2 o;omega
   obtain ⟨-,-,-,-,el,hv⟩:=q82 h hc h0 h1 k o s1;intro hl;refine ⟨by rw [<-el];exact hl,λ i=>?_⟩;rw [hv i]
   by_cases q:i=m.line
   ·rw [qm q,q];have hw:=uK h (l:=m.line) (by rw [s1];decide);exact .inr ⟨hw,hw⟩
   ·rw [qe q];exact .inl rfl
def OL (n:No) (own:List Pr) (V:Int->L8):Prop:=∀ (l:Int) (i:Nat),0<=l->i<8->((n.vw l).w=true->(n.vw l).d.get i=(dM own (8*l+i)).getD ((V l).get i))/\((n.vw l).w=false->dM own (8*l+i)=none)
theorem OL.kw {n n':No} {own:List Pr} {V:Int->L8} (h:OL n own V) (k:∀ l,n'.vw l=n.vw l\/(n.vw l).w=false/\(n'.vw l).w=false):OL n' own V:=λ l i h0 hi=>by
 rcases k l with e|⟨a,b⟩
 ·rw [e];exact h l i h0 hi
 ·exact ⟨λ q=>(by rw [b] at q;cases q),λ _=>(h l i h0 hi).2 a⟩
theorem OL.v {n:No} {own:List Pr} {V V':Int->L8} (h:OL n own V) (k:∀ l,(n.vw l).w=true->V' l=V l):OL n own V':=λ l i h0 hi=>⟨λ q=>by rw [k l q];exact (h l i h0 hi).1 q,(h l i h0 hi).2⟩
theorem OL.nil {n:No} (V:Int->L8) (h:∀ l,(n.vw l).w=false):OL n [] V:=λ l i h0 hi=>⟨λ q=>(by rw [h l] at q;cases q),λ _=>rfl⟩
theorem nz {a:Int} (h0:0<=a):a=8*ln a+(a.toNat % 8:Nat):=by unfold ln;omega
theorem Bh {l a:Int} {i:Nat} (h0:0<=a) (hl:0<=l) (hi:i<8) (e:a=8*l+i):l=ln a/\i=a.toNat % 8:=by unfold ln;omega
theorem OL.store {n n':No} {own:List Pr} {V:Int->L8} (h:OL n own V) {a y:Int} (h0:0<=a) (hb:(n.vw (ln a)).w=false->(n.vw (ln a)).d=V (ln a)) (hv:∀ l,n'.vw l=if l=ln a then (n.vw l).put true (a.toNat % 8) y else n.vw l):OL n' (own ++ [⟨a,y⟩]) V:=by
 intro l i hl hi;rw [hv l,Nj];have hm:a.toNat % 8<8:=ry _ (by decide)
 by_cases q:l=ln a
 ·rw [qm q];refine ⟨λ _=>?_,λ w=>?_⟩
  ·show ((n.vw l).d.put (a.toNat % 8) y).get i=_
   by_cases e:a=8*l+i
   ·rw [qm e,<-(Bh h0 hl hi e).2,L8.pX _ hi];rfl
   ·have hne:a.toNat % 8 ≠ i:=λ w=>e (by rw [q,<-w];exact nz h0);rw [qe e,rS _ hne];cases hw:(n.vw l).w with
    | true=>exact (h l i hl hi).1 hw
    | false =>
     rw [(h l i hl hi).2 hw];rw [q] at hw ⊢;rw [hb hw];rfl
  ·have:((n.vw l).w || true)=false:=w;rw [Bool.or_true] at this;cases this
 ·rw [qe q];have e:¬ a=8*l+i:=λ e=>q (Bh h0 hl hi e).1;rw [qe e];exact h l i hl hi
structure GV (b:Bu) (g:Gh) (V:Int->L8):Prop where
 w:∀ a:Int,0<=a->a<8*b.l.length->g.at' a=(V (ln a)).get (a.toNat % 8)
 o:∀ (c:Nat) n,b.ns[c]? = some n->n.live=true->OL n (g.own c) V
theorem q2o (w:List Int) (a:Int) (h0:0<=a) (hl:a.toNat<w.length):∀ r:List Pr,(∀ p ∈ r,0<=p.a)->((dA w r.reverse)[a.toNat]?).getD 0=(dM r.reverse a).getD ((w[a.toNat]?).getD 0)
 | [],_=>rfl
 | p::r,hp=>by
  have ih:=q2o w a h0 hl r λ q hq=>hp q (ww _ hq);have p0:=hp p (BP ..);rw [List.reverse_cons,qwz,Nj]
  by_cases e:p.a=a
  ·rw [qm e,e,xg (by rw [I1];exact hl)];rfl
  ·rw [qe e,xt (by omega)];exact ih
section
variable {b:Bu} {V:Int->L8} {g:Gh} {k:Nat}
theorem DZ (hI:BuI b V) {c:Nat} {n:No} (hn:b.ns[c]? = some n) {l:Int} (hs:n.st l=2):∀ (d:Nat) n',b.ns[d]? = some n'->d ≠ c->(n'.vw l).w=false:=λ d n' hd hne=>by
 have hr:=hI.kV hn (show n.st l ≠ 0 by rw [hs];decide);obtain ⟨x,w,-,-,he⟩:=hI.entry hr.1 hr.2;obtain ⟨-,-,a,-⟩:=hI.alone hn hs he;exact uK (hI.nw d n' hd).ni (by rw [a d n' hd hne];decide)
theorem xag (hI:BuI b V) (hg:GI b g k) (h:GV b g V) {c:Nat} {n:No} (hn:b.ns[c]? = some n) {a:Int} (hm:n.may a) (hs:n.st (ln a) ≠ 0):(n.vw (ln a)).d.get (a.toNat % 8)=(dM (g.own c) a).getD (g.at' a):=by
 have w:=hI.nw c n hn;obtain ⟨a0,a1⟩:=DE w hm;have hln:=Jh hm;have hb:(n.vw (ln a)).base=V (ln a):=hI.bs c n hn (ln a) hs;rw [h.w a a0 (by omega)];have e:=nz a0;have h8:a.toNat % 8<8:=ry _ (by decide);have hbase:(n.vw (ln a)).w=false->(n.vw (ln a)).d=V (ln a):=λ q=>by rw [<-hb];unfold Vw.base;rw [q];rfl
 cases hl:n.live with
 | true =>
  obtain ⟨o1,o2⟩:=h.o c n hn hl (ln a) (a.toNat % 8) hln.1 h8;rw [<-e] at o1 o2;cases hw:(n.vw (ln a)).w with
  | true=>exact o1 hw
  | false=>rw [o2 hw,hbase hw];rfl
 | false =>
  have hw:(n.vw (ln a)).w=false:=JV w.ni hl;have hgl:g.live c=false:=by rw [hg.D3,lX hn];exact hl
  rw [hg.Fk c hgl,hbase hw];rfl
theorem sL (n:No) (k l i:Int):(n.ask k l).1.vw i=n.vw i:=by unfold No.ask;split<;>rfl
theorem Af {n:No} (h:n.NI) (a l:Int):(n.load a).1.vw l=n.vw l:=by
 by_cases hm:n.may a
 ·by_cases hs:n.st (ln a)=0
  ·rw [MY h hm hs];exact sL ..
  ·exact (N6 h hm hs).2.2.2.2.2.2.2 l
 ·unfold No.load;rw [qe hm]
theorem q89 {n:No} (h:n.NI) {a:Int} (hd:(n.load a).2.2.1=true):n.may a/\n.st (ln a) ≠ 0:=by
 have hm:=q5b hd;refine ⟨hm,λ hs=>?_⟩;rw [MY h hm hs] at hd;cases hd
theorem q7g {n:No} (h:n.NI) {a y:Int} (hd:(n.store a y).2.1=true):n.may a/\n.st (ln a)=2:=by
 have hm:=Mo hd;refine ⟨hm,?_⟩
 by_cases hs:n.st (ln a)=2
 ·exact hs
 ·rw [KH h y hm hs] at hd;cases hd
theorem tu {n:No} (h:n.NI) {a y:Int} (hd:(n.store a y).2.1=false) (l:Int):(n.store a y).1.vw l=n.vw l:=by
 by_cases hm:n.may a
 ·by_cases hs:n.st (ln a)=2
  ·rw [(Kq h y hm hs).1] at hd;cases hd
  ·rw [KH h y hm hs];exact sL ..
 ·unfold No.store;rw [qe hm]
theorem lR (h:GV b g V) {c:Nat} {n n':No} {o:List Mg} (hn:b.ns[c]? = some n) {eh:Nat->List Pr} {V':Int->L8} (ho:∀ d,d ≠ c->eh d=g.own d) (hv:∀ (d:Nat) n2 l,b.ns[d]? = some n2->d ≠ c->(n2.vw l).w=true->V' l=V l) (hc:n'.live=true->OL n' (eh c) V') :
 ∀ (d:Nat) m,(b.put c (n',o)).ns[d]? = some m->m.live=true->OL m (eh d) V':=by
 intro d m hm hl;have hm:(b.ns.set c n')[d]? = some m:=hm
 by_cases q:d=c
 ·rw [q,xg (qj.1 hn).1] at hm;injection hm with hm;subst hm
  rw [q];exact hc hl
 ·rw [xt (ve q)] at hm;rw [ho d q];exact (h.o d m hm hl).v λ l w=>hv d m l hm q w
end
end Go.Am
namespace Go.Am
open No BuI
section
variable {b:Bu} {V:Int->L8} {g:Gh} {k:Nat}
structure GM (b:Bu) (g':Gh) (V':Int->L8):Prop where
 w:∀ a:Int,0<=a->a<8*b.l.length->g'.at' a=(V' (ln a)).get (a.toNat % 8)
 o:∀ (c:Nat) n,b.ns[c]? = some n->n.live=true->OL n (g'.own c) V'
theorem GM.tail {b':Bu} {g':Gh} {V':Int->L8} (h:GM b' g' V'):GV b' (g'.tail b'.lv 4) V':=⟨h.w,λ c n hn hl=>by
 have e:(g'.tail b'.lv 4).own c=g'.own c:=by
  show (if c<4/\g'.live c=true/\b'.lv c=false then [] else g'.own c)=_;rw [qe (λ q=>by rw [lX hn,hl] at q;cases q.2.2)]
 rw [e];exact h.o c n hn hl⟩
theorem q2u (V:Int->L8) (live:Bool) (a y:Int) (l:Int) (h:l ≠ ln a):fY V live a y l=V l:=qe (λ q=>h q.2)
theorem q92 (V:Int->L8) (a y:Int):fY V true a y=V:=by
 funext l;unfold fY;rw [qe (λ q=>by cases q.1)]
theorem CK {g:Gh} {a y:Int} (h0:0<=a) (hl:a.toNat<g.w.length) (z:Int) (z0:0<=z):Gh.at' { g with w:=g.w.set a.toNat y } z=if z=a then y else g.at' z:=by
 unfold Gh.at'
 by_cases e:z=a
 ·rw [qm e,e,xg hl];rfl
 ·rw [qe e,xt (by omega)]
theorem vQ (h:GV b g V) {a y:Int} (a0:0<=a) (ha:a.toNat<g.w.length):∀ z:Int,0<=z->z<8*b.l.length->Gh.at' { g with w:=g.w.set a.toNat y } z=(fY V false a y (ln z)).get (z.toNat % 8):=by
 intro z z0 z1;rw [CK a0 ha z z0];have h8:a.toNat % 8<8:=ry _ (by decide)
 by_cases e:z=a
 ·rw [qm e,e];unfold fY;rw [qm ⟨rfl,rfl⟩,L8.pX _ h8]
 ·rw [qe e,h.w z z0 z1];unfold fY
  by_cases q:ln z=ln a
  ·rw [qm ⟨rfl,q⟩,rS];intro w;have e1:=nz z0;have e2:=nz a0;rw [q,<-w,<-e2] at e1;exact e e1
  ·rw [qe (λ w=>q w.2)]
theorem Eb (hI:BuI b V) (hg:GI b g k) (h:GV b g V) {c:Nat} {n:No} (hn:b.ns[c]? = some n) (x:Bt) (hx:x.k ≠ 7) (hc:x.c=(c:Int)):(g.act n x c).2=true/\GM (b.put c (n.call x)) (g.act n x c).1 (fw b V x):=by
 have w:=hI.nw c n hn;have hgl:g.live c=n.live:=by rw [hg.D3,lX hn]
 have hwl:=hg.len;have eV:fw b V x=(if x.k=1 then if (n.store x.n x.v).2.1=true then fY V n.live x.n x.v else V
  else if x.k=2 then if BuI.oZ n x.n x.o then fY V false x.n x.v else V
  else if x.k=4 then λ l=>if n.live=true/\n.st l=2 then (n.vw l).d else V l
  else V):=by
  unfold fw;rw [qm (by omega),show x.c.toNat=c by omega,hn]
 have same:∀ (n':No) (o:List Mg),(n'.live=true->OL n' (g.own c) V)->GM (b.put c (n',o)) g V:=λ n' o hc=>⟨h.w,lR h hn (λ _ _=>rfl) (λ _ _ _ _ _ _=>rfl) hc⟩
 have kw:∀ {n':No},KW n n'->n'.live=true->OL n' (g.own c) V:=λ q hl=>(h.o c n hn (q hl).1).kw (q hl).2;unfold Gh.act No.call;rw [eV]
 by_cases k0:x.k=0
 ·rw [qm k0,qm k0,qe (show ¬ x.k=1 by omega),qe (show ¬ x.k=2 by omega),qe (show ¬ x.k=4 by omega)];refine ⟨?_,same _ _ (kw λ hl=>⟨by rw [<-q12 n x.n];exact hl,λ l=>.inl (Af w.ni _ l)⟩)⟩;show (if _ then _ else true)=true;split
  ·rename_i hd;obtain ⟨hm,hs⟩:=q89 w.ni hd.1;rw [wT];rw [(N6 w.ni hm hs).1];exact xag hI hg h hn hm hs
  ·rfl
 rw [qe k0,qe k0]
 by_cases k1:x.k=1
 ·rw [qm k1,qm k1,qm k1];refine ⟨rfl,?_⟩;cases hd:(n.store x.n x.v).2.1 with
  | false =>
   rw [qe (show ¬ (false=true) by decide),qe (show ¬ (false=true/\(n.store x.n x.v).2.2.2=0) from λ q=>by cases q.1)];exact same _ _ (kw λ hl=>⟨by rw [<-qy1 n x.n x.v];exact hl,λ l=>.inl (tu w.ni hd l)⟩)
  | true =>
   obtain ⟨hm,hs⟩:=q7g w.ni hd;obtain ⟨e2,-,-,-,-,el,-,hv⟩:=Kq w.ni x.v hm hs;obtain ⟨a0,a1⟩:=DE w hm;have he:(n.store x.n x.v).2.2.2=0:=by rw [e2]
   have hb:(n.vw (ln x.n)).base=V (ln x.n):=hI.bs c n hn (ln x.n) (by rw [show (n.st (ln x.n))=2 from hs];decide);rw [qm (show (true:Bool)=true from rfl),qm (show (true:Bool)=true/\(n.store x.n x.v).2.2.2=0 from ⟨rfl,he⟩)];cases hl:n.live with
   | true =>
    rw [hgl,hl,qm rfl,q92];refine ⟨h.w,lR h hn (λ d q=>pz q) (λ _ _ _ _ _ _=>rfl) λ _=>?_⟩;show OL _ (fZ g.own c _ c) V;rw [rB];exact (h.o c n hn hl).store a0 (λ q=>by rw [<-hb];unfold Vw.base;rw [q];rfl) λ l=>by rw [hv l,hl]
   | false =>
    rw [hgl,hl,qe (by decide)];refine ⟨vQ h a0 (by omega),lR h hn (λ _ _=>rfl) (λ d n2 l hd2 hne hw=>q2u _ _ _ _ _ λ q=>?_) λ q=>by rw [el,hl] at q;cases q⟩;rw [q,DZ hI hn hs d n2 hd2 hne] at hw;cases hw
 rw [qe k1,qe k1,qe k1]
 by_cases k2:x.k=2
 ·rw [qm k2,qm k2,qm k2];have no:∀ e,n.bL x.n x.o=(false,false,e) -> ¬ BuI.oZ n x.n x.o->(KW n (n.dP x.n x.o x.v).1)->((if (n.bL x.n x.o).2.1=true/\(n.bL x.n x.o).2.2=0 then if (n.bL x.n x.o).1=true then { g with w:=g.w.set x.n.toNat x.v } else g else g,
   if (n.bL x.n x.o).2.1=true/\(n.bL x.n x.o).2.2=0 then decide ((n.bL x.n x.o).1=decide (g.at' x.n=x.o)) else true):Gh × Bool).2=true/\GM (b.put c (n.dP x.n x.o x.v)) ((if (n.bL x.n x.o).2.1=true/\(n.bL x.n x.o).2.2=0 then if (n.bL x.n x.o).1=true then { g with w:=g.w.set x.n.toNat x.v } else g else g,
   if (n.bL x.n x.o).2.1=true/\(n.bL x.n x.o).2.2=0 then decide ((n.bL x.n x.o).1=decide (g.at' x.n=x.o)) else true):Gh × Bool).1 (if BuI.oZ n x.n x.o then fY V false x.n x.v else V):=by
    intro e hc ht hk;rw [hc,qe ht];exact ⟨rfl,same _ _ (kw hk)⟩
  by_cases hm:n.may x.n
  ·cases hl:n.live with
   | true=>exact no 41 (by unfold No.bL;rw [qm hm,qm hl]) (λ q=>by have:=q.2.1;rw [hl] at this;cases this) (by unfold No.dP;rw [qm hm,qm hl];exact KW.refl n)
   | false =>
    by_cases hs:n.st (ln x.n)=2
    ·obtain ⟨-,-,-,-,-,el,-,hw,-⟩:=q79 w.ni x.o x.v hm hl hs;obtain ⟨a0,a1⟩:=DE w hm;have hv:=xag hI hg h hn hm (by rw [show n.st (ln x.n)=2 from hs];decide);rw [hg.Fk c (by rw [hgl];exact hl)] at hv;have hv:(n.vw (ln x.n)).d.get (x.n.toNat % 8)=g.at' x.n:=hv;have hcv:n.bL x.n x.o=(decide (g.at' x.n=x.o),true,0):=by
      unfold No.bL;rw [qm hm,qe (by rw [hl];decide),qm ((F1 w.ni _).2 hs),hw,hv];rfl
     have fin:∀ V',(∀ (d:Nat) n2 l,b.ns[d]? = some n2->d ≠ c->(n2.vw l).w=true->V' l=V l) -> ∀ (d:Nat) m,(b.put c (n.dP x.n x.o x.v)).ns[d]? = some m->m.live=true->OL m (g.own d) V':=λ V' hv'=>lR (n':=(n.dP x.n x.o x.v).1) (o:=(n.dP x.n x.o x.v).2) h hn (λ _ _=>rfl) hv' λ q=>by rw [show (n.dP x.n x.o x.v).1.live=false from el.trans hl] at q;cases q
     rw [hcv];refine ⟨?_,?_⟩
     ·show (if True/\(0:Int)=0 then decide (decide (g.at' x.n=x.o)=decide (g.at' x.n=x.o)) else true)=true;rw [qm ⟨trivial,rfl⟩,wT rfl]
     ·show GM _ (if (true:Bool)=true/\(0:Int)=0 then if decide (g.at' x.n=x.o)=true then { g with w:=g.w.set x.n.toNat x.v } else g else g) _;rw [qm (show (true:Bool)=true/\(0:Int)=0 from ⟨rfl,rfl⟩)]
      by_cases q:g.at' x.n=x.o
      ·rw [qm (wT q),qm (show BuI.oZ n x.n x.o from ⟨hm,hl,hs,by rw [hv];exact q⟩)];exact ⟨vQ h a0 (by omega),fin _ λ d n2 l hd2 hne hw=>q2u _ _ _ _ _ λ q=>by rw [q,DZ hI hn hs d n2 hd2 hne] at hw;cases hw⟩
      ·rw [qe (by rw [AX q];decide),qe (λ w=>q (by rw [<-hv];exact w.2.2.2))];exact ⟨h.w,fin V λ _ _ _ _ _ _=>rfl⟩
    ·refine no 0 (by unfold No.bL;rw [qm hm,qe (by rw [hl];decide),qe (λ q=>hs ((F1 w.ni _).1 q))]) (λ q=>hs q.2.2.1) λ q=>?_;rw [q4q,hl] at q;cases q
  ·exact no 2 (by unfold No.bL;rw [qe hm]) (λ q=>hm q.1) (by unfold No.dP;rw [qe hm];exact KW.refl n)
 rw [qe k2,qe k2,qe k2]
 by_cases k3:x.k=3
 ·rw [qm k3,qm k3,qe (show ¬ x.k=4 by omega)];refine ⟨rfl,?_⟩;show GM (b.put c (n.begin,[])) (if n.live=true then g else _) V;unfold No.begin;cases hl:n.live with
  | true =>
   rw [qm rfl,qm rfl];exact same _ _ (kw (KW.refl n))
  | false =>
   rw [qe (by decide),qe (by decide)];refine ⟨h.w,lR h hn (λ _ _=>rfl) (λ _ _ _ _ _ _=>rfl) λ _=>?_⟩;show OL _ (g.own c) V;rw [hg.Fk c (by rw [hgl];exact hl)];exact OL.nil V λ l=>JV (n:=n) w.ni hl
 rw [qe k3,qe k3]
 by_cases k4:x.k=4
 ·rw [qm k4,qm k4,qm k4];refine ⟨rfl,?_⟩;show GM (b.put c (n.bl,[])) (if n.live=true then _ else g) _;unfold No.bl;cases hl:n.live with
  | false =>
   rw [qe (by decide),qe (by decide)];have:(λ l=>if false=true/\n.st l=2 then (n.vw l).d else V l)=V:=by
    funext l;rw [qe (λ q=>by cases q.1)]
   rw [this];exact same _ _ (kw (KW.refl n))
  | true =>
   rw [qm rfl,qm rfl];refine ⟨λ a a0 a1=>?_,lR h hn (λ _ _=>rfl) (λ d n2 l hd2 hne hw=>?_) λ q=>by cases q⟩
   ·have pa:=q2o g.w a a0 (by have:a<8*b.l.length:=a1;omega) (g.own c).reverse (λ p hp=>(hg.own c p (List.mem_reverse.1 hp)).1);rw [List.reverse_reverse] at pa;show ((dA g.w (g.own c))[a.toNat]?).getD 0=_;rw [pa];show (dM (g.own c) a).getD (g.at' a)=_;rw [h.w a a0 a1];have e:=nz a0;have h8:a.toNat % 8<8:=ry _ (by decide);obtain ⟨o1,o2⟩:=h.o c n hn hl (ln a) (a.toNat % 8) (by unfold ln;omega) h8;rw [<-e] at o1 o2
    by_cases hs:n.st (ln a)=2
    ·rw [qm ⟨rfl,hs⟩];cases hw:(n.vw (ln a)).w with
     | true=>exact (o1 hw).symm
     | false =>
      have hb:(n.vw (ln a)).base=V (ln a):=hI.bs c n hn (ln a) (by rw [hs];decide);have:(n.vw (ln a)).d=V (ln a):=by rw [<-hb];unfold Vw.base;rw [hw];rfl
      rw [o2 hw,this];rfl
    ·rw [qe (λ q=>hs q.2),o2 (uK w.ni hs)];rfl
   ·by_cases hs:n.st l=2
    ·rw [DZ hI hn hs d n2 hd2 hne] at hw;cases hw
    ·rw [qe (λ q=>hs q.2)]
 rw [qe k4,qe k4,qe k4]
 by_cases k5:x.k=5
 ·rw [qm k5];refine ⟨rfl,?_⟩;unfold No.abort;split
  ·split
   ·exact same _ _ (kw (KW.refl n))
   ·exact same _ _ λ q=>by cases q
  ·exact same _ _ (kw (KW.refl n))
 rw [qe k5]
 by_cases k6:x.k=6
 ·rw [qm k6];exact ⟨rfl,same _ _ (kw (yS w.ni _))⟩
 rw [qe k6];exact ⟨rfl,same _ _ (kw (KW.refl n))⟩
theorem xT (hI:BuI b V) (hg:GI b g k) (h:GV b g V) (x:Bt):(g.eI b x).2=true/\GV (b.step x) (g.lJ b x) (if x.k=7 then V else fw b V x):=by
 suffices q:(g.eI b x).2=true/\GM (b.step x) (g.eI b x).1 (if x.k=7 then V else fw b V x) from ⟨q.1,q.2.tail⟩
 have hrefl:GM b g V:=⟨h.w,h.o⟩
 unfold Gh.eI Bu.step
 by_cases k7:x.k=7
 ·rw [qm k7,qm k7,qm k7];refine ⟨rfl,?_⟩;split
  ·unfold Bu.tG;cases hm:b.fl[x.n.toNat]? with
   | none=>exact hrefl
   | some m =>
    simp only;split
    ·cases b.l[m.line.toNat]? with
     | none=>exact hrefl
     | some y =>
      cases b.m[m.line.toNat]? with
      | none=>exact hrefl
      | some v=>exact ⟨λ a a0 a1=>h.w a a0 (by have a1:a<8*((b.l.set m.line.toNat (y.az v m).1).length:Int):=a1;rw [xc] at a1;exact a1),h.o⟩
    ·cases hn:b.ns[m.core.toNat]? with
     | none=>exact hrefl
     | some n =>
      obtain ⟨mk,mc,ml⟩:=hI.mw m (ja hm);have w:=hI.nw _ n hn;have lcs:∃ x q bk,LC x (m.core.toNat:Int) (n.st m.line) (n.ot m.line) bk q 0 0:=by
       obtain ⟨y,v,-,-,he⟩:=hI.entry ml.1 ml.2;have:=he.lc (m.core.toNat:Int) (by omega) (by omega);obtain ⟨a1,a2,a3⟩:=cu hn m.line;rw [a1,a2] at this;exact ⟨y,_,_,this⟩
      obtain ⟨y,q,bk,lc⟩:=lcs;have ot:∀ k,n.out=n.msg k m.line->n.ot m.line=k:=λ k e=>by unfold No.ot;rw [e];exact qm rfl
      have hk:KW n (n.az m).1:=yH w.ni m (λ e=>lc.t1 (ot 1 e)) (λ e=>lc.t2 (ot 2 e));refine ⟨h.w,λ c n' hn' hl=>?_⟩;have hn':(b.ns.set m.core.toNat (n.az m).1)[c]? = some n':=hn'
      by_cases q:c=m.core.toNat
      ·rw [q,xg (qj.1 hn).1] at hn';injection hn' with hn';subst hn'
       rw [q];exact (h.o _ n hn (hk hl).1).kw (hk hl).2
      ·rw [xt (ve q)] at hn';exact h.o c n' hn' hl
  ·exact hrefl
 rw [qe k7,qe k7,qe k7]
 by_cases c0:0<=x.c
 ·rw [qm c0,qm c0];cases hn:b.ns[x.c.toNat]? with
  | none =>
   have:fw b V x=V:=by unfold fw;rw [qm c0,hn]
   rw [this];exact ⟨rfl,hrefl⟩
  | some n=>exact Eb hI hg h hn x k7 (by omega)
 ·rw [qe c0,qe c0];have:fw b V x=V:=by unfold fw;rw [qe c0]
  rw [this];exact ⟨rfl,hrefl⟩
end
end Go.Am
